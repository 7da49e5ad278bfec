/- Contracts. -/
import Derived.Test.YtmoiehbhhplckaaProg
import Derived.Test.YtmoiehbhhplckaaK
import Derived.Test.YtmoiehbhhplckaaN0
import Derived.Tactics
import Derived.Tactics2
import Derived.WalkKit
import Derived.WalkSpells
import Derived.WalkLawsBesides
import Derived.StillTactics
import Derived.StillTailTactics
import Derived.OwnWalk
import Derived.Laws.Pointers
import Derived.Laws.ResultCell
import Derived.Deep.RegionHeld3
import Derived.Deep.RegionWith
import Derived.Deep.RegionLaw
import Derived.Deep.AppendLies
import Derived.Deep.QuietTactic
import Derived.BigQuiet
import Derived.LoopTactic
import Derived.Deep.LoopGhost
import Derived.Deep.DeepCutAuto
import Derived.Deep.DeepFit
import Derived.Maps.AppendAt
import Derived.Below
import Derived.Lib.Hide
import Derived.Handy
import Derived.KernelRfl
import Derived.IntWalk
namespace Go.Proofs.Ytmoiehbhhplckaa
set_option linter.unusedVariables false
set_option linter.unusedSimpArgs false
open Go.RowKit

theorem ret_pair {a b : Int} {p q : Bool} (h : a = b ∧ p = q) : Ending.returned (.tuple #[.int .i64 a, .bool p]) = .returned (.tuple #[.int .i64 b, .bool q]) := by rw [h.1, h.2]
def PairP (v : Int × Bool) (w : World) (e : Ending) (w' : World) : Prop := e = .returned (.tuple #[.int .i64 v.1, .bool v.2]) ∧ w = w'

set_option maxHeartbeats 400000 in
theorem radd_c (a b : Int) (w : World) (ha : Fit a) (hb : Fit b) : Calls Try.prog 13 #[.int .i64 a, .int .i64 b] w (PairP (addV a b) w) := by
  obtain ⟨ha, ha'⟩ := ha
  obtain ⟨hb, hb'⟩ := hb
  go_enter Try.func13, Try.ntmps13
  go_wp2
  all_goals
    go_returns
    refine ⟨ret_pair ?_, rfl⟩
    first
      | exact addV_yes (by unfold Fit; omega)
      | exact addV_no (by unfold Fit; omega)

set_option maxHeartbeats 400000 in
theorem rsub_c (a b : Int) (w : World) (ha : Fit a) (hb : Fit b) : Calls Try.prog 15 #[.int .i64 a, .int .i64 b] w (PairP (subV a b) w) := by
  obtain ⟨ha, ha'⟩ := ha
  obtain ⟨hb, hb'⟩ := hb
  go_enter Try.func15, Try.ntmps15
  go_wp2
  all_goals
    go_returns
    refine ⟨ret_pair ?_, rfl⟩
    first
      | exact subV_yes (by unfold Fit; omega)
      | exact subV_no (by unfold Fit; omega)

set_option maxHeartbeats 400000 in
theorem rneg_c (a : Int) (w : World) (ha : Fit a) : Calls Try.prog 19 #[.int .i64 a] w (PairP (negV a) w) := by
  go_enter Try.func19, Try.ntmps19
  go_wp2_with (go_at_call 15; refine (rsub_c 0 a _ (by unfold Fit; omega) ha).mono ?_; rintro e w' ⟨rfl, rfl⟩)
  go_returns
  refine ⟨ret_pair ?_, rfl⟩
  have : subV 0 a = negV a := by unfold subV negV; rw [Int.zero_sub]
  rw [← this]
  exact ⟨rfl, rfl⟩

set_option maxHeartbeats 400000 in
theorem rmul_c (a b : Int) (w : World) (ha : Fit a) (hb : Fit b) : Calls Try.prog 17 #[.int .i64 a, .int .i64 b] w (PairP (mulV a b) w) := by
  have ha0 := ha
  have hb1 := hb
  obtain ⟨ha, ha'⟩ := ha
  obtain ⟨hb, hb'⟩ := hb
  have HFA : Hid (Fit a) := ha0
  have HFB : Hid (Fit b) := hb1
  clear ha0 hb1
  by_cases h1 : a = 0 ∨ b = 0
  · have H := Lib.hid (mul_zero_way h1)
    have h2 : (a == 0) = true ∨ (b == 0) = true := by simpa using h1
    clear h1
    rcases h2 with h2 | h2
    all_goals
      go_enter Try.func17, Try.ntmps17
      go_wp2_with fail
    all_goals
      go_returns
      exact ⟨ret_pair H.out, rfl⟩
  · have h2 : (a == 0) = false := by simp; omega
    have h3 : (b == 0) = false := by simp; omega
    have hb0 : b ≠ 0 := by omega
    clear h1
    by_cases h4 : a = -1
    · have H := Lib.hid (mul_neg_way (b := b) h4)
      have h5 : (a == -1) = true := by simpa using h4
      clear h4 hb0
      go_enter Try.func17, Try.ntmps17
      go_wp2_with (go_at_call 19; refine (rneg_c _ _ HFB.out).mono ?_; rintro e w' ⟨rfl, rfl⟩)
      go_returns
      exact ⟨ret_pair H.out, rfl⟩
    · have h5 : (a == -1) = false := by simpa using h4
      by_cases h6 : b = -1
      · have H := Lib.hid (mul_neg_way2 (a := a) h6)
        have h7 : (b == -1) = true := by simpa using h6
        clear h4 h6 hb0
        go_enter Try.func17, Try.ntmps17
        go_wp2_with (go_at_call 19; refine (rneg_c _ _ HFA.out).mono ?_; rintro e w' ⟨rfl, rfl⟩)
        go_returns
        exact ⟨ret_pair H.out, rfl⟩
      · have h7 : (b == -1) = false := by simpa using h6
        clear h4 h6
        go_enter Try.func17, Try.ntmps17
        go_wp2_with fail
        all_goals
          go_returns
          refine ⟨ret_pair ?_, rfl⟩
          first
            | exact mul_no_way ⟨ha, ha'⟩ hb0 (by assumption)
            | exact mul_yes_way ⟨ha, ha'⟩ ⟨hb, hb'⟩ hb0 (by simpa using h7) (by assumption)

/-! ## the program's -/
set_option maxHeartbeats 400000 in
theorem neg_c (a : Int) (w : World) (ha : Fit a) : Calls Try.prog 18 #[.int .i64 a] w (PairP (negV a) w) := by
  obtain ⟨ha, ha'⟩ := ha
  by_cases h : a = -9223372036854775808
  · have H := Lib.hid (negV_no (a := a) (by unfold Fit; omega))
    have h1 : (a == -9223372036854775808) = true := by simpa using h
    clear h
    go_enter Try.func18, Try.ntmps18
    go_wp2
    go_returns
    exact ⟨ret_pair H.out, rfl⟩
  · have H := Lib.hid (negV_yes (a := a) (by unfold Fit; omega))
    have h1 : (a == -9223372036854775808) = false := by simpa using h
    have h2 : -9223372036854775807 ≤ a := by omega
    clear h
    go_enter Try.func18, Try.ntmps18
    go_wp2
    go_returns
    exact ⟨ret_pair H.out, rfl⟩

theorem u64_neg {a : Int} (h0 : -9223372036854775808 ≤ a) (h : a < 0) : IntKind.u64.wrap (-IntKind.u64.wrap a) = (a.natAbs : Nat) := by
  have e : ∀ x : Int, IntKind.u64.wrap x = x % 18446744073709551616 := fun x => rfl
  rw [e, e]
  omega
theorem ret_u64 {a b : Int} (h : a = b) : Ending.returned (.int .u64 a) = .returned (.int .u64 b) := by rw [h]
set_option maxHeartbeats 400000 in
theorem size_c (a : Int) (w : World) (ha : Fit a) : Calls Try.prog 41 #[.int .i64 a] w fun e w' => e = .returned (.int .u64 (a.natAbs : Nat)) ∧ w = w' := by
  obtain ⟨ha, ha'⟩ := ha
  rcases (by omega : a < 0 ∨ 0 ≤ a) with h | h
  · have E := Lib.hid (u64_neg ha h)
    go_enter Try.func41, Try.ntmps41
    go_wp2
    go_returns
    exact ⟨ret_u64 E.out, rfl⟩
  · go_enter Try.func41, Try.ntmps41
    go_wp2
    go_returns
    exact ⟨ret_u64 (by omega), rfl⟩

set_option maxHeartbeats 800000 in
theorem add_c (a b : Int) (w : World) (ha : Fit a) (hb : Fit b) : Calls Try.prog 12 #[.int .i64 a, .int .i64 b] w (PairP (addV a b) w) := by
  have hw := add_wraps ha hb
  obtain ⟨ha, ha'⟩ := ha
  obtain ⟨hb, hb'⟩ := hb
  rcases (by omega : a < 0 ∨ 0 ≤ a) with h1 | h1 <;> rcases (by omega : b < 0 ∨ 0 ≤ b) with h2 | h2
  · rcases hw with ⟨h3, h4⟩ | ⟨h3, h4, h5, h6⟩ | ⟨h3, h4, h5, h6⟩
    · have H := Lib.hid (addV_yes h4)
      obtain ⟨f1, f2⟩ := h4
      have da : decide (a < 0) = true := by simp; omega
      have db : decide (b < 0) = true := by simp; omega
      have q : (a + b < 0 ∧ decide (a + b < 0) = true) ∨ (0 ≤ a + b ∧ decide (a + b < 0) = false) := by
        rcases (by omega : a + b < 0 ∨ 0 ≤ a + b) with x | x
        · exact .inl ⟨x, by simpa using x⟩
        · exact .inr ⟨x, by simp; omega⟩
      have hwe : wrap64 (a + b) = a + b := h3
      rcases q with ⟨x, y⟩ | ⟨x, y⟩
      all_goals
        first
          | (exfalso; omega)
          | (clear h3 hwe
             go_enter Try.func12, Try.ntmps12
             go_wp2
             go_returns
             exact ⟨ret_pair H.out, rfl⟩)
    · first
        | (exfalso; omega)
        | (have H := Lib.hid (addV_no h3)
           have da : decide (a < 0) = true := by simp; omega
           have db : decide (b < 0) = true := by simp; omega
           have q : decide (wrap64 (a + b) < 0) = true := by simpa using h6
           clear h3
           go_enter Try.func12, Try.ntmps12
           go_wp2
           go_returns
           exact ⟨ret_pair H.out, rfl⟩)
    · first
        | (exfalso; omega)
        | (have H := Lib.hid (addV_no h3)
           have da : decide (a < 0) = true := by simp; omega
           have db : decide (b < 0) = true := by simp; omega
           have q : decide (wrap64 (a + b) < 0) = false := by simpa using h6
           clear h3
           go_enter Try.func12, Try.ntmps12
           go_wp2
           go_returns
           exact ⟨ret_pair H.out, rfl⟩)
  · rcases hw with ⟨h3, h4⟩ | ⟨h3, h4, h5, h6⟩ | ⟨h3, h4, h5, h6⟩
    · have H := Lib.hid (addV_yes h4)
      obtain ⟨f1, f2⟩ := h4
      have da : decide (a < 0) = true := by simp; omega
      have db : decide (b < 0) = false := by simp; omega
      have q : (a + b < 0 ∧ decide (a + b < 0) = true) ∨ (0 ≤ a + b ∧ decide (a + b < 0) = false) := by
        rcases (by omega : a + b < 0 ∨ 0 ≤ a + b) with x | x
        · exact .inl ⟨x, by simpa using x⟩
        · exact .inr ⟨x, by simp; omega⟩
      have hwe : wrap64 (a + b) = a + b := h3
      rcases q with ⟨x, y⟩ | ⟨x, y⟩
      all_goals
        first
          | (exfalso; omega)
          | (clear h3 hwe
             go_enter Try.func12, Try.ntmps12
             go_wp2
             go_returns
             exact ⟨ret_pair H.out, rfl⟩)
    · first
        | (exfalso; omega)
        | (have H := Lib.hid (addV_no h3)
           have da : decide (a < 0) = true := by simp; omega
           have db : decide (b < 0) = false := by simp; omega
           have q : decide (wrap64 (a + b) < 0) = true := by simpa using h6
           clear h3
           go_enter Try.func12, Try.ntmps12
           go_wp2
           go_returns
           exact ⟨ret_pair H.out, rfl⟩)
    · first
        | (exfalso; omega)
        | (have H := Lib.hid (addV_no h3)
           have da : decide (a < 0) = true := by simp; omega
           have db : decide (b < 0) = false := by simp; omega
           have q : decide (wrap64 (a + b) < 0) = false := by simpa using h6
           clear h3
           go_enter Try.func12, Try.ntmps12
           go_wp2
           go_returns
           exact ⟨ret_pair H.out, rfl⟩)
  · rcases hw with ⟨h3, h4⟩ | ⟨h3, h4, h5, h6⟩ | ⟨h3, h4, h5, h6⟩
    · have H := Lib.hid (addV_yes h4)
      obtain ⟨f1, f2⟩ := h4
      have da : decide (a < 0) = false := by simp; omega
      have db : decide (b < 0) = true := by simp; omega
      have q : (a + b < 0 ∧ decide (a + b < 0) = true) ∨ (0 ≤ a + b ∧ decide (a + b < 0) = false) := by
        rcases (by omega : a + b < 0 ∨ 0 ≤ a + b) with x | x
        · exact .inl ⟨x, by simpa using x⟩
        · exact .inr ⟨x, by simp; omega⟩
      have hwe : wrap64 (a + b) = a + b := h3
      rcases q with ⟨x, y⟩ | ⟨x, y⟩
      all_goals
        first
          | (exfalso; omega)
          | (clear h3 hwe
             go_enter Try.func12, Try.ntmps12
             go_wp2
             go_returns
             exact ⟨ret_pair H.out, rfl⟩)
    · first
        | (exfalso; omega)
        | (have H := Lib.hid (addV_no h3)
           have da : decide (a < 0) = false := by simp; omega
           have db : decide (b < 0) = true := by simp; omega
           have q : decide (wrap64 (a + b) < 0) = true := by simpa using h6
           clear h3
           go_enter Try.func12, Try.ntmps12
           go_wp2
           go_returns
           exact ⟨ret_pair H.out, rfl⟩)
    · first
        | (exfalso; omega)
        | (have H := Lib.hid (addV_no h3)
           have da : decide (a < 0) = false := by simp; omega
           have db : decide (b < 0) = true := by simp; omega
           have q : decide (wrap64 (a + b) < 0) = false := by simpa using h6
           clear h3
           go_enter Try.func12, Try.ntmps12
           go_wp2
           go_returns
           exact ⟨ret_pair H.out, rfl⟩)
  · rcases hw with ⟨h3, h4⟩ | ⟨h3, h4, h5, h6⟩ | ⟨h3, h4, h5, h6⟩
    · have H := Lib.hid (addV_yes h4)
      obtain ⟨f1, f2⟩ := h4
      have da : decide (a < 0) = false := by simp; omega
      have db : decide (b < 0) = false := by simp; omega
      have q : (a + b < 0 ∧ decide (a + b < 0) = true) ∨ (0 ≤ a + b ∧ decide (a + b < 0) = false) := by
        rcases (by omega : a + b < 0 ∨ 0 ≤ a + b) with x | x
        · exact .inl ⟨x, by simpa using x⟩
        · exact .inr ⟨x, by simp; omega⟩
      have hwe : wrap64 (a + b) = a + b := h3
      rcases q with ⟨x, y⟩ | ⟨x, y⟩
      all_goals
        first
          | (exfalso; omega)
          | (clear h3 hwe
             go_enter Try.func12, Try.ntmps12
             go_wp2
             go_returns
             exact ⟨ret_pair H.out, rfl⟩)
    · first
        | (exfalso; omega)
        | (have H := Lib.hid (addV_no h3)
           have da : decide (a < 0) = false := by simp; omega
           have db : decide (b < 0) = false := by simp; omega
           have q : decide (wrap64 (a + b) < 0) = true := by simpa using h6
           clear h3
           go_enter Try.func12, Try.ntmps12
           go_wp2
           go_returns
           exact ⟨ret_pair H.out, rfl⟩)
    · first
        | (exfalso; omega)
        | (have H := Lib.hid (addV_no h3)
           have da : decide (a < 0) = false := by simp; omega
           have db : decide (b < 0) = false := by simp; omega
           have q : decide (wrap64 (a + b) < 0) = false := by simpa using h6
           clear h3
           go_enter Try.func12, Try.ntmps12
           go_wp2
           go_returns
           exact ⟨ret_pair H.out, rfl⟩)

set_option maxHeartbeats 800000 in
theorem sub_c (a b : Int) (w : World) (ha : Fit a) (hb : Fit b) : Calls Try.prog 14 #[.int .i64 a, .int .i64 b] w (PairP (subV a b) w) := by
  have hw := sub_wraps ha hb
  obtain ⟨ha, ha'⟩ := ha
  obtain ⟨hb, hb'⟩ := hb
  rcases (by omega : a < 0 ∨ 0 ≤ a) with h1 | h1 <;> rcases (by omega : b < 0 ∨ 0 ≤ b) with h2 | h2
  · rcases hw with ⟨h3, h4⟩ | ⟨h3, h4, h5, h6⟩ | ⟨h3, h4, h5, h6⟩
    · have H := Lib.hid (subV_yes h4)
      obtain ⟨f1, f2⟩ := h4
      have da : decide (a < 0) = true := by simp; omega
      have db : decide (b < 0) = true := by simp; omega
      have q : (a - b < 0 ∧ decide (a - b < 0) = true) ∨ (0 ≤ a - b ∧ decide (a - b < 0) = false) := by
        rcases (by omega : a - b < 0 ∨ 0 ≤ a - b) with x | x
        · exact .inl ⟨x, by simpa using x⟩
        · exact .inr ⟨x, by simp; omega⟩
      have hwe : wrap64 (a - b) = a - b := h3
      rcases q with ⟨x, y⟩ | ⟨x, y⟩
      all_goals
        first
          | (exfalso; omega)
          | (clear h3 hwe
             go_enter Try.func14, Try.ntmps14
             go_wp2
             go_returns
             exact ⟨ret_pair H.out, rfl⟩)
    · first
        | (exfalso; omega)
        | (have H := Lib.hid (subV_no h3)
           have da : decide (a < 0) = true := by simp; omega
           have db : decide (b < 0) = true := by simp; omega
           have q : decide (wrap64 (a - b) < 0) = true := by simpa using h6
           clear h3
           go_enter Try.func14, Try.ntmps14
           go_wp2
           go_returns
           exact ⟨ret_pair H.out, rfl⟩)
    · first
        | (exfalso; omega)
        | (have H := Lib.hid (subV_no h3)
           have da : decide (a < 0) = true := by simp; omega
           have db : decide (b < 0) = true := by simp; omega
           have q : decide (wrap64 (a - b) < 0) = false := by simpa using h6
           clear h3
           go_enter Try.func14, Try.ntmps14
           go_wp2
           go_returns
           exact ⟨ret_pair H.out, rfl⟩)
  · rcases hw with ⟨h3, h4⟩ | ⟨h3, h4, h5, h6⟩ | ⟨h3, h4, h5, h6⟩
    · have H := Lib.hid (subV_yes h4)
      obtain ⟨f1, f2⟩ := h4
      have da : decide (a < 0) = true := by simp; omega
      have db : decide (b < 0) = false := by simp; omega
      have q : (a - b < 0 ∧ decide (a - b < 0) = true) ∨ (0 ≤ a - b ∧ decide (a - b < 0) = false) := by
        rcases (by omega : a - b < 0 ∨ 0 ≤ a - b) with x | x
        · exact .inl ⟨x, by simpa using x⟩
        · exact .inr ⟨x, by simp; omega⟩
      have hwe : wrap64 (a - b) = a - b := h3
      rcases q with ⟨x, y⟩ | ⟨x, y⟩
      all_goals
        first
          | (exfalso; omega)
          | (clear h3 hwe
             go_enter Try.func14, Try.ntmps14
             go_wp2
             go_returns
             exact ⟨ret_pair H.out, rfl⟩)
    · first
        | (exfalso; omega)
        | (have H := Lib.hid (subV_no h3)
           have da : decide (a < 0) = true := by simp; omega
           have db : decide (b < 0) = false := by simp; omega
           have q : decide (wrap64 (a - b) < 0) = true := by simpa using h6
           clear h3
           go_enter Try.func14, Try.ntmps14
           go_wp2
           go_returns
           exact ⟨ret_pair H.out, rfl⟩)
    · first
        | (exfalso; omega)
        | (have H := Lib.hid (subV_no h3)
           have da : decide (a < 0) = true := by simp; omega
           have db : decide (b < 0) = false := by simp; omega
           have q : decide (wrap64 (a - b) < 0) = false := by simpa using h6
           clear h3
           go_enter Try.func14, Try.ntmps14
           go_wp2
           go_returns
           exact ⟨ret_pair H.out, rfl⟩)
  · rcases hw with ⟨h3, h4⟩ | ⟨h3, h4, h5, h6⟩ | ⟨h3, h4, h5, h6⟩
    · have H := Lib.hid (subV_yes h4)
      obtain ⟨f1, f2⟩ := h4
      have da : decide (a < 0) = false := by simp; omega
      have db : decide (b < 0) = true := by simp; omega
      have q : (a - b < 0 ∧ decide (a - b < 0) = true) ∨ (0 ≤ a - b ∧ decide (a - b < 0) = false) := by
        rcases (by omega : a - b < 0 ∨ 0 ≤ a - b) with x | x
        · exact .inl ⟨x, by simpa using x⟩
        · exact .inr ⟨x, by simp; omega⟩
      have hwe : wrap64 (a - b) = a - b := h3
      rcases q with ⟨x, y⟩ | ⟨x, y⟩
      all_goals
        first
          | (exfalso; omega)
          | (clear h3 hwe
             go_enter Try.func14, Try.ntmps14
             go_wp2
             go_returns
             exact ⟨ret_pair H.out, rfl⟩)
    · first
        | (exfalso; omega)
        | (have H := Lib.hid (subV_no h3)
           have da : decide (a < 0) = false := by simp; omega
           have db : decide (b < 0) = true := by simp; omega
           have q : decide (wrap64 (a - b) < 0) = true := by simpa using h6
           clear h3
           go_enter Try.func14, Try.ntmps14
           go_wp2
           go_returns
           exact ⟨ret_pair H.out, rfl⟩)
    · first
        | (exfalso; omega)
        | (have H := Lib.hid (subV_no h3)
           have da : decide (a < 0) = false := by simp; omega
           have db : decide (b < 0) = true := by simp; omega
           have q : decide (wrap64 (a - b) < 0) = false := by simpa using h6
           clear h3
           go_enter Try.func14, Try.ntmps14
           go_wp2
           go_returns
           exact ⟨ret_pair H.out, rfl⟩)
  · rcases hw with ⟨h3, h4⟩ | ⟨h3, h4, h5, h6⟩ | ⟨h3, h4, h5, h6⟩
    · have H := Lib.hid (subV_yes h4)
      obtain ⟨f1, f2⟩ := h4
      have da : decide (a < 0) = false := by simp; omega
      have db : decide (b < 0) = false := by simp; omega
      have q : (a - b < 0 ∧ decide (a - b < 0) = true) ∨ (0 ≤ a - b ∧ decide (a - b < 0) = false) := by
        rcases (by omega : a - b < 0 ∨ 0 ≤ a - b) with x | x
        · exact .inl ⟨x, by simpa using x⟩
        · exact .inr ⟨x, by simp; omega⟩
      have hwe : wrap64 (a - b) = a - b := h3
      rcases q with ⟨x, y⟩ | ⟨x, y⟩
      all_goals
        first
          | (exfalso; omega)
          | (clear h3 hwe
             go_enter Try.func14, Try.ntmps14
             go_wp2
             go_returns
             exact ⟨ret_pair H.out, rfl⟩)
    · first
        | (exfalso; omega)
        | (have H := Lib.hid (subV_no h3)
           have da : decide (a < 0) = false := by simp; omega
           have db : decide (b < 0) = false := by simp; omega
           have q : decide (wrap64 (a - b) < 0) = true := by simpa using h6
           clear h3
           go_enter Try.func14, Try.ntmps14
           go_wp2
           go_returns
           exact ⟨ret_pair H.out, rfl⟩)
    · first
        | (exfalso; omega)
        | (have H := Lib.hid (subV_no h3)
           have da : decide (a < 0) = false := by simp; omega
           have db : decide (b < 0) = false := by simp; omega
           have q : decide (wrap64 (a - b) < 0) = false := by simpa using h6
           clear h3
           go_enter Try.func14, Try.ntmps14
           go_wp2
           go_returns
           exact ⟨ret_pair H.out, rfl⟩)
end Go.Proofs.Ytmoiehbhhplckaa
