/- The quota layer: contracts of the numbers and of (*quota.Bucket).later, till, At. Conditions: none beyond the bucket is one block. -/
import Derived.Test.YtmfhilddemgabaaProg
import Derived.Test.YtmfhilddemgabaaPl
import Derived.Tactics
import Derived.Tactics2
import Derived.WalkKit
import Derived.WalkSpells
import Derived.WalkLawsBesides
import Derived.StillTactics
import Derived.StillTailTactics
import Derived.OwnWalk
import Derived.Laws.Pointers
import Derived.Laws.ResultCell
import Derived.Deep.RegionHeld3
import Derived.Deep.QuietTactic
import Derived.BigQuiet
import Derived.LoopTactic
import Derived.Deep.LoopGhost
import Derived.Deep.DeepCutAuto
import Derived.Deep.DeepFit
import Derived.Maps.AppendAt
import Derived.Below
import Derived.Lib.Hide
import Derived.Handy
import Derived.KernelRfl
namespace Go.Proofs.Ytmfhilddemgabaa
set_option linter.unusedVariables false
set_option linter.unusedSimpArgs false
open Go.RowKit

theorem ret_pair {a b : Int} {p q : Bool} (h : a = b ∧ p = q) : Ending.returned (.tuple #[.int .i64 a, .bool p]) = .returned (.tuple #[.int .i64 b, .bool q]) := by rw [h.1, h.2]
theorem ret_int {a b : Int} (h : a = b) : Ending.returned (.int .i64 a) = .returned (.int .i64 b) := by rw [h]
theorem ret_bool {a b : Bool} (h : a = b) : Ending.returned (.bool a) = .returned (.bool b) := by rw [h]

set_option maxHeartbeats 400000 in
theorem add_c (a b : Int) (w : World) (ha : -9223372036854775808 ≤ a) (ha' : a ≤ 9223372036854775807) (hb : -9223372036854775808 ≤ b) (hb' : b ≤ 9223372036854775807) :
    Calls Try.prog 25 #[.int .i64 a, .int .i64 b] w fun e w' => e = .returned (.tuple #[.int .i64 (addV a b).1, .bool (addV a b).2]) ∧ w = w' := by
  go_enter Try.func25, Try.ntmps25
  go_wp2
  all_goals
    go_returns
    refine ⟨ret_pair ?_, rfl⟩
    first
      | exact addV_yes (by unfold Fit; omega)
      | exact addV_no (by unfold Fit; omega)

set_option maxHeartbeats 400000 in
theorem sub_c (a b : Int) (w : World) (ha : -9223372036854775808 ≤ a) (ha' : a ≤ 9223372036854775807) (hb : -9223372036854775808 ≤ b) (hb' : b ≤ 9223372036854775807) :
    Calls Try.prog 47 #[.int .i64 a, .int .i64 b] w fun e w' => e = .returned (.tuple #[.int .i64 (subV a b).1, .bool (subV a b).2]) ∧ w = w' := by
  go_enter Try.func47, Try.ntmps47
  go_wp2
  all_goals
    go_returns
    refine ⟨ret_pair ?_, rfl⟩
    first
      | exact subV_yes (by unfold Fit; omega)
      | exact subV_no (by unfold Fit; omega)

set_option maxHeartbeats 400000 in
theorem neg_c (a : Int) (w : World) (ha : -9223372036854775808 ≤ a) (ha' : a ≤ 9223372036854775807) :
    Calls Try.prog 42 #[.int .i64 a] w fun e w' => e = .returned (.tuple #[.int .i64 (negV a).1, .bool (negV a).2]) ∧ w = w' := by
  go_enter Try.func42, Try.ntmps42
  go_wp2_with (go_at_call 47; refine (sub_c 0 a _ (by omega) (by omega) ha ha').mono ?_; rintro e w' ⟨rfl, rfl⟩)
  go_returns
  refine ⟨ret_pair ?_, rfl⟩
  have : subV 0 a = negV a := by unfold subV negV; rw [Int.zero_sub]
  rw [← this]
  exact ⟨rfl, rfl⟩

theorem wrap_form (x : Int) : ∃ k, wrap64 x = x + k * 18446744073709551616 := by
  refine ⟨-((x + 9223372036854775808) / 18446744073709551616), ?_⟩
  unfold wrap64
  omega
theorem wrap_fit (x : Int) : Fit (wrap64 x) := by unfold wrap64 Fit; omega
theorem wrap_of_fit {x : Int} (h : Fit x) : wrap64 x = x := by unfold Fit at h; unfold wrap64; omega
theorem tdiv_fit {p b : Int} (hp : Fit p) (hb : b ≠ 0) (hm : b ≠ -1) : Fit (p.tdiv b) := by
  have h1 : (p.tdiv b).natAbs ≤ p.natAbs / 2 ∨ b = 1 := by
    rw [Int.natAbs_tdiv]
    by_cases h : b = 1
    · exact .inr h
    · exact .inl (Nat.div_le_div_left (by omega) (by omega))
  rcases h1 with h1 | h1
  · unfold Fit at hp ⊢; omega
  · subst h1; rw [Int.tdiv_one]; exact hp
theorem mul_zero_way {a b : Int} (h : a = 0 ∨ b = 0) : 0 = (mulV a b).1 ∧ true = (mulV a b).2 := by
  have h0 : a * b = 0 := by rcases h with h | h <;> simp [h]
  have := mulV_yes (a := a) (b := b) (by rw [h0]; unfold Fit; omega)
  rw [h0] at this
  exact this
theorem mul_neg_way {a b : Int} (h : a = -1) : (negV b).1 = (mulV a b).1 ∧ (negV b).2 = (mulV a b).2 := by
  subst h
  have : mulV (-1) b = negV b := by unfold mulV negV; rw [Int.neg_one_mul]
  rw [this]; exact ⟨rfl, rfl⟩
theorem mul_neg_way2 {a b : Int} (h : b = -1) : (negV a).1 = (mulV a b).1 ∧ (negV a).2 = (mulV a b).2 := by
  subst h
  have : mulV a (-1) = negV a := by unfold mulV negV; rw [Int.mul_neg_one]
  rw [this]; exact ⟨rfl, rfl⟩
theorem mul_yes_way {a b : Int} (ha : Fit a) (hb : Fit b) (h0 : b ≠ 0) (h1 : b ≠ -1) (h : (wrap64 ((wrap64 (a * b)).tdiv b) != a) = false) : wrap64 (a * b) = (mulV a b).1 ∧ true = (mulV a b).2 := by
  obtain ⟨k, hk⟩ := wrap_form (a * b)
  have hf := wrap_fit (a * b)
  rw [wrap_of_fit (tdiv_fit hf h0 h1)] at h
  have h2 : (wrap64 (a * b)).tdiv b = a := by simpa using h
  have h3 := wrapped_quo h0 hk hf hb h2
  subst h3
  have h4 : wrap64 (a * b) = a * b := by omega
  rw [h4] at hf ⊢
  exact mulV_yes hf
theorem mul_no_way {a b : Int} (ha : Fit a) (h0 : b ≠ 0) (h : (wrap64 ((wrap64 (a * b)).tdiv b) != a) = true) : 0 = (mulV a b).1 ∧ false = (mulV a b).2 := by
  refine mulV_no fun hf => ?_
  rw [wrap_of_fit hf, Int.mul_tdiv_cancel _ h0, wrap_of_fit ha] at h
  simp at h

set_option maxHeartbeats 400000 in
theorem mul_c (a b : Int) (w : World) (ha : -9223372036854775808 ≤ a) (ha' : a ≤ 9223372036854775807) (hb : -9223372036854775808 ≤ b) (hb' : b ≤ 9223372036854775807) :
    Calls Try.prog 24 #[.int .i64 a, .int .i64 b] w fun e w' => e = .returned (.tuple #[.int .i64 (mulV a b).1, .bool (mulV a b).2]) ∧ w = w' := by
  by_cases h1 : a = 0 ∨ b = 0
  · have H := Lib.hid (mul_zero_way h1)
    have h2 : (a == 0) = true ∨ (b == 0) = true := by simpa using h1
    clear h1
    rcases h2 with h2 | h2
    all_goals
      go_enter Try.func24, Try.ntmps24
      go_wp2_with fail
    all_goals
      go_returns
      exact ⟨ret_pair H.out, rfl⟩
  · have h2 : (a == 0) = false := by simp; omega
    have h3 : (b == 0) = false := by simp; omega
    have hb0 : b ≠ 0 := by omega
    clear h1
    by_cases h4 : a = -1
    · have H := Lib.hid (mul_neg_way (b := b) h4)
      have h5 : (a == -1) = true := by simpa using h4
      clear h4 hb0
      go_enter Try.func24, Try.ntmps24
      go_wp2_with (go_at_call 42; refine (neg_c _ _ (by assumption) (by assumption)).mono ?_; rintro e w' ⟨rfl, rfl⟩)
      go_returns
      exact ⟨ret_pair H.out, rfl⟩
    · have h5 : (a == -1) = false := by simpa using h4
      by_cases h6 : b = -1
      · have H := Lib.hid (mul_neg_way2 (a := a) h6)
        have h7 : (b == -1) = true := by simpa using h6
        clear h4 h6 hb0
        go_enter Try.func24, Try.ntmps24
        go_wp2_with (go_at_call 42; refine (neg_c _ _ (by assumption) (by assumption)).mono ?_; rintro e w' ⟨rfl, rfl⟩)
        go_returns
        exact ⟨ret_pair H.out, rfl⟩
      · have h7 : (b == -1) = false := by simpa using h6
        clear h4 h6
        go_enter Try.func24, Try.ntmps24
        go_wp2_with fail
        all_goals
          go_returns
          refine ⟨ret_pair ?_, rfl⟩
          first
            | exact mul_no_way ⟨ha, ha'⟩ hb0 (by assumption)
            | exact mul_yes_way ⟨ha, ha'⟩ ⟨hb, hb'⟩ hb0 (by simpa using h7) (by assumption)
end Go.Proofs.Ytmfhilddemgabaa
