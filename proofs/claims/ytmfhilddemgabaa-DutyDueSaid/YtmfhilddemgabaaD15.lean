/- The duty law's package: a due. Conditions: both numbers are those of 64 bits. -/
import Derived.Test.YtmfhilddemgabaaProg
import Derived.Test.YtmfhilddemgabaaD13
import Derived.Test.YtmfhilddemgabaaPl
import Derived.Tactics
import Derived.Tactics2
import Derived.WalkKit
import Derived.WalkSpells
import Derived.WalkLawsBesides
import Derived.StillTactics
import Derived.StillTailTactics
import Derived.OwnWalk
import Derived.Laws.Pointers
import Derived.Laws.ResultCell
import Derived.Deep.RegionHeld3
import Derived.Deep.RegionWith
import Derived.Deep.RegionLaw
import Derived.Deep.AppendLies
import Derived.Deep.QuietTactic
import Derived.BigQuiet
import Derived.LoopTactic
import Derived.Deep.LoopGhost
import Derived.Deep.DeepCutAuto
import Derived.Deep.DeepFit
import Derived.Maps.AppendAt
import Derived.Below
import Derived.Lib.Hide
import Derived.Handy
import Derived.KernelRfl
namespace Go.Proofs.Ytmfhilddemgabaa
set_option linter.unusedVariables false
set_option linter.unusedSimpArgs false
open Go.RowKit

def PairIs (n : Int) (b : Bool) (w : World) (e : Ending) (w' : World) : Prop := e = .returned (.tuple #[.int .i64 n, .bool b]) ∧ w' = w
theorem pair_is {n m : Int} {a b : Bool} (h : n = m ∧ a = b) : Ending.returned (.tuple #[.int .i64 n, .bool a]) = .returned (.tuple #[.int .i64 m, .bool b]) := by rw [h.1, h.2]

set_option maxHeartbeats 400000 in
theorem radd_c (a b : Int) (w : World) (ha : -9223372036854775808 ≤ a) (ha' : a ≤ 9223372036854775807) (hb : -9223372036854775808 ≤ b) (hb' : b ≤ 9223372036854775807) :
    Calls Try.prog 25 #[.int .i64 a, .int .i64 b] w (PairIs (addV a b).1 (addV a b).2 w) := by
  go_enter Try.func25, Try.ntmps25
  go_wp2
  all_goals
    go_returns
    refine ⟨pair_is ?_, rfl⟩
    first
      | exact addV_yes (by unfold Fit; omega)
      | exact addV_no (by unfold Fit; omega)

theorem wrap_over {x : Int} (h1 : 9223372036854775807 < x) (h2 : x ≤ 18446744073709551614) : IntKind.i64.wrap x = x - 18446744073709551616 := by
  unfold IntKind.wrap
  simp [IntKind.bits, IntKind.signed]
  omega

set_option maxHeartbeats 400000 in
theorem nadd_c (a b : Int) (w : World) (ha : 0 ≤ a) (ha' : a ≤ 9223372036854775807) (hb : 0 ≤ b) (hb' : b ≤ 9223372036854775807) :
    Calls Try.prog 46 #[.int .i64 a, .int .i64 b] w (PairIs (addV a b).1 (addV a b).2 w) := by
  have na : ¬ a < 0 := by omega
  have nb : ¬ b < 0 := by omega
  by_cases hs : a + b ≤ 9223372036854775807
  · have nc : ¬ a + b < 0 := by omega
    go_enter Try.func46, Try.ntmps46
    go_wp2
    go_returns
    exact ⟨pair_is (addV_yes (by unfold Fit; omega)), rfl⟩
  · have hw : IntKind.i64.wrap (a + b) = a + b - 18446744073709551616 := wrap_over (by omega) (by omega)
    have nc : a + b - 18446744073709551616 < 0 := by omega
    go_enter Try.func46, Try.ntmps46
    go_wp2
    go_returns
    exact ⟨pair_is (addV_no (by unfold Fit; omega)), rfl⟩

def dueV (a b : Int) : Int × Bool := if a < 0 ∨ b < 0 then (0, false) else addV a b
set_option maxHeartbeats 400000 in
theorem due_c (a b : Int) (w : World) (ha : -9223372036854775808 ≤ a) (ha' : a ≤ 9223372036854775807) (hb : -9223372036854775808 ≤ b) (hb' : b ≤ 9223372036854775807) :
    Calls Try.prog 34 #[.int .i64 a, .int .i64 b] w (PairIs (dueV a b).1 (dueV a b).2 w) := by
  by_cases h1 : a < 0
  · have e : dueV a b = (0, false) := if_pos (.inl h1)
    go_enter Try.func34, Try.ntmps34
    go_wp2
    go_returns
    exact ⟨pair_is (by rw [e]; exact ⟨rfl, rfl⟩), rfl⟩
  · by_cases h2 : b < 0
    · have e : dueV a b = (0, false) := if_pos (.inr h2)
      go_enter Try.func34, Try.ntmps34
      go_wp2
      go_returns
      exact ⟨pair_is (by first | exact ⟨rfl, rfl⟩ | (rw [e]; exact ⟨rfl, rfl⟩)), rfl⟩
    · have e : dueV a b = addV a b := if_neg (fun h => h.elim h1 h2)
      have h3 : 0 ≤ a := by omega
      have h4 : 0 ≤ b := by omega
      rw [e]
      clear e
      go_enter Try.func34, Try.ntmps34
      go_wp2_with (go_at_call 46; go_must (refine (nadd_c a b w h3 ha' h4 hb').mono ?_); rintro e w' ⟨rfl, rfl⟩)
      go_returns
      exact ⟨rfl, rfl⟩

set_option maxHeartbeats 800000 in
theorem due_walk (a b : Int) (w : World) (ha : -9223372036854775808 ≤ a) (ha' : a ≤ 9223372036854775807) (hb : -9223372036854775808 ≤ b) (hb' : b ≤ 9223372036854775807) :
    Calls Try.prog 11 #[.int .i64 a, .int .i64 b] w fun e w' => e = .returned (.bool true) ∧ Below w.heap.size w w' := by
  by_cases h1 : a < 0
  · have e1 : dueV a b = (0, false) := if_pos (.inl h1)
    go_enter Try.func11, Try.ntmps11
    go_wp2_with (first | (go_at_call 12; refine (alive_c w).mono ?_; rintro e w1 ⟨rfl, t1⟩) | (go_at_call 34; refine (due_c a b _ ha ha' hb hb').mono ?_; rintro e w2 ⟨rfl, rfl⟩; rw [e1]) | (go_at_call 25; go_must (refine (radd_c a b _ ha ha' hb hb').mono ?_); rintro e w2 ⟨rfl, rfl⟩))
    go_returns
    exact ⟨rfl, t1.noBelow⟩
  · by_cases h2 : b < 0
    · have e1 : dueV a b = (0, false) := if_pos (.inr h2)
      go_enter Try.func11, Try.ntmps11
      go_wp2_with (first | (go_at_call 12; refine (alive_c w).mono ?_; rintro e w1 ⟨rfl, t1⟩) | (go_at_call 34; refine (due_c a b _ ha ha' hb hb').mono ?_; rintro e w2 ⟨rfl, rfl⟩; rw [e1]) | (go_at_call 25; go_must (refine (radd_c a b _ ha ha' hb hb').mono ?_); rintro e w2 ⟨rfl, rfl⟩))
      go_returns
      exact ⟨rfl, t1.noBelow⟩
    · have e1 : dueV a b = addV a b := if_neg (fun h => h.elim h1 h2)
      by_cases hs : Fit (a + b)
      · have e2 : addV a b = (a + b, true) := if_pos hs
        go_enter Try.func11, Try.ntmps11
        go_wp2_with (first | (go_at_call 12; refine (alive_c w).mono ?_; rintro e w1 ⟨rfl, t1⟩) | (go_at_call 34; refine (due_c a b _ ha ha' hb hb').mono ?_; rintro e w2 ⟨rfl, rfl⟩; rw [e1, e2]) | (go_at_call 25; go_must (refine (radd_c a b _ ha ha' hb hb').mono ?_); rintro e w2 ⟨rfl, rfl⟩; rw [e2]))
        go_returns
        exact ⟨rfl, t1.noBelow⟩
      · have e2 : addV a b = (0, false) := if_neg hs
        go_enter Try.func11, Try.ntmps11
        go_wp2_with (first | (go_at_call 12; refine (alive_c w).mono ?_; rintro e w1 ⟨rfl, t1⟩) | (go_at_call 34; refine (due_c a b _ ha ha' hb hb').mono ?_; rintro e w2 ⟨rfl, rfl⟩; rw [e1, e2]) | (go_at_call 25; go_must (refine (radd_c a b _ ha ha' hb hb').mono ?_); rintro e w2 ⟨rfl, rfl⟩; rw [e2]))
        go_returns
        exact ⟨rfl, t1.noBelow⟩
end Go.Proofs.Ytmfhilddemgabaa
