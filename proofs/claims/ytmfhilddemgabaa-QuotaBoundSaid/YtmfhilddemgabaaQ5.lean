/- The quota layer: contracts of the law package after, soon. Conditions: the numbers are those of a bucket. -/
import Derived.Test.YtmfhilddemgabaaProg
import Derived.Test.YtmfhilddemgabaaPm
import Derived.Test.YtmfhilddemgabaaQ4
import Derived.Tactics
import Derived.Tactics2
import Derived.WalkKit
import Derived.WalkSpells
import Derived.WalkLawsBesides
import Derived.StillTactics
import Derived.StillTailTactics
import Derived.OwnWalk
import Derived.Laws.Pointers
import Derived.Laws.ResultCell
import Derived.Deep.RegionHeld3
import Derived.Deep.QuietTactic
import Derived.BigQuiet
import Derived.LoopTactic
import Derived.Deep.LoopGhost
import Derived.Deep.DeepCutAuto
import Derived.Deep.DeepFit
import Derived.Maps.AppendAt
import Derived.Below
import Derived.Lib.Hide
import Derived.Handy
import Derived.KernelRfl
namespace Go.Proofs.Ytmfhilddemgabaa
set_option linter.unusedVariables false
set_option linter.unusedSimpArgs false
open Go.RowKit

theorem mulV_bd (a b : Int) : -9223372036854775808 ≤ (mulV a b).1 ∧ (mulV a b).1 ≤ 9223372036854775807 := mulV_fit a b
def IntB (n : Int) (w : World) (e : Ending) (w' : World) : Prop := e = .returned (.int .i64 n) ∧ Below w.heap.size w w'
def BoolB (b : Bool) (w : World) (e : Ending) (w' : World) : Prop := e = .returned (.bool b) ∧ Below w.heap.size w w'

set_option maxHeartbeats 400000 in
theorem after_c (s : Bk) (k : Int) (w : World) (hs : s.Ok) (hk : 0 ≤ k) (hk' : k ≤ 9223372036854775807) :
    Calls Try.prog 40 #[.agg #[.int .i64 s.size, .int .i64 s.rate, .int .i64 s.have_, .int .i64 s.last], .int .i64 k] w (IntB (afterV s k) w) := by
  have Hs := Lib.hid hs
  obtain ⟨o1, o2, o3, o4, o5, o6, o7, o8⟩ := hs
  have hm := mulV_bd s.rate k
  have hbl : Below w.heap.size w (w.alloc (.cells #[.int .i64 s.size, .int .i64 s.rate, .int .i64 s.have_, .int .i64 s.last] 42)) := (Below.refl _ _).alloc (Nat.le_refl _) _
  cases h : (mulV s.rate k).2
  · have H := Lib.hid (after_over s Hs.out k hk h)
    have Hh := Lib.hid h
    clear h
    go_enter Try.func40, Try.ntmps40
    go_wp2_with fail
    refine (mul_c s.rate k _ (by omega) (by omega) (by omega) (by omega)).mono ?_
    rintro e w' ⟨rfl, rfl⟩
    rw [Hh.out]
    go_wp2_with fail
    refine (add_c s.have_ _ _ (by omega) (by omega) (by omega) (by omega)).mono ?_
    rintro e w' ⟨rfl, rfl⟩
    generalize (addV s.have_ (mulV s.rate k).1) = q
    go_wp2_with fail
    go_returns
    exact ⟨ret_int H.out, hbl⟩
  · obtain ⟨hf, hfit⟩ := after_fit s k h
    have Hh := Lib.hid h
    clear h
    rw [hf] at hm
    cases h2 : (addV s.have_ (s.rate * k)).2
    · have H := Lib.hid (after_over2 s Hs.out k hk h2)
      have Hh2 := Lib.hid h2
      have Hf := Lib.hid hf
      clear h2 hf
      go_enter Try.func40, Try.ntmps40
      go_wp2_with fail
      refine (mul_c s.rate k _ (by omega) (by omega) (by omega) (by omega)).mono ?_
      rintro e w' ⟨rfl, rfl⟩
      rw [Hh.out, Hf.out]
      go_wp2_with fail
      refine (add_c s.have_ (s.rate * k) _ (by omega) (by omega) (by omega) (by omega)).mono ?_
      rintro e w' ⟨rfl, rfl⟩
      rw [Hh2.out]
      go_wp2_with fail
      go_returns
      exact ⟨ret_int H.out, hbl⟩
    · have h3 := Lib.hid (after_fit2 s k h2)
      have Hh2 := Lib.hid h2
      have Hf := Lib.hid hf
      clear h2 hf
      have h4 : s.size < s.have_ + s.rate * k ∨ ¬ s.size < s.have_ + s.rate * k := by omega
      have hv : afterV s k = min s.size (s.have_ + s.rate * k) := rfl
      have Hv := Lib.hid hv
      clear hv
      rcases h4 with h4 | h4
      all_goals
        go_enter Try.func40, Try.ntmps40
        go_wp2_with fail
        refine (mul_c s.rate k _ (by omega) (by omega) (by omega) (by omega)).mono ?_
        rintro e w' ⟨rfl, rfl⟩
        rw [Hh.out, Hf.out]
        go_wp2_with fail
        refine (add_c s.have_ (s.rate * k) _ (by omega) (by omega) (by omega) (by omega)).mono ?_
        rintro e w' ⟨rfl, rfl⟩
        rw [Hh2.out, h3.out]
        go_wp2_with fail
        go_returns
        exact ⟨ret_int (by rw [Hv.out]; show _ = _; omega), hbl⟩
end Go.Proofs.Ytmfhilddemgabaa
