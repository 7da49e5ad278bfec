/- Contracts. -/
import Derived.Test.YtmoiehbhhplckaaProg
import Derived.Test.YtmoiehbhhplckaaN1
import Derived.Test.YtmoiehbhhplckaaSh
import Derived.Tactics
import Derived.Tactics2
import Derived.WalkKit
import Derived.WalkSpells
import Derived.WalkLawsBesides
import Derived.StillTactics
import Derived.StillTailTactics
import Derived.OwnWalk
import Derived.Laws.Pointers
import Derived.Laws.ResultCell
import Derived.Deep.RegionHeld3
import Derived.Deep.RegionWith
import Derived.Deep.RegionLaw
import Derived.Deep.AppendLies
import Derived.Deep.QuietTactic
import Derived.BigQuiet
import Derived.LoopTactic
import Derived.Deep.LoopGhost
import Derived.Deep.DeepCutAuto
import Derived.Deep.DeepFit
import Derived.Maps.AppendAt
import Derived.Below
import Derived.Lib.Hide
import Derived.Handy
import Derived.KernelRfl
import Derived.IntWalk
namespace Go.Proofs.Ytmoiehbhhplckaa
set_option linter.unusedVariables false
set_option linter.unusedSimpArgs false
open Go.RowKit

theorem mul_eq {a b : Int} {m : Nat} (h : a.natAbs * b.natAbs = m) : (a * b = (m : Int) ∧ ((a < 0 ∧ b < 0) ∨ (0 ≤ a ∧ 0 ≤ b))) ∨ (a * b = -(m : Int) ∧ ((a < 0 ∧ 0 ≤ b) ∨ (0 ≤ a ∧ b < 0))) := by
  subst h; exact mul_sizes a b
theorem u64i64 (n : Nat) (h : n ≤ 9223372036854775807) : wrap64 (n : Int) = n := by unfold wrap64; omega
theorem u64i64n (n : Nat) (h : n ≤ 9223372036854775808) : wrap64 (IntKind.u64.wrap (-(n : Int))) = -(n : Int) := by
  have e : ∀ x : Int, IntKind.u64.wrap x = x % 18446744073709551616 := fun x => rfl
  rw [e]; unfold wrap64; omega

set_option maxHeartbeats 1600000 in
theorem mul_c (a b : Int) (w : World) (ha : Fit a) (hb : Fit b) : Calls Try.prog 16 #[.int .i64 a, .int .i64 b] w (PairP (mulV a b) w) := by
  have la := natAbs_le ha
  have lb := natAbs_le hb
  have HA := Lib.hid ha
  have HB := Lib.hid hb
  obtain ⟨m, hm⟩ : ∃ m, a.natAbs * b.natAbs = m := ⟨_, rfl⟩
  have hme := mul_eq hm
  obtain ⟨hi, hhi⟩ : ∃ hi, m / 18446744073709551616 = hi := ⟨_, rfl⟩
  obtain ⟨lo, hlo⟩ : ∃ lo, m % 18446744073709551616 = lo := ⟨_, rfl⟩
  have hml : m = hi * 18446744073709551616 + lo := by omega
  have hlol : lo < 18446744073709551616 := by omega
  have HM := Lib.hid hm
  have HHI := Lib.hid hhi
  have HLO := Lib.hid hlo
  clear hm hhi hlo ha hb
  have hw : (0 < hi ∧ ¬ Fit (a * b)) ∨ (hi = 0 ∧ ((lo ≤ 9223372036854775807 ∧ a * b = lo ∧ ((a < 0 ∧ b < 0) ∨ (0 ≤ a ∧ 0 ≤ b))) ∨ (9223372036854775807 < lo ∧ ¬ Fit (a * b) ∧ ((a < 0 ∧ b < 0) ∨ (0 ≤ a ∧ 0 ≤ b))) ∨
      (lo ≤ 9223372036854775808 ∧ a * b = -(lo : Int) ∧ ((a < 0 ∧ 0 ≤ b) ∨ (0 ≤ a ∧ b < 0))) ∨ (9223372036854775808 < lo ∧ ¬ Fit (a * b) ∧ ((a < 0 ∧ 0 ≤ b) ∨ (0 ≤ a ∧ b < 0))))) := by
    have hz : a * b = a * b := rfl
    revert hme
    generalize a * b = p
    intro hme
    unfold Fit
    omega
  clear hml hme
  rcases hw with ⟨h1, h2⟩ | ⟨rfl, ⟨h1, h2, h3⟩ | ⟨h1, h2, h3⟩ | ⟨h1, h2, h3⟩ | ⟨h1, h2, h3⟩⟩
  · have H := Lib.hid (mulV_no h2)
    have hp : (0 : Int) < (hi : Int) := by omega
    clear h2
    go_enter Try.func16, Try.ntmps16
    go_wp2_with fail
    refine (size_c a _ HA.out).mono ?_
    rintro e w' ⟨rfl, rfl⟩
    go_wp2_with fail
    refine (size_c b _ HB.out).mono ?_
    rintro e w' ⟨rfl, rfl⟩
    go_wp2_with fail
    refine (Try.bits_Mul64 a.natAbs b.natAbs (by omega) (by omega) _).mono ?_
    rintro e w' ⟨rfl, rfl⟩
    rw [HM.out, HHI.out, HLO.out]
    go_wp2
    go_returns
    exact ⟨ret_pair H.out, rfl⟩
  · have H : Hid ((lo : Int) = (mulV a b).1 ∧ true = (mulV a b).2) := by
      have := mulV_yes (a := a) (b := b) (by rw [h2]; unfold Fit; omega)
      rw [h2] at this
      exact this
    have hwr := u64i64 lo h1
    have hc : (lo : Int) ≤ 9223372036854775807 := by omega
    clear h2
    rcases h3 with ⟨s1, s2⟩ | ⟨s1, s2⟩
    all_goals
      go_enter Try.func16, Try.ntmps16
      go_wp2_with fail
      refine (size_c a _ HA.out).mono ?_
      rintro e w' ⟨rfl, rfl⟩
      go_wp2_with fail
      refine (size_c b _ HB.out).mono ?_
      rintro e w' ⟨rfl, rfl⟩
      go_wp2_with fail
      refine (Try.bits_Mul64 a.natAbs b.natAbs (by omega) (by omega) _).mono ?_
      rintro e w' ⟨rfl, rfl⟩
      rw [HM.out, HHI.out, HLO.out]
      go_wp2
      go_returns
      exact ⟨ret_pair H.out, rfl⟩
  · have H := Lib.hid (mulV_no h2)
    have hc : (9223372036854775807 : Int) < (lo : Int) := by omega
    clear h2
    rcases h3 with ⟨s1, s2⟩ | ⟨s1, s2⟩
    all_goals
      go_enter Try.func16, Try.ntmps16
      go_wp2_with fail
      refine (size_c a _ HA.out).mono ?_
      rintro e w' ⟨rfl, rfl⟩
      go_wp2_with fail
      refine (size_c b _ HB.out).mono ?_
      rintro e w' ⟨rfl, rfl⟩
      go_wp2_with fail
      refine (Try.bits_Mul64 a.natAbs b.natAbs (by omega) (by omega) _).mono ?_
      rintro e w' ⟨rfl, rfl⟩
      rw [HM.out, HHI.out, HLO.out]
      go_wp2
      go_returns
      exact ⟨ret_pair H.out, rfl⟩
  · have H : Hid (-(lo : Int) = (mulV a b).1 ∧ true = (mulV a b).2) := by
      have := mulV_yes (a := a) (b := b) (by rw [h2]; unfold Fit; omega)
      rw [h2] at this
      exact this
    have hwr := u64i64n lo h1
    have hc : (lo : Int) ≤ 9223372036854775808 := by omega
    clear h2
    rcases h3 with ⟨s1, s2⟩ | ⟨s1, s2⟩
    all_goals
      go_enter Try.func16, Try.ntmps16
      go_wp2_with fail
      refine (size_c a _ HA.out).mono ?_
      rintro e w' ⟨rfl, rfl⟩
      go_wp2_with fail
      refine (size_c b _ HB.out).mono ?_
      rintro e w' ⟨rfl, rfl⟩
      go_wp2_with fail
      refine (Try.bits_Mul64 a.natAbs b.natAbs (by omega) (by omega) _).mono ?_
      rintro e w' ⟨rfl, rfl⟩
      rw [HM.out, HHI.out, HLO.out]
      go_wp2
      go_returns
      exact ⟨ret_pair H.out, rfl⟩
  · have H := Lib.hid (mulV_no h2)
    have hc : (9223372036854775808 : Int) < (lo : Int) := by omega
    clear h2
    rcases h3 with ⟨s1, s2⟩ | ⟨s1, s2⟩
    all_goals
      go_enter Try.func16, Try.ntmps16
      go_wp2_with fail
      refine (size_c a _ HA.out).mono ?_
      rintro e w' ⟨rfl, rfl⟩
      go_wp2_with fail
      refine (size_c b _ HB.out).mono ?_
      rintro e w' ⟨rfl, rfl⟩
      go_wp2_with fail
      refine (Try.bits_Mul64 a.natAbs b.natAbs (by omega) (by omega) _).mono ?_
      rintro e w' ⟨rfl, rfl⟩
      rw [HM.out, HHI.out, HLO.out]
      go_wp2
      go_returns
      exact ⟨ret_pair H.out, rfl⟩
end Go.Proofs.Ytmoiehbhhplckaa
