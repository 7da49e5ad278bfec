/- Kids, fits. Conditions: none. -/
import Derived.Test.YtmoiehbhhplckaaProg
import Derived.Test.YtmoiehbhhplckaaX2
import Derived.Test.YtmoiehbhhplckaaL2
import Derived.Tactics
import Derived.Tactics2
import Derived.WalkKit
import Derived.WalkSpells
import Derived.WalkLawsBesides
import Derived.StillTactics
import Derived.StillTailTactics
import Derived.OwnWalk
import Derived.Laws.Pointers
import Derived.Laws.ResultCell
import Derived.Deep.RegionHeld3
import Derived.Deep.RegionWith
import Derived.Deep.RegionLaw
import Derived.Deep.AppendLies
import Derived.Deep.QuietTactic
import Derived.BigQuiet
import Derived.LoopTactic
import Derived.Deep.LoopGhost
import Derived.Deep.DeepCutAuto
import Derived.Deep.DeepFit
import Derived.Maps.AppendAt
import Derived.Below
import Derived.Lib.Hide
import Derived.Handy
import Derived.KernelRfl
import Derived.IntWalk
import Derived.Laws.AppendOwnNone
import Derived.Laws.IdiomStrings
namespace Go.Proofs.Ytmoiehbhhplckaa
set_option linter.unusedVariables false
set_option linter.unusedSimpArgs false
open Go.RowKit

def kidsN (k : Int) : Int := if k < 1 ∨ 25 < k then -2 else if k = 4 then -1 else if k ≤ 7 ∨ k = 13 ∨ k = 21 then 0 else if k = 11 ∨ k = 12 ∨ k = 18 ∨ k = 25 ∨ k = 22 ∨ k = 23 then 1 else 2
theorem ret_i {a b : Int} (h : a = b) : Ending.returned (.int .i64 a) = .returned (.int .i64 b) := by rw [h]
set_option maxHeartbeats 4000000 in
theorem kids_c (k : Int) (w : World) : Calls Try.prog 56 #[.int .i64 k] w fun e w' => e = .returned (.int .i64 (kidsN k)) ∧ w = w' := by
  go_enter Try.func56, Try.ntmps56
  go_wp2
  all_goals
    go_returns
    refine ⟨ret_i ?_, rfl⟩
    try simp only [beq_iff_eq, beq_eq_false_iff_ne, ne_eq] at *
    unfold kidsN
    repeat' split
    all_goals omega
def namedB (k : Int) : Bool := decide (k = 5) || (decide (k = 6) || (decide (k = 13) || decide (k = 21)))
/-- has a node what its kind has, and nothing more? (pb: may its name be a text; nb: is it a name; ne: is it empty) -/
def fitsV (pb nb ne : Bool) (k n lo hi : Int) : Bool :=
  !(decide (k = 3) && !pb) && (!((namedB k && !nb) || (!namedB k && (!decide (k = 3) && !ne))) &&
    (!((decide (k = 1) && decide (n < 0)) || ((decide (k = 2) && (!decide (n = 0) && !decide (n = 1))) || (!decide (k = 1) && (!decide (k = 2) && !decide (n = 0))))) &&
      (if k = 22 ∨ k = 23 ∨ k = 24 then decide (0 ≤ lo) && (decide (hi = -1) || decide (lo ≤ hi)) else if k = 13 then decide (lo = 0) && decide (0 ≤ hi) else decide (lo = 0) && decide (hi = 0))))
def fitsB (nm : ByteArray) (k n lo hi : Int) : Bool := fitsV (plainB nm.data.toList) (nameB nm.data.toList) (nm.toList == []) k n lo hi
set_option maxHeartbeats 16000000 in
set_option maxRecDepth 100000 in
theorem fits_c (k : Int) (nm : ByteArray) (n lo hi : Int) (A : Option Addr) (m c : Nat) (w : World) (hs : nm.size ≤ 9223372036854775807) : Calls Try.prog 58 #[xagg k nm n lo hi A m c] w fun e w' => e = .returned (.bool (fitsB nm k n lo hi)) ∧ Tch No w w' := by
  have P := Lib.hid (fun w => rplain_c nm w hs)
  have N := Lib.hid (fun w => rname_c nm w hs)
  have HF : Hid (fitsB nm k n lo hi = fitsV (plainB nm.data.toList) (nameB nm.data.toList) (nm.toList == []) k n lo hi) := rfl
  generalize plainB nm.data.toList = pb at *
  generalize nameB nm.data.toList = nb at *
  obtain ⟨ne, hne⟩ : ∃ ne, (nm.toList == []) = ne := ⟨_, rfl⟩
  rw [hne] at HF
  clear hs
  unfold xagg
  generalize hwb : w.alloc (.cells (xcells k nm n lo hi A m c) 51) = wb
  have TB : Hid (Tch No w wb) := by subst hwb; exact (Tch.refl No w).alloc _
  have BX : Hid (Blk wb w.heap.size 51 (xcells k nm n lo hi A m c)) := by subst hwb; exact Blk.new w 51 _
  obtain ⟨e0, e1, e2, e3, e4, e5⟩ := cells6 BX.out
  unfold xcells at hwb
  have hk : k = 1 ∨ k = 2 ∨ k = 3 ∨ (k = 5 ∨ k = 6 ∨ k = 21) ∨ k = 13 ∨ (k = 22 ∨ k = 23 ∨ k = 24) ∨ (k ≠ 1 ∧ k ≠ 2 ∧ k ≠ 3 ∧ k ≠ 5 ∧ k ≠ 6 ∧ k ≠ 21 ∧ k ≠ 13 ∧ k ≠ 22 ∧ k ≠ 23 ∧ k ≠ 24) := by omega
  rcases hk with rfl | rfl | rfl | (rfl | rfl | rfl) | rfl | (rfl | rfl | rfl) | ⟨a1, a2, a3, a5, a6, a21, a13, a22, a23, a24⟩
  all_goals
    go_enter Try.func58, Try.ntmps58
    go_wp2_with (first | (go_at_call 28; refine (P.out _).mono ?_; rintro e w2 ⟨rfl, rfl⟩) | (go_at_call 26; refine (N.out _).mono ?_; rintro e w2 ⟨rfl, rfl⟩) | fail)
    all_goals
      go_returns
      refine ⟨ret_bool ?_, TB.out⟩
      rw [HF.out]
      clear HF BX TB P N e0 e1 e2 e3 e4 e5 hwb hne
      rw [Bool.eq_iff_iff]
      cases pb <;> cases nb <;> cases ne <;> first | (simp_all [fitsV, namedB]; done) | (simp_all [fitsV, namedB]; omega)
end Go.Proofs.Ytmoiehbhhplckaa
