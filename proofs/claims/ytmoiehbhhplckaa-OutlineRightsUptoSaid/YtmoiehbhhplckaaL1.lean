/- The lexer: its letters and digits. Conditions: octets. -/
import Derived.Test.YtmoiehbhhplckaaProg
import Derived.Test.YtmoiehbhhplckaaP1
import Derived.Test.YtmoiehbhhplckaaSh
import Derived.Tactics
import Derived.Tactics2
import Derived.WalkKit
import Derived.WalkSpells
import Derived.WalkLawsBesides
import Derived.StillTactics
import Derived.StillTailTactics
import Derived.OwnWalk
import Derived.Laws.Pointers
import Derived.Laws.ResultCell
import Derived.Deep.RegionHeld3
import Derived.Deep.RegionWith
import Derived.Deep.RegionLaw
import Derived.Deep.AppendLies
import Derived.Deep.QuietTactic
import Derived.BigQuiet
import Derived.LoopTactic
import Derived.Deep.LoopGhost
import Derived.Deep.DeepCutAuto
import Derived.Deep.DeepFit
import Derived.Maps.AppendAt
import Derived.Below
import Derived.Lib.Hide
import Derived.Handy
import Derived.KernelRfl
import Derived.IntWalk
import Derived.Laws.AppendOwnNone
import Derived.Laws.IdiomStrings
namespace Go.Proofs.Ytmoiehbhhplckaa
set_option linter.unusedVariables false
set_option linter.unusedSimpArgs false
open Go.RowKit

def isG (c : UInt8) : Bool := decide (48 ≤ c.toNat ∧ c.toNat ≤ 57)
def isL (c : UInt8) : Bool := decide ((97 ≤ c.toNat ∧ c.toNat ≤ 122) ∨ (65 ≤ c.toNat ∧ c.toNat ≤ 90) ∨ c.toNat = 95)
def isT (c : UInt8) : Bool := isL c || isG c
theorem or_bits : ∀ n : Nat, n < 256 → (97 ≤ bits BinOp.or IntKind.u8 (n : Int) 32 ∧ bits BinOp.or IntKind.u8 (n : Int) 32 ≤ 122 ↔ (97 ≤ n ∧ n ≤ 122) ∨ (65 ≤ n ∧ n ≤ 90)) := by
  have h : (List.range 256).all (fun n => decide (97 ≤ bits BinOp.or IntKind.u8 (n : Int) 32 ∧ bits BinOp.or IntKind.u8 (n : Int) 32 ≤ 122 ↔ (97 ≤ n ∧ n ≤ 122) ∨ (65 ≤ n ∧ n ≤ 90))) = true := by kernel_rfl
  intro n hn
  have := List.all_eq_true.1 h n (List.mem_range.2 hn)
  exact of_decide_eq_true this
theorem letter_c (c : UInt8) (w : World) : Calls Try.prog 43 #[.int .u8 c.toNat] w fun e w' => e = .returned (.bool (isL c)) ∧ w = w' := by
  have hc := UInt8.toNat_lt c
  have ho := or_bits c.toNat hc
  have hE : isL c = decide ((97 ≤ bits BinOp.or IntKind.u8 (c.toNat : Int) 32 ∧ bits BinOp.or IntKind.u8 (c.toNat : Int) 32 ≤ 122) ∨ c.toNat = 95) := by
    unfold isL
    rw [decide_eq_decide, ho]
    omega
  rw [hE]
  clear ho hE
  generalize hb : bits BinOp.or IntKind.u8 (c.toNat : Int) 32 = b
  have HB := Lib.hid hb
  rcases (by omega : b < 97 ∨ (97 ≤ b ∧ 122 < b) ∨ (97 ≤ b ∧ b ≤ 122)) with h | ⟨h, h2⟩ | ⟨h, h2⟩
  · have hx : decide ((97 ≤ b ∧ b ≤ 122) ∨ c.toNat = 95) = ((c.toNat : Int) == 95) := by
      rw [Bool.eq_iff_iff]; simp; omega
    rw [hx]
    clear hx
    rw [← hb] at h
    clear hb
    go_enter Try.func43, Try.ntmps43
    go_wp2
    go_returns
    exact ⟨rfl, rfl⟩
  · have hx : decide ((97 ≤ b ∧ b ≤ 122) ∨ c.toNat = 95) = ((c.toNat : Int) == 95) := by
      rw [Bool.eq_iff_iff]; simp; omega
    have h3 : decide (bits BinOp.or IntKind.u8 (c.toNat : Int) 32 ≤ 122) = false := by rw [hb]; simp; omega
    rw [hx]
    clear hx
    rw [← hb] at h h2
    clear hb
    go_enter Try.func43, Try.ntmps43
    go_wp2
    go_returns
    simp [h3]
  · have hx : decide ((97 ≤ b ∧ b ≤ 122) ∨ c.toNat = 95) = true := by
      simp; omega
    rw [hx]
    clear hx
    rw [← hb] at h h2
    clear hb
    go_enter Try.func43, Try.ntmps43
    go_wp2
    go_returns
    exact ⟨rfl, rfl⟩
theorem digit_c (c : UInt8) (w : World) : Calls Try.prog 44 #[.int .u8 c.toNat] w fun e w' => e = .returned (.bool (isG c)) ∧ w = w' := by
  have hE : isG c = (decide ((48 : Int) ≤ (c.toNat : Int)) && decide ((c.toNat : Int) ≤ 57)) := by
    unfold isG; rw [Bool.eq_iff_iff]; simp; omega
  rw [hE]
  clear hE
  rcases (by omega : (c.toNat : Int) < 48 ∨ (48 : Int) ≤ (c.toNat : Int)) with h | h
  · have h2 : decide ((48 : Int) ≤ (c.toNat : Int)) = false := by simp; omega
    rw [h2, Bool.false_and]
    clear h2
    go_enter Try.func44, Try.ntmps44
    go_wp2
    go_returns
    exact ⟨rfl, rfl⟩
  · have h2 : decide ((48 : Int) ≤ (c.toNat : Int)) = true := by simp; omega
    rw [h2, Bool.true_and]
    clear h2
    go_enter Try.func44, Try.ntmps44
    go_wp2
    go_returns
    exact ⟨rfl, rfl⟩
theorem head_c (c : UInt8) (w : World) : Calls Try.prog 45 #[.int .u8 c.toNat] w fun e w' => e = .returned (.bool (isL c)) ∧ w = w' := by
  have hc := UInt8.toNat_lt c
  rcases (by omega : (c.toNat : Int) < 65 ∨ ((65 : Int) ≤ c.toNat ∧ (c.toNat : Int) ≤ 90) ∨ ((90 : Int) < c.toNat ∧ (c.toNat : Int) < 97) ∨ ((97 : Int) ≤ c.toNat ∧ (c.toNat : Int) ≤ 122) ∨ (122 : Int) < c.toNat) with h | ⟨h, h2⟩ | ⟨h, h2⟩ | ⟨h, h2⟩ | h
  · have hE : isL c = ((c.toNat : Int) == 95) := by unfold isL; rw [Bool.eq_iff_iff]; simp; omega
    rw [hE]
    have h3 : (c.toNat : Int) < 97 := by omega
    clear hE hc
    go_enter Try.func45, Try.ntmps45
    go_wp2
    go_returns
    exact ⟨rfl, rfl⟩
  · have hE : isL c = true := by unfold isL; simp; omega
    rw [hE]
    have h3 : (c.toNat : Int) < 97 := by omega
    clear hE hc
    go_enter Try.func45, Try.ntmps45
    go_wp2
    go_returns
    exact ⟨rfl, rfl⟩
  · have hE : isL c = ((c.toNat : Int) == 95) := by unfold isL; rw [Bool.eq_iff_iff]; simp; omega
    rw [hE]
    have h3 : (65 : Int) ≤ c.toNat := by omega
    have h4 : decide ((c.toNat : Int) ≤ 90) = false := by simp; omega
    clear hE hc
    go_enter Try.func45, Try.ntmps45
    go_wp2
    go_returns
    simp [h4]
  · have hE : isL c = true := by unfold isL; simp; omega
    rw [hE]
    clear hE hc
    go_enter Try.func45, Try.ntmps45
    go_wp2
    go_returns
    exact ⟨rfl, rfl⟩
  · have hE : isL c = ((c.toNat : Int) == 95) := by unfold isL; rw [Bool.eq_iff_iff]; simp; omega
    rw [hE]
    have h3 : (97 : Int) ≤ c.toNat := by omega
    have h5 : (65 : Int) ≤ c.toNat := by omega
    have h6 : (90 : Int) < c.toNat := by omega
    have h4 : decide ((c.toNat : Int) ≤ 90) = false := by simp; omega
    have h7 : decide ((c.toNat : Int) ≤ 122) = false := by simp; omega
    clear hE hc
    go_enter Try.func45, Try.ntmps45
    go_wp2
    go_returns
    simp [h4, h7]
theorem tail_c (c : UInt8) (w : World) : Calls Try.prog 46 #[.int .u8 c.toNat] w fun e w' => e = .returned (.bool (isT c)) ∧ w = w' := by
  cases hl : isL c
  · have hE : isT c = (decide ((48 : Int) ≤ (c.toNat : Int)) && decide ((c.toNat : Int) ≤ 57)) := by
      unfold isT isG; rw [hl, Bool.false_or, Bool.eq_iff_iff]; simp; omega
    rw [hE]
    have HL := Lib.hid hl
    clear hE hl
    rcases (by omega : (c.toNat : Int) < 48 ∨ (48 : Int) ≤ (c.toNat : Int)) with h | h
    · have h2 : decide ((48 : Int) ≤ (c.toNat : Int)) = false := by simp; omega
      rw [h2, Bool.false_and]
      clear h2
      go_enter Try.func46, Try.ntmps46
      go_wp2_with fail
      refine (head_c c _).mono ?_
      rintro e w1 ⟨rfl, rfl⟩
      rw [HL.out]
      go_wp2
      go_returns
      exact ⟨rfl, rfl⟩
    · have h2 : decide ((48 : Int) ≤ (c.toNat : Int)) = true := by simp; omega
      rw [h2, Bool.true_and]
      clear h2
      go_enter Try.func46, Try.ntmps46
      go_wp2_with fail
      refine (head_c c _).mono ?_
      rintro e w1 ⟨rfl, rfl⟩
      rw [HL.out]
      go_wp2
      go_returns
      exact ⟨rfl, rfl⟩
  · have hE : isT c = true := by unfold isT; rw [hl]; rfl
    rw [hE]
    have HL := Lib.hid hl
    clear hE hl
    go_enter Try.func46, Try.ntmps46
    go_wp2_with fail
    refine (head_c c _).mono ?_
    rintro e w1 ⟨rfl, rfl⟩
    rw [HL.out]
    go_wp2
    go_returns
    exact ⟨rfl, rfl⟩
end Go.Proofs.Ytmoiehbhhplckaa
