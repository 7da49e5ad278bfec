/- set. Conditions: the expressions lie there. -/
import Derived.Test.YtmoiehbhhplckaaProg
import Derived.Test.YtmoiehbhhplckaaX3
import Derived.Tactics
import Derived.Tactics2
import Derived.WalkKit
import Derived.WalkSpells
import Derived.WalkLawsBesides
import Derived.StillTactics
import Derived.StillTailTactics
import Derived.OwnWalk
import Derived.Laws.Pointers
import Derived.Laws.ResultCell
import Derived.Deep.RegionHeld3
import Derived.Deep.RegionWith
import Derived.Deep.RegionLaw
import Derived.Deep.AppendLies
import Derived.Deep.QuietTactic
import Derived.BigQuiet
import Derived.LoopTactic
import Derived.Deep.LoopGhost
import Derived.Deep.DeepCutAuto
import Derived.Deep.DeepFit
import Derived.Maps.AppendAt
import Derived.Below
import Derived.Lib.Hide
import Derived.Handy
import Derived.KernelRfl
import Derived.IntWalk
import Derived.Laws.AppendOwnNone
import Derived.Laws.IdiomStrings
namespace Go.Proofs.Ytmoiehbhhplckaa
set_option linter.unusedVariables false
set_option linter.unusedSimpArgs false
open Go.RowKit

def leafB (k : Int) (nm : ByteArray) (n lo hi : Int) (kids : Fo) : Bool := decide (k = 3) && (decide (kids.len = 0) && (decide (n = 0) && (decide (lo = 0) && (decide (hi = 0) && plainB nm.data.toList))))
/-- Is text a at most text b? as the program asks it -/
def leqB (a b : ByteArray) : Bool := Op.bytesLess a.toList b.toList || a.toList == b.toList
def riseB (p : Option ByteArray) (nm : ByteArray) : Bool := match p with | none => true | some q => !(leqB nm q)
def setF : Option ByteArray → Fo → Bool
  | _, .nil => true
  | p, .cons k nm n lo hi kids rest => leafB k nm n lo hi kids && (riseB p nm && setF (some nm) rest)
def setV (kids : Fo) : Bool := decide (kids.len ≤ 8) && setF none kids
set_option maxHeartbeats 8000000 in
set_option maxRecDepth 100000 in
theorem set_c (k : Int) (nm : ByteArray) (n lo hi : Int) (kids : Fo) (A : Option Addr) (c : Nat) (w0 w : World) (ht0 : Tch No w0 w) (hk : KA w0 kids A kids.len) (hsz : wF kids ≤ 200000000) :
    Calls Try.prog 57 #[xagg k nm n lo hi A kids.len c] w fun e w' => e = .returned (.bool (setV kids)) ∧ Tch No w w' := by
  have HK := Lib.hid hk
  have HT0 := Lib.hid ht0
  clear hk ht0
  unfold xagg
  generalize hwb : w.alloc (.cells (xcells k nm n lo hi A kids.len c) 51) = wb
  have TB : Hid (Tch No w wb) := by subst hwb; exact (Tch.refl No w).alloc _
  have BX : Hid (Blk wb w.heap.size 51 (xcells k nm n lo hi A kids.len c)) := by subst hwb; exact Blk.new w 51 _
  obtain ⟨e0, e1, e2, e3, e4, e5⟩ := cells6 BX.out
  unfold xcells at hwb
  by_cases h8 : kids.len ≤ 8
  · have hl8 : ¬ ((8 : Int) < (kids.len : Int)) := by omega
    have HS : Hid (setV kids = setF none kids) := by show _ = _; unfold setV; simp [h8]
    have H8 := Lib.hid h8
    clear h8
    go_enter Try.func57, Try.ntmps57
    go_wp2_with fail
    clear hwb
    go_loopw [3] (fun iv wr => ∃ (i : Nat) (r : Fo) (p : Option ByteArray), i + r.len = kids.len ∧ iv = .int .i64 i ∧ setF p r = setF none kids ∧ wF r ≤ 200000000 ∧ ((i = 0 ∧ p = none) ∨ (0 < i ∧ ∃ q, p = some q ∧ ∀ g o, A = some ⟨g, o, none⟩ → w0.cell? ⟨g, o + (i - 1) * 6 + 1, none⟩ = some (.string q))) ∧ (r.len = 0 ∨ ∃ g o, A = some ⟨g, o, none⟩ ∧ FoA w0 r g (o + i * 6)) ∧ Tch No wb wr) (fun iv _ => kids.len - (intOf iv).toNat)
    case atStart => exact ⟨0, kids, none, by omega, rfl, rfl, hsz, .inl ⟨rfl, rfl⟩, by simpa using HK.out.2, Tch.refl _ _⟩
    case round =>
      obtain ⟨i, r, p, hil, rfl, hS, hwr, hp, hf, ht⟩ := hrel
      have HT := Lib.hid ht
      have HSS := Lib.hid hS
      obtain ⟨a0, a1, a2, a3, a4, a5⟩ := cells6 (ht.blk BX.out (fun f => f))
      clear ht hS
      have hi8 : i ≤ 8 := by have := H8.out; omega
      cases r with
      | nil =>
        have hlt : ¬ ((i : Int) < (kids.len : Int)) := by simp only [Fo.len] at hil; omega
        clear hf hil hp
        go_wp2
        go_returns
        refine ⟨?_, TB.out.and HT.out⟩
        rw [HS.out, ← HSS.out]; rfl
      | cons k1 nm1 n1 lo1 hi1 kids1 rest =>
        simp only [Fo.len] at hil hf
        rcases hf with hf | ⟨g, o, hA, hf⟩
        · omega
        subst hA
        obtain ⟨A1, c1, ⟨x0, x1, x2, x3, x4, x5⟩, hk1, hr1⟩ := foa_first (FoA.tch (HT0.out.and (TB.out.and HT.out)) _ _ _ hf)
        have hg := World.block_lt_of_cell? wr ⟨g, o + i * 6, none⟩ x0
        have hgw : ¬ wr.heap.size = g := by simp at hg; omega
        have hgw2 : ¬ g = wr.heap.size := by simp at hg; omega
        have hbw : ¬ w.heap.size = wr.heap.size := by have := (HT.out.blk BX.out (fun f => f)).lt; omega
        have hlt : (i : Int) < (kids.len : Int) := by omega
        obtain ⟨A2, c2, hcc, hk0, hr2⟩ := foa_first hf
        have HR := Lib.hid hr2
        have hx1 := Lib.hid hcc.2.1
        have hil2 : i + 1 + rest.len = kids.len := by omega
        have hL := Lib.hid hil2
        simp only [wF] at hwr
        have hl1 := len_wF kids1
        have hnm1 : nm1.size ≤ 9223372036854775807 := by omega
        have hwrest : wF rest ≤ 200000000 := by omega
        have hkl : kids1.len ≤ 2000000 := by omega
        have PC := Lib.hid (fun w => rplain_c nm1 w hnm1)
        have HLF : Hid (leafB k1 nm1 n1 lo1 hi1 kids1 = (decide (k1 = 3) && (decide (kids1.len = 0) && (decide (n1 = 0) && (decide (lo1 = 0) && (decide (hi1 = 0) && plainB nm1.data.toList)))))) := rfl
        have HC : Hid (setF none kids = (leafB k1 nm1 n1 lo1 hi1 kids1 && (riseB p nm1 && setF (some nm1) rest))) := HSS.out.symm
        generalize plainB nm1.data.toList = pb at *
        have HW := Lib.hid hwrest
        clear hk1 hr1 hf hil hr2 hil2 hcc hk0 hwr hl1 hnm1 hwrest
        rcases hp with ⟨rfl, rfl⟩ | ⟨hi0, q, rfl, hq⟩
        · rw [Nat.zero_mul, Nat.add_zero] at x0 x1 x2 x3 x4 x5
          go_wp2_with (first | (go_at_call 28; refine (PC.out _).mono ?_; rintro e w2 ⟨rfl, rfl⟩) | fail)
          all_goals first
            | (go_returns; refine ⟨ret_bool ?_, TB.out.and (HT.out.alloc _)⟩; rw [HS.out, HC.out, HLF.out]; clear HT HS HC HLF BX TB HK HSS PC H8; simp_all; done)
            | (have hpb : pb = true := (by simp_all)
               have HN : Hid (setF (some nm1) rest = setF none kids) := (by
                 rw [HC.out, HLF.out]
                 show _ = _
                 simp [riseB, *])
               clear hpb
               go_quiet (fail)
               go_wp2
               refine ⟨⟨1, rest, some nm1, ?_, by simp, HN.out, HW.out, .inr ⟨by omega, nm1, rfl, ?_⟩, .inr ⟨g, o, rfl, ?_⟩, (HT.out.alloc _).drewN _⟩, ?_⟩
               · have := hL.out; omega
               · intro g' o' he
                 simp at he
                 obtain ⟨rfl, rfl⟩ := he
                 have := hx1.out
                 simpa using this
               · have := HR.out
                 simpa using this
               · have := hL.out; simp [intOf]; omega)
        · obtain ⟨j, rfl⟩ : ∃ j, i = j + 1 := ⟨i - 1, by omega⟩
          have hq1 := (HT0.out.and (TB.out.and HT.out)).cell (fun f => f) (hq g o rfl)
          rw [show j + 1 - 1 = j by omega] at hq1
          have hj1 : ((j + 1 : Nat) : Int) - 1 = (j : Int) := by omega
          have hj2 : (j : Int) < (kids.len : Int) := by omega
          have hj3 : (0 : Int) < ((j + 1 : Nat) : Int) := by omega
          have HRI : Hid (riseB (some q) nm1 = !(leqB nm1 q)) := rfl
          have HLE : Hid (leqB nm1 q = (Op.bytesLess nm1.toList q.toList || nm1.toList == q.toList)) := rfl
          clear hq
          go_wp2_with (first | (go_at_call 28; refine (PC.out _).mono ?_; rintro e w2 ⟨rfl, rfl⟩) | fail)
          all_goals first
            | (go_returns; refine ⟨ret_bool ?_, TB.out.and (HT.out.alloc _)⟩; rw [HS.out, HC.out, HLF.out]; clear HT HS HC HLF BX TB HK HSS PC H8 HRI HLE; simp_all; done)
            | (have hpb : pb = true := (by simp_all)
               have HN : Hid (setF none kids = (riseB (some q) nm1 && setF (some nm1) rest)) := (by
                 rw [HC.out, HLF.out]
                 show _ = _
                 simp [*])
               clear hpb
               generalize hw3 : wr.alloc _ = w3
               have T3 : Hid (Tch No wr w3) := (by subst hw3; exact (Tch.refl No wr).alloc _)
               have l1 : w3.cell? ⟨wr.heap.size, 1, none⟩ = some (.string nm1) := (by subst hw3; exact (Blk.new wr 51 _).cell 1)
               have l2 := T3.out.cell (fun f => f) a5
               have l3 := T3.out.cell (fun f => f) hq1
               clear hw3 a0 a1 a2 a3 a4 a5 x0 x1 x2 x3 x4 x5
               cases hle : leqB nm1 q with
               | true =>
                 rw [hle] at HLE HRI
                 have hl : (Op.bytesLess nm1.toList q.toList || nm1.toList == q.toList) = true := HLE.out.symm
                 have HNF : Hid (setF none kids = false) := (by rw [HN.out, HRI.out]; show _ = _; simp)
                 clear hle
                 go_quiet (fail)
                 go_wp2
                 go_returns
                 refine ⟨ret_bool ?_, TB.out.and (HT.out.and (T3.out.drewN _))⟩
                 rw [HS.out, HNF.out]
               | false =>
                 rw [hle] at HLE HRI
                 have hl : (Op.bytesLess nm1.toList q.toList || nm1.toList == q.toList) = false := HLE.out.symm
                 clear hle
                 go_quiet (fail)
                 go_wp2
                 have HN2 : Hid (setF (some nm1) rest = setF none kids) := (by rw [HN.out, HRI.out]; show _ = _; simp)
                 refine ⟨⟨j + 1 + 1, rest, some nm1, hL.out, by simp, HN2.out, HW.out, .inr ⟨by omega, nm1, rfl, ?_⟩, .inr ⟨g, o, rfl, ?_⟩, HT.out.and (T3.out.drewN _)⟩, ?_⟩
                 · intro g' o' he
                   simp at he
                   obtain ⟨rfl, rfl⟩ := he
                   have h9 := hx1.out
                   rw [show j + 1 + 1 - 1 = j + 1 by omega]
                   exact h9
                 · have h9 := HR.out
                   rw [show o + (j + 1 + 1) * 6 = o + (j + 1) * 6 + 6 by omega]
                   exact h9
                 · have := hL.out; simp [intOf]; omega)
  · have hl8 : (8 : Int) < (kids.len : Int) := by omega
    have HS : Hid (setV kids = false) := by show _ = _; unfold setV; simp [h8]
    clear h8
    go_enter Try.func57, Try.ntmps57
    go_wp2
    go_returns
    exact ⟨by rw [HS.out]; rfl, TB.out⟩
end Go.Proofs.Ytmoiehbhhplckaa
