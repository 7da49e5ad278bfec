/- fault's depth over a chain. Conditions: the chain lies there. -/
import Derived.Test.YtmoiehbhhplckaaDoorProg
import Derived.Test.YtmoiehbhhplckaaDoorG4
import Derived.Tactics
import Derived.Tactics2
import Derived.WalkKit
import Derived.WalkSpells
import Derived.WalkLawsBesides
import Derived.StillTactics
import Derived.StillTailTactics
import Derived.OwnWalk
import Derived.Laws.Pointers
import Derived.Laws.ResultCell
import Derived.Deep.RegionHeld3
import Derived.Deep.RegionWith
import Derived.Deep.RegionLaw
import Derived.Deep.AppendLies
import Derived.Deep.QuietTactic
import Derived.BigQuiet
import Derived.LoopTactic
import Derived.Deep.LoopGhost
import Derived.Deep.DeepCutAuto
import Derived.Deep.DeepFit
import Derived.Maps.AppendAt
import Derived.Below
import Derived.Lib.Hide
import Derived.Handy
import Derived.KernelRfl
import Derived.IntWalk
import Derived.Laws.AppendOwnNone
import Derived.Laws.IdiomStrings
namespace Go.Proofs.YtmoiehbhhplckaaDoor
set_option linter.unusedVariables false
set_option linter.unusedSimpArgs false
open Go.RowKit

open Go.Extern.Stop Go.Stop Go.Extern
def intOfV : Value → Int | .int _ n => n | _ => 0
theorem tch_eqb {tb : Nat} {t : TypeId} {v : Value} {a w w' : World} (h : AsW tb t v w w') (k : Tch (Eqb tb) a w) : Tch (Eqb tb) a w' := k.and h.tch
set_option maxHeartbeats 1600000 in
theorem depth_c {l0 : List Mk} {inner : Int} {u : Value} {w : World} (h : Ch w u l0 inner) (hg : HG w) (hl0 : l0.length ≤ 1000) : Calls Tryd.prog 12 #[u] w (RetI l0.length w) := by
  generalize hw0 : w.alloc (.cells #[.pointer none] 38) = w0
  have ht0 : Blk w0 w.heap.size 38 #[.pointer none] := by subst hw0; exact Blk.new w 38 _
  have hg0 : HG w0 := by subst hw0; exact hg.alloc _
  have h0 : Ch w0 u l0 inner := by subst hw0; exact h.tch ((Tch.refl No w).alloc _)
  have hf0 : Tch No w w0 := by subst hw0; exact (Tch.refl No w).alloc _
  have hsz := hg.lt
  have HT0 := Lib.hid ht0
  have HG0 := Lib.hid hg0
  have H0 := Lib.hid h0
  have HF0 := Lib.hid hf0
  clear ht0 hg0 h0 hf0 hg h
  have HW0 := Lib.hid hw0
  go_enter Tryd.func12, Tryd.ntmps12
  go_wp2_with fail
  clear hw0
  go_loopw [0, 3] (fun uv nv wr => ∃ l : List Mk, l.length ≤ l0.length ∧ Ch wr uv l inner ∧ nv = .int .i64 ((l0.length - l.length : Nat) : Int) ∧ (∃ old, Blk wr w.heap.size 38 #[old]) ∧ HG wr ∧ Tch (Eqb w.heap.size) w0 wr) (fun _ nv _ => l0.length - (intOfV nv).toNat)
  case atStart => exact ⟨l0, Nat.le_refl _, H0.out, by simp, ⟨_, HT0.out⟩, HG0.out, Tch.refl _ _⟩
  case round =>
    obtain ⟨l, hl, hc, rfl, ⟨old, ho⟩, hgr, htr⟩ := hrel
    have A := as_f hc w.heap.size old hgr ho
    have HO := Lib.hid ho
    have HGR := Lib.hid hgr
    have HTR := Lib.hid htr
    clear ho hgr htr hc
    rcases A with ⟨hl', A⟩ | ⟨m, r, g, u', hl', hb, hr, A⟩
    · subst hl'
      go_wp2_with (go_at_call 20; refine A.mono ?_; rintro e w1 ⟨rfl, hw⟩; have c1 := cell1 hw.blk; have HW := Lib.hid hw; clear hw)
      go_ret
      refine ⟨?_, ?_⟩
      · simp
      · exact HF0.out.trans (tch_eqb HW.out HTR.out) (fun i hi => .inr (by unfold Eqb at hi; omega))
    · subst hl'
      have hne := ne40 HO.out (by decide) g _ hb
      have HN := Lib.hid hne
      clear hne
      have hr1 : r.length + 1 ≤ l0.length := by simpa using hl
      have HR := Lib.hid hr
      have HB := Lib.hid hb
      clear hr hb hl
      go_wp2_with (go_at_call 20; refine A.mono ?_; rintro e w1 ⟨rfl, hw⟩; have c1 := cell1 hw.blk; obtain ⟨g0, g1, g2⟩ := cells3 (hw.tch.blk HB.out HN.out); have HW := Lib.hid hw; clear hw)
      refine ⟨⟨r, by omega, HR.out.tchS HW.out.tch (ne40 HO.out (by decide)), ?_, ⟨_, HW.out.blk⟩, HGR.out.tch HW.out.tch (by unfold Eqb; omega), tch_eqb HW.out HTR.out⟩, ?_⟩
      · simp; omega
      · simp [intOfV]; omega
end Go.Proofs.YtmoiehbhhplckaaDoor
