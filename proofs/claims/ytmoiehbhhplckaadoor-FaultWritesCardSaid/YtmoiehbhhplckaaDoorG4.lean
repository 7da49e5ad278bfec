/- fault's functions over a chain. Conditions: the chain lies there. -/
import Derived.Test.YtmoiehbhhplckaaDoorProg
import Derived.Test.YtmoiehbhhplckaaDoorG3
import Derived.Tactics
import Derived.Tactics2
import Derived.WalkKit
import Derived.WalkSpells
import Derived.WalkLawsBesides
import Derived.StillTactics
import Derived.StillTailTactics
import Derived.OwnWalk
import Derived.Laws.Pointers
import Derived.Laws.ResultCell
import Derived.Deep.RegionHeld3
import Derived.Deep.RegionWith
import Derived.Deep.RegionLaw
import Derived.Deep.AppendLies
import Derived.Deep.QuietTactic
import Derived.BigQuiet
import Derived.LoopTactic
import Derived.Deep.LoopGhost
import Derived.Deep.DeepCutAuto
import Derived.Deep.DeepFit
import Derived.Maps.AppendAt
import Derived.Below
import Derived.Lib.Hide
import Derived.Handy
import Derived.KernelRfl
import Derived.IntWalk
import Derived.Laws.AppendOwnNone
import Derived.Laws.IdiomStrings
namespace Go.Proofs.YtmoiehbhhplckaaDoor
set_option linter.unusedVariables false
set_option linter.unusedSimpArgs false
open Go.RowKit

open Go.Extern.Stop Go.Stop Go.Extern
theorem Ch.tchS {S : Nat → Prop} {w w' : World} {l : List Mk} {inner : Int} (k : Tch S w w') (hS : ∀ g cs, Blk w g 40 cs → ¬ S g) : ∀ {u : Value}, Ch w u l inner → Ch w' u l inner := by
  induction l with
  | nil => intro u h; exact h
  | cons m l ih =>
    intro u ⟨g, u', h1, h2, h3⟩
    exact ⟨g, u', h1, k.blk h2 (hS _ _ h2), ih h3⟩
def Eqb (tb : Nat) : Nat → Prop := fun k => k = tb
theorem ne40 {w : World} {tb : Nat} {t : TypeId} {o : Value} (h : Blk w tb t #[o]) (ht : t ≠ 40) : ∀ g cs, Blk w g 40 cs → ¬ Eqb tb g := fun g cs hg e => by
  unfold Eqb at e; subst e
  exact hg.ne_ h (fun e => ht e.symm) rfl
/-- what As leaves -/
structure AsW (tb : Nat) (t : TypeId) (v : Value) (w w' : World) : Prop where
  tch : Tch (Eqb tb) w w'
  blk : Blk w' tb t #[v]
theorem asw_set {tb : Nat} {t : TypeId} {o v : Value} {w w1 : World} (k : Tch (Eqb tb) w w1) (h : Blk w1 tb t #[o]) : AsW tb t v w (w1.setCell ⟨tb, 0, none⟩ v) :=
  ⟨k.set_ (p := ⟨tb, 0, none⟩) (.inl rfl) v, h.set_ 0 v⟩
def codeOf (l : List Mk) (inner : Int) : Int := match l with | [] => inner | m :: _ => m.code
/-- errors.As at a chain, the target a *Errno. -/
theorem as_c {l : List Mk} {inner : Int} {u : Value} {w : World} (h : Ch w u l inner) (tb : Nat) (old : Value) (hg : HG w) (ht : Blk w tb 23 #[old]) :
    (l = [] ∧ inner = 0 ∧ Calls Tryd.prog 20 #[u, .iface 46 (.pointer (some ⟨tb, 0, none⟩))] w fun e w' => e = .returned (.bool false) ∧ w' = w) ∨
    (∃ k, k = codeOf l inner ∧ Calls Tryd.prog 20 #[u, .iface 46 (.pointer (some ⟨tb, 0, none⟩))] w fun e w' => e = .returned (.bool true) ∧ AsW tb 23 (.int .i64 k) w w') := by
  cases l with
  | nil =>
    rcases h with ⟨h0, rfl⟩ | ⟨h0, rfl⟩
    · exact .inl ⟨rfl, h0, as_nil _ _⟩
    · refine .inr ⟨inner, rfl, (as_c_errno inner tb old w hg ht).mono ?_⟩
      rintro e w' ⟨rfl, rfl⟩
      exact ⟨rfl, asw_set (((((Tch.refl _ w).alloc _).alloc _).alloc _).alloc _) (((((ht).alloc _).alloc _).alloc _).alloc _)⟩
  | cons m l =>
    obtain ⟨g, u', rfl, hb, hr⟩ := h
    refine .inr ⟨m.code, rfl, (as_c_fault g m.code m.at_ u' tb old w hg hb ht).mono ?_⟩
    rintro e w' ⟨rfl, rfl⟩
    exact ⟨rfl, asw_set ((((Tch.refl _ w).alloc _).alloc _).alloc _) ((((ht).alloc _).alloc _).alloc _)⟩
/-- errors.As at a chain, the target a **Fault. -/
theorem as_f {l : List Mk} {inner : Int} {u : Value} {w : World} (h : Ch w u l inner) (tb : Nat) (old : Value) (hg : HG w) (ht : Blk w tb 38 #[old]) :
    (l = [] ∧ Calls Tryd.prog 20 #[u, .iface 47 (.pointer (some ⟨tb, 0, none⟩))] w fun e w' => e = .returned (.bool false) ∧ AsW tb 38 old w w') ∨
    (∃ m rest g u', l = m :: rest ∧ Blk w g 40 #[.int .i64 m.code, .int .i64 m.at_, u'] ∧ Ch w u' rest inner ∧ Calls Tryd.prog 20 #[u, .iface 47 (.pointer (some ⟨tb, 0, none⟩))] w fun e w' => e = .returned (.bool true) ∧ AsW tb 38 (.pointer (some ⟨g, 0, none⟩)) w w') := by
  cases l with
  | nil =>
    rcases h with ⟨h0, rfl⟩ | ⟨h0, rfl⟩
    · exact .inl ⟨rfl, (as_nil _ _).mono fun e w' ⟨he, hw⟩ => ⟨he, by subst hw; exact ⟨Tch.refl _ _, ht⟩⟩⟩
    · refine .inl ⟨rfl, (as_f_errno inner tb old w hg ht).mono ?_⟩
      rintro e w' ⟨rfl, rfl⟩
      exact ⟨rfl, ((((Tch.refl _ w).alloc _).alloc _).alloc _), ((((ht).alloc _).alloc _).alloc _)⟩
  | cons m l =>
    obtain ⟨g, u', rfl, hb, hr⟩ := h
    refine .inr ⟨m, l, g, u', rfl, hb, hr, (as_f_fault ⟨g, 0, none⟩ tb old w hg ht).mono ?_⟩
    rintro e w' ⟨rfl, rfl⟩
    exact ⟨rfl, asw_set (((((Tch.refl _ w).alloc _).alloc _).alloc _).alloc _) (((((ht).alloc _).alloc _).alloc _).alloc _)⟩
def placeOf (l : List Mk) : Int := match l with | [] => -1 | m :: _ => m.at_
def RetI (n : Int) (w : World) (e : Ending) (w' : World) : Prop := e = .returned (.int .i64 n) ∧ Tch No w w'
def RetB (b : Bool) (w : World) (e : Ending) (w' : World) : Prop := e = .returned (.bool b) ∧ Tch No w w'
theorem asw_no {t : TypeId} {v : Value} {o' : Obj} {w w1 w' : World} (e : w1 = w.alloc o') (k : AsW w.heap.size t v w1 w') : Tch No w w' := by
  subst e
  exact (((Tch.refl No w).alloc _).trans k.tch (fun i hi => .inr (by unfold Eqb at hi; omega)))
theorem code_c {l : List Mk} {inner : Int} {u : Value} {w : World} (h : Ch w u l inner) (hg : HG w) : Calls Tryd.prog 10 #[u] w (RetI (codeOf l inner) w) := by
  have A := as_c (w := w.alloc (.cells #[.int .i64 0] 23)) (h.tch ((Tch.refl No w).alloc _)) w.heap.size (.int .i64 0) (HG.alloc hg _) (Blk.new w 23 _)
  have hc : Hid (∀ i, codeOf [] i = i) := fun _ => rfl
  rcases A with ⟨hl, hi, A⟩ | ⟨k, hk, A⟩
  · have HL := Lib.hid hl
    have HI := Lib.hid hi
    clear hl hi
    go_enter Tryd.func10, Tryd.ntmps10
    go_wp2_with (go_at_call 20; refine A.mono ?_; rintro e w1 ⟨rfl, rfl⟩)
    go_ret
    refine ⟨?_, (Tch.refl No w).alloc _⟩
    show Ending.returned _ = _
    rw [HL.out, HI.out, hc.out]; rfl
  · have HK := Lib.hid hk
    clear hk
    go_enter Tryd.func10, Tryd.ntmps10
    go_wp2_with (go_at_call 20; refine A.mono ?_; rintro e w1 ⟨rfl, hw⟩; have c1 := cell1 hw.blk; have HW := Lib.hid hw; clear hw)
    go_ret
    refine ⟨?_, asw_no rfl HW.out⟩
    rw [← HK.out]; rfl
theorem place_c {l : List Mk} {inner : Int} {u : Value} {w : World} (h : Ch w u l inner) (hg : HG w) : Calls Tryd.prog 11 #[u] w (RetI (placeOf l) w) := by
  have A := as_f (w := w.alloc (.cells #[.pointer none] 38)) (h.tch ((Tch.refl No w).alloc _)) w.heap.size (.pointer none) (HG.alloc hg _) (Blk.new w 38 _)
  have hc1 : Hid (placeOf [] = -1) := rfl
  have hc2 : Hid (∀ m r, placeOf (m :: r) = m.at_) := fun _ _ => rfl
  rcases A with ⟨hl, A⟩ | ⟨m, r, g, u', hl, hb, hr, A⟩
  · have HL := Lib.hid hl
    clear hl
    go_enter Tryd.func11, Tryd.ntmps11
    go_wp2_with (go_at_call 20; refine A.mono ?_; rintro e w1 ⟨rfl, hw⟩; have c1 := cell1 hw.blk; have HW := Lib.hid hw; clear hw)
    go_ret
    refine ⟨?_, asw_no rfl HW.out⟩
    rw [HL.out, hc1.out]; rfl
  · have HL := Lib.hid hl
    clear hl
    have hne := ne40 (Blk.new w 38 #[.pointer none]) (by decide) g _ hb
    have HN := Lib.hid hne
    clear hne
    go_enter Tryd.func11, Tryd.ntmps11
    go_wp2_with (go_at_call 20; refine A.mono ?_; rintro e w1 ⟨rfl, hw⟩; have c1 := cell1 hw.blk; obtain ⟨g0, g1, g2⟩ := cells3 (hw.tch.blk hb HN.out); have HW := Lib.hid hw; clear hw)
    go_ret
    refine ⟨?_, asw_no rfl HW.out⟩
    rw [HL.out, hc2.out]; rfl
end Go.Proofs.YtmoiehbhhplckaaDoor
