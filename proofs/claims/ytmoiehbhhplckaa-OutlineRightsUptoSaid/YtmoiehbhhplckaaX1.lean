/- Expressions as forests; Depth. Conditions: they lie there. -/
import Derived.Test.YtmoiehbhhplckaaProg
import Derived.Test.YtmoiehbhhplckaaV6
import Derived.Tactics
import Derived.Tactics2
import Derived.WalkKit
import Derived.WalkSpells
import Derived.WalkLawsBesides
import Derived.StillTactics
import Derived.StillTailTactics
import Derived.OwnWalk
import Derived.Laws.Pointers
import Derived.Laws.ResultCell
import Derived.Deep.RegionHeld3
import Derived.Deep.RegionWith
import Derived.Deep.RegionLaw
import Derived.Deep.AppendLies
import Derived.Deep.QuietTactic
import Derived.BigQuiet
import Derived.LoopTactic
import Derived.Deep.LoopGhost
import Derived.Deep.DeepCutAuto
import Derived.Deep.DeepFit
import Derived.Maps.AppendAt
import Derived.Below
import Derived.Lib.Hide
import Derived.Handy
import Derived.KernelRfl
import Derived.IntWalk
import Derived.Laws.AppendOwnNone
import Derived.Laws.IdiomStrings
namespace Go.Proofs.Ytmoiehbhhplckaa
set_option linter.unusedVariables false
set_option linter.unusedSimpArgs false
open Go.RowKit

/-! ## expressions as forests: each with its kids, and the ones behind it -/
inductive Fo where
  | nil
  | cons (k : Int) (nm : ByteArray) (n lo hi : Int) (kids rest : Fo)
def Fo.len : Fo → Nat
  | .nil => 0
  | .cons _ _ _ _ _ _ r => r.len + 1
/-- The forest's expressions lie one behind the other from a cell on. -/
def FoA (w : World) : Fo → Nat → Nat → Prop
  | .nil, _, _ => True
  | .cons k nm n lo hi kids rest, g, off =>
    (∃ A c, (w.cell? ⟨g, off, none⟩ = some (.int .i64 k) ∧ w.cell? ⟨g, off + 1, none⟩ = some (.string nm) ∧ w.cell? ⟨g, off + 2, none⟩ = some (.int .i64 n) ∧ w.cell? ⟨g, off + 3, none⟩ = some (.int .i64 lo) ∧
        w.cell? ⟨g, off + 4, none⟩ = some (.int .i64 hi) ∧ w.cell? ⟨g, off + 5, none⟩ = some (.slice A kids.len c)) ∧
      (kids.len = 0 ∨ ∃ g' o', A = some ⟨g', o', none⟩ ∧ FoA w kids g' o')) ∧ FoA w rest g (off + 6)
/-- A slice of expressions that lies there. -/
def KA (w : World) (kids : Fo) (A : Option Addr) (m : Nat) : Prop := m = kids.len ∧ (kids.len = 0 ∨ ∃ g o, A = some ⟨g, o, none⟩ ∧ FoA w kids g o)
theorem FoA.tch {w w' : World} (t : Tch No w w') : ∀ (f : Fo) (g off : Nat), FoA w f g off → FoA w' f g off := by
  intro f
  induction f with
  | nil => intro g off h; exact h
  | cons k nm n lo hi kids rest ihk ihr =>
    intro g off ⟨⟨A, c, ⟨h0, h1, h2, h3, h4, h5⟩, hk⟩, hr⟩
    refine ⟨⟨A, c, ⟨t.cell (fun f => f) h0, t.cell (fun f => f) h1, t.cell (fun f => f) h2, t.cell (fun f => f) h3, t.cell (fun f => f) h4, t.cell (fun f => f) h5⟩, ?_⟩, ihr g (off + 6) hr⟩
    rcases hk with hk | ⟨g', o', hA, hk⟩
    · exact .inl hk
    · exact .inr ⟨g', o', hA, ihk g' o' hk⟩
theorem KA.tch {w w' : World} {kids : Fo} {A : Option Addr} {m : Nat} (h : KA w kids A m) (t : Tch No w w') : KA w' kids A m := by
  refine ⟨h.1, ?_⟩
  rcases h.2 with h | ⟨g, o, hA, h⟩
  · exact .inl h
  · exact .inr ⟨g, o, hA, FoA.tch t _ _ _ h⟩
theorem len_zero {f : Fo} (h : f.len = 0) : f = .nil := by
  cases f with
  | nil => rfl
  | cons => simp [Fo.len] at h
/-- The first of the forest, as cells; its kids; the rest. -/
theorem foa_first {w : World} {k : Int} {nm : ByteArray} {n lo hi : Int} {kids rest : Fo} {g off : Nat} (h : FoA w (.cons k nm n lo hi kids rest) g off) :
    ∃ A c, (w.cell? ⟨g, off, none⟩ = some (.int .i64 k) ∧ w.cell? ⟨g, off + 1, none⟩ = some (.string nm) ∧ w.cell? ⟨g, off + 2, none⟩ = some (.int .i64 n) ∧ w.cell? ⟨g, off + 3, none⟩ = some (.int .i64 lo) ∧
        w.cell? ⟨g, off + 4, none⟩ = some (.int .i64 hi) ∧ w.cell? ⟨g, off + 5, none⟩ = some (.slice A kids.len c)) ∧ KA w kids A kids.len ∧ FoA w rest g (off + 6) := by
  obtain ⟨⟨A, c, hc, hk⟩, hr⟩ := h
  exact ⟨A, c, hc, ⟨rfl, hk⟩, hr⟩
/-- an expression's value -/
def xagg (k : Int) (nm : ByteArray) (n lo hi : Int) (A : Option Addr) (m c : Nat) : Value := .agg #[.int .i64 k, .string nm, .int .i64 n, .int .i64 lo, .int .i64 hi, .slice A m c]
def xcells (k : Int) (nm : ByteArray) (n lo hi : Int) (A : Option Addr) (m c : Nat) : Array Value := #[.int .i64 k, .string nm, .int .i64 n, .int .i64 lo, .int .i64 hi, .slice A m c]
/-- what a property of kids says of each in a forest -/
def Each (P : Int → ByteArray → Int → Int → Int → Fo → Prop) : Fo → Prop
  | .nil => True
  | .cons k nm n lo hi kids rest => P k nm n lo hi kids ∧ Each P rest
theorem each_all {P : Int → ByteArray → Int → Int → Int → Fo → Prop} (step : ∀ k nm n lo hi kids, Each P kids → P k nm n lo hi kids) : ∀ f, Each P f := by
  intro f
  induction f with
  | nil => trivial
  | cons k nm n lo hi kids rest ihk ihr => exact ⟨step k nm n lo hi kids ihk, ihr⟩
/-- how deep -/
def dF : Fo → Nat
  | .nil => 0
  | .cons k _ _ _ _ kids rest => max (if k = 4 then 1 else dF kids + 1) (dF rest)
def depthV (k : Int) (kids : Fo) : Nat := if k = 4 then 1 else dF kids + 1
/-- how many there are, and their letters -/
def wF : Fo → Nat
  | .nil => 0
  | .cons _ nm _ _ _ kids rest => (nm.size + 100) + wF kids + wF rest
theorem len_wF (f : Fo) : 100 * f.len ≤ wF f := by
  induction f with
  | nil => simp [Fo.len, wF]
  | cons k nm n lo hi kids rest _ ihr => simp only [Fo.len, wF]; omega
theorem dF_wF (f : Fo) : dF f ≤ wF f := by
  induction f with
  | nil => simp [dF]
  | cons k nm n lo hi kids rest ihk ihr =>
    simp only [dF, wF]
    split <;> omega
def DepthC (k : Int) (nm : ByteArray) (n lo hi : Int) (kids : Fo) : Prop := ∀ (A : Option Addr) (m c : Nat) (w : World), KA w kids A m → Calls Try.prog 54 #[xagg k nm n lo hi A m c] w fun e w' => e = .returned (.int .i64 (depthV k kids : Nat)) ∧ Tch No w w'
theorem max_if (a b : Nat) : (if b < a then (a : Int) else (b : Int)) = ((max b a : Nat) : Int) := by
  split <;> omega
set_option maxHeartbeats 4000000 in
set_option maxRecDepth 100000 in
theorem depth_step (k : Int) (nm : ByteArray) (n lo hi : Int) (kids : Fo) (hw : wF kids ≤ 200000000) (H : Each DepthC kids) : DepthC k nm n lo hi kids := by
  intro A m c w hk
  have HK := Lib.hid hk
  have hdw := dF_wF kids
  have hlw := len_wF kids
  obtain ⟨rfl, _⟩ := hk
  have HH := Lib.hid H
  have HD4 : Hid (k = 4 → depthV k kids = 1) := fun h => if_pos h
  have HDn : Hid (k ≠ 4 → depthV k kids = dF kids + 1) := fun h => if_neg h
  clear H
  unfold xagg
  generalize hwb : w.alloc (.cells (xcells k nm n lo hi A kids.len c) 51) = wb
  have TB : Hid (Tch No w wb) := by subst hwb; exact (Tch.refl No w).alloc _
  have BX : Hid (Blk wb w.heap.size 51 (xcells k nm n lo hi A kids.len c)) := by subst hwb; exact Blk.new w 51 _
  obtain ⟨e0, e1, e2, e3, e4, e5⟩ := cells6 BX.out
  unfold xcells at hwb
  by_cases k4 : k = 4
  · subst k4
    have D4 := Lib.hid (HD4.out rfl)
    go_enter Try.func54, Try.ntmps54
    go_wp2
    go_returns
    exact ⟨by rw [D4.out]; rfl, TB.out⟩
  · have hk4 : (k == 4) = false := by simp [k4]
    have K4 := Lib.hid k4
    clear k4
    go_enter Try.func54, Try.ntmps54
    go_wp2_with fail
    clear hwb
    go_loopw [3, 4] (fun mv iv wr => ∃ (i : Nat) (r : Fo) (d : Nat), i + r.len = kids.len ∧ iv = .int .i64 i ∧ mv = .int .i64 d ∧ max d (dF r) = dF kids ∧ Each DepthC r ∧ (r.len = 0 ∨ ∃ g o, A = some ⟨g, o, none⟩ ∧ FoA w r g (o + i * 6)) ∧ Tch No wb wr) (fun _ iv _ => kids.len - (intOf iv).toNat)
    case atStart => exact ⟨0, kids, 0, by omega, rfl, rfl, by omega, HH.out, by simpa using HK.out.2, Tch.refl _ _⟩
    case round =>
      obtain ⟨i, r, d, hil, rfl, rfl, hd, hE, hf, ht⟩ := hrel
      have HT := Lib.hid ht
      obtain ⟨a0, a1, a2, a3, a4, a5⟩ := cells6 (ht.blk BX.out (fun f => f))
      clear ht
      cases r with
      | nil =>
        have hlt : ¬ ((i : Int) < (kids.len : Int)) := by simp only [Fo.len] at hil; omega
        have hdd : Hid (d = dF kids) := by simp only [dF] at hd; exact (by omega : d = dF kids)
        have hd2 : d ≤ 200000000 := by have := hdd.out; omega
        clear hf hE hil hd
        go_wp2
        go_returns
        refine ⟨?_, TB.out.and HT.out⟩
        rw [HDn.out K4.out, ← hdd.out]
        simp
      | cons k1 nm1 n1 lo1 hi1 kids1 rest =>
        simp only [Fo.len] at hil hf
        rcases hf with hf | ⟨g, o, hA, hf⟩
        · omega
        subst hA
        obtain ⟨A1, c1, ⟨x0, x1, x2, x3, x4, x5⟩, hk1, hr1⟩ := foa_first (FoA.tch (TB.out.and HT.out) _ _ _ hf)
        have hlt : (i : Int) < (kids.len : Int) := by omega
        have DC := Lib.hid (hE.1 A1 kids1.len c1 wr hk1)
        have HE := Lib.hid hE.2
        obtain ⟨_, _, _, _, hr2⟩ := foa_first hf
        have HR := Lib.hid hr2
        unfold xagg at DC
        have hd1 : Hid (max d (max (depthV k1 kids1) (dF rest)) = dF kids) := by simp only [dF] at hd; exact hd
        have hil2 : i + 1 + rest.len = kids.len := by omega
        have hL := Lib.hid hil2
        clear hk1 hr1 hf hE hil hd hr2 hil2
        generalize depthV k1 kids1 = D at *
        by_cases hdd : d < D
        · have hdi : (d : Int) < (D : Int) := by omega
          go_wp2_with (go_at_call 54; go_must (refine DC.out.mono ?_); rintro e w5 ⟨rfl, t5⟩; have T5 := Lib.hid (HT.out.and t5); clear t5)
          refine ⟨⟨i + 1, rest, D, hL.out, by simp, rfl, ?_, HE.out, .inr ⟨g, o, rfl, ?_⟩, T5.out⟩, by have := hL.out; simp [intOf]; omega⟩
          · have := hd1.out; omega
          · have := HR.out
            rw [show o + (i + 1) * 6 = o + i * 6 + 6 by omega]
            exact this
        · have hdi : ¬ (d : Int) < (D : Int) := by omega
          go_wp2_with (go_at_call 54; go_must (refine DC.out.mono ?_); rintro e w5 ⟨rfl, t5⟩; have T5 := Lib.hid (HT.out.and t5); clear t5)
          refine ⟨⟨i + 1, rest, d, hL.out, by simp, rfl, ?_, HE.out, .inr ⟨g, o, rfl, ?_⟩, T5.out⟩, by have := hL.out; simp [intOf]; omega⟩
          · have := hd1.out; omega
          · have := HR.out
            rw [show o + (i + 1) * 6 = o + i * 6 + 6 by omega]
            exact this
/-- All kids of what has a weight have one too. -/
theorem each_w {P : Int → ByteArray → Int → Int → Int → Fo → Prop} (W : Nat) (step : ∀ k nm n lo hi kids, wF kids ≤ W → Each P kids → P k nm n lo hi kids) : ∀ f, wF f ≤ W → Each P f := by
  intro f
  induction f with
  | nil => intro _; trivial
  | cons k nm n lo hi kids rest ihk ihr =>
    intro hw
    simp only [wF] at hw
    exact ⟨step k nm n lo hi kids (by omega) (ihk (by omega)), ihr (by omega)⟩
theorem depth_c (k : Int) (nm : ByteArray) (n lo hi : Int) (kids : Fo) (hw : wF kids ≤ 200000000) : DepthC k nm n lo hi kids :=
  depth_step k nm n lo hi kids hw (each_w _ (fun k nm n lo hi kids hw H => depth_step k nm n lo hi kids hw H) kids hw)
end Go.Proofs.Ytmoiehbhhplckaa
