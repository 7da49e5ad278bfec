/- The law QuotaRuns: its walk. Conditions: the list reads as a list of steps. -/
import Derived.Test.YtmfhilddemgabaaProg
import Derived.Test.YtmfhilddemgabaaQ8
import Derived.Tactics
import Derived.Tactics2
import Derived.WalkKit
import Derived.WalkSpells
import Derived.WalkLawsBesides
import Derived.StillTactics
import Derived.StillTailTactics
import Derived.OwnWalk
import Derived.Laws.Pointers
import Derived.Laws.ResultCell
import Derived.Deep.RegionHeld3
import Derived.Deep.RegionWith
import Derived.Deep.RegionLaw
import Derived.Deep.AppendLies
import Derived.Deep.QuietTactic
import Derived.BigQuiet
import Derived.LoopTactic
import Derived.Deep.LoopGhost
import Derived.Deep.DeepCutAuto
import Derived.Deep.DeepFit
import Derived.Maps.AppendAt
import Derived.Below
import Derived.Lib.Hide
import Derived.Handy
import Derived.KernelRfl
namespace Go.Proofs.Ytmfhilddemgabaa
set_option linter.unusedVariables false
set_option linter.unusedSimpArgs false
open Go.RowKit

structure Stp where
  kind : Int
  at_ : Int
  n : Int
structure Stp.Ok (x : Stp) : Prop where
  a : -9223372036854775808 ≤ x.kind
  b : x.kind ≤ 9223372036854775807
  c : -9223372036854775808 ≤ x.at_
  d : x.at_ ≤ 9223372036854775807
  e : -9223372036854775808 ≤ x.n
  f : x.n ≤ 9223372036854775807
instance : Inhabited Stp := ⟨⟨0, 0, 0⟩⟩

/-- A slice that reads as a list of steps, all below block B. -/
def Steps3 (w : World) (A : Option Addr) (n : Nat) (xs : List Stp) : Prop :=
  xs.length = n ∧ (∀ k, k < n → ∃ b off, A = some ⟨b, off, none⟩ ∧ (xs.getD k default).Ok ∧ w.cell? ⟨b, off + k * 3, none⟩ = some (.int .i64 (xs.getD k default).kind) ∧
    w.cell? ⟨b, off + k * 3 + 1, none⟩ = some (.int .i64 (xs.getD k default).at_) ∧ w.cell? ⟨b, off + k * 3 + 2, none⟩ = some (.int .i64 (xs.getD k default).n))

def fewN (n : Nat) : Nat := if 50 < n then 50 else n

set_option maxHeartbeats 400000 in
theorem few_c (A : Option Addr) (n c : Nat) (w : World) (h : n ≤ c) (hm : c ≤ 9223372036854775807) (xs : List Stp) (hx : Steps3 w A n xs) :
    Calls Try.prog 21 #[.slice A n c] w fun e w' => e = .returned (.slice A (fewN n) c) ∧ w = w' := by
  by_cases h5 : 50 < n
  · obtain ⟨b, off, hA, _⟩ := hx.2 0 (by omega)
    subst hA
    go_enter Try.func21, Try.ntmps21
    go_wp2
    go_returns
    rw [show fewN n = 50 from if_pos h5]
    exact ⟨rfl, rfl⟩
  · go_enter Try.func21, Try.ntmps21
    go_wp2
    go_returns
    rw [show fewN n = n from if_neg h5]
    exact ⟨rfl, rfl⟩

theorem few_steps {w : World} {A : Option Addr} {n : Nat} {xs : List Stp} (h : Steps3 w A n xs) : Steps3 w A (fewN n) (xs.take (fewN n)) := by
  have hle : fewN n ≤ n := by unfold fewN; split <;> omega
  refine ⟨by rw [List.length_take, h.1]; omega, fun k hk => ?_⟩
  obtain ⟨b, off, hA, hr⟩ := h.2 k (by omega)
  have e : (xs.take (fewN n)).getD k default = xs.getD k default := by
    simp only [List.getD_eq_getElem?_getD, List.getElem?_take]
    rw [if_pos hk]
  rw [e]
  exact ⟨b, off, hA, hr⟩
theorem Steps3.below {w w' : World} {A : Option Addr} {n : Nat} {xs : List Stp} (h : Steps3 w A n xs) (hb : Below w.heap.size w w') : Steps3 w' A n xs := by
  refine ⟨h.1, fun k hk => ?_⟩
  obtain ⟨b, off, hA, h0, h1, h2, h3⟩ := h.2 k hk
  have hlt := World.block_lt_of_cell? w _ h1
  exact ⟨b, off, hA, h0, (hb.cell (p := ⟨b, off + k * 3, none⟩) hlt).trans h1, (hb.cell (p := ⟨b, off + k * 3 + 1, none⟩) hlt).trans h2, (hb.cell (p := ⟨b, off + k * 3 + 2, none⟩) hlt).trans h3⟩

def Out (b : Bool) (w : World) (e : Ending) (w' : World) : Prop := e = .returned (.bool b) ∧ Below w.heap.size w w'

def stepS (s : Bk) (x : Stp) : Bk := if x.kind = 1 then takeS s x.at_ x.n else s
theorem step_c (g : Nat) (s : Bk) (x : Stp) (w : World) (h : Bkt w g s) (hs : s.Ok) (hx : x.Ok) :
    Calls Try.prog 22 #[.pointer (some ⟨g, 0, none⟩), .agg #[.int .i64 s.size, .int .i64 s.rate, .int .i64 s.have_, .int .i64 s.last], .agg #[.int .i64 x.kind, .int .i64 x.at_, .int .i64 x.n]] w (StepP g (stepS s x) w) := by
  obtain ⟨kd, t, n⟩ := x
  obtain ⟨_, _, h3, h4, h5, h6⟩ := hx
  simp only at h3 h4 h5 h6 ⊢
  by_cases h1 : kd = 1
  · subst h1
    exact step_take g s t n w h hs h3 h4 h5 h6
  · rw [show stepS s ⟨kd, t, n⟩ = s from if_neg h1]
    by_cases h2 : kd = 2
    · subst h2
      exact step_wait g s t n w h hs h3 h4 h5 h6
    · exact step_other g s kd t n w h hs h3 h4 (by simpa using h1) (by simpa using h2) (by simpa using h1)
theorem stepS_ok {s : Bk} {x : Stp} (hs : s.Ok) (hx : x.Ok) : (stepS s x).Ok := by
  unfold stepS; split
  · exact take_ok s hs _ _ hx.d
  · exact hs

theorem far1 {w w' : World} {b o g : Nat} {u : Value} (h : w.grownBy w' (some g)) (hne : ¬ b = g) (hc : w.cell? ⟨b, o, none⟩ = some u) : w'.cell? ⟨b, o, none⟩ = some u :=
  (World.cell?_of_block (h.block b (World.block_lt_of_cell? w ⟨b, o, none⟩ hc) (fun e => hne (by injection e)))).trans hc
theorem blk_far {w w' : World} {b g : Nat} {t : TypeId} {cs : Array Value} (h : w.grownBy w' (some g)) (hne : ¬ b = g) (hb : Blk w b t cs) : Blk w' b t cs := hb.grown h (fun e => hne (by injection e))
def RunRel (W : World) (g r : Nat) (okv iv : Value) (m : Nat) (wr : World) : Prop :=
  okv = .bool true ∧ ∃ k : Nat, k ≤ m ∧ iv = .int .i64 k ∧ ∃ s : Bk, s.Ok ∧ Bkt wr g s ∧ Blk wr r 42 #[.int .i64 s.size, .int .i64 s.rate, .int .i64 s.have_, .int .i64 s.last] ∧ Below W.heap.size W wr

theorem run_step {w wr w2 : World} {g r k m : Nat} {s : Bk} {x : Stp} (hlt : k < m) (hs : s.Ok) (hxo : x.Ok) (hgr : g ≠ r) (hg1 : w.heap.size ≤ g) (hr1 : w.heap.size ≤ r) (hb : Below w.heap.size w wr) (hb2 : wr.grownBy w2 (some g))
    (h2 : Bkt w2 g (stepS s x)) (hr2 : Blk w2 r 42 #[.int .i64 s.size, .int .i64 s.rate, .int .i64 s.have_, .int .i64 s.last]) :
    RunRel w g r (.bool true) (.int .i64 (↑k + 1)) m ((((w2.setCell ⟨r, 0, none⟩ (.int .i64 (stepS s x).size)).setCell ⟨r, 1, none⟩ (.int .i64 (stepS s x).rate)).setCell ⟨r, 2, none⟩ (.int .i64 (stepS s x).have_)).setCell ⟨r, 3, none⟩ (.int .i64 (stepS s x).last)) :=
  ⟨rfl, k + 1, by omega, by simp, stepS s x, stepS_ok hs hxo, Blk.s4 h2 hgr _ _ _ _, (((hr2.set_ 0 _).set_ 1 _).set_ 2 _).set_ 3 _, below_s4 (hb.trans (gr_below hb2 hb.size hg1)) hr1 _ _ _ _⟩

set_option maxHeartbeats 400000 in
theorem runs_c (size rate : Int) (A : Option Addr) (n c : Nat) (w : World) (h : n ≤ c) (hm : c ≤ 9223372036854775807) (xs : List Stp) (hx : Steps3 w A n xs) :
    Calls Try.prog 4 #[.int .i64 size, .int .i64 rate, .slice A n c] w (Out true w) := by
  go_enter Try.func4, Try.ntmps4
  go_wp2_with fail
  refine (alive_c _).mono ?_
  rintro e w1 ⟨rfl, hb1⟩
  go_wp2_with fail
  refine (new_c size rate _).mono ?_
  rintro e w2 ⟨rfl, rfl⟩
  go_wp2_with fail
  refine (begin_c size rate _).mono ?_
  rintro e w3 ⟨rfl, hb3⟩
  have hk := (Blk.new w1 58 (newCells (newS size rate))).below hb3 (Blk.lt (Blk.new w1 58 _))
  have hb4 := below_into hb1 (below_into ((Below.refl _ _).alloc (Nat.le_refl _) _) hb3)
  go_wp2_with fail
  refine (few_c A n c _ h hm xs (hx.below (hb4.alloc hb4.size _))).mono ?_
  rintro e w5 ⟨rfl, rfl⟩
  go_wp2_with fail
  have hx2 := few_steps hx
  have hmm : fewN n ≤ 9223372036854775807 := by unfold fewN; split <;> omega
  have hs0 := newS_ok size rate
  have hr0 := Blk.new w3 42 #[.int .i64 (newS size rate).size, .int .i64 (newS size rate).rate, .int .i64 (newS size rate).have_, .int .i64 0]
  have hg0 := Blk.alloc hk (.cells #[.int .i64 (newS size rate).size, .int .i64 (newS size rate).rate, .int .i64 (newS size rate).have_, .int .i64 0] 42)
  have hbb := hb4.alloc hb4.size (.cells #[.int .i64 (newS size rate).size, .int .i64 (newS size rate).rate, .int .i64 (newS size rate).have_, .int .i64 0] 42)
  have hgr : w1.heap.size ≠ w3.heap.size := by have := hb3.size; simp at this; omega
  have hg1 : w.heap.size ≤ w1.heap.size := hb1.size
  have hr1 : w.heap.size ≤ w3.heap.size := hb4.size
  clear hb1 hb3 hb4 hk hx
  generalize hw : w3.alloc (.cells #[.int .i64 (newS size rate).size, .int .i64 (newS size rate).rate, .int .i64 (newS size rate).have_, .int .i64 0] 42) = w4 at *
  clear hw
  generalize w1.heap.size = g at *
  generalize w3.heap.size = r at *
  generalize fewN n = m at *
  generalize xs.take m = ys at *
  have Hx := Lib.hid hx2
  clear hx2
  go_loopw [9, 10] (fun okv iv wr => RunRel w g r okv iv m wr) (fun _ iv _ => m - (intOf iv).toNat)
  case atStart => exact ⟨rfl, 0, by omega, rfl, newS size rate, hs0, hg0, hr0, hbb⟩
  case round =>
    obtain ⟨rfl, k, hkm, rfl, s, hs, hg, hr, hb⟩ := hrel
    by_cases hlt : k < m
    · have hbl : ∃ b off, A = some ⟨b, off, none⟩ ∧ b < w.heap.size := by
        obtain ⟨b, off, hA, _, x0, _⟩ := Hx.out.2 k hlt
        exact ⟨b, off, hA, World.block_lt_of_cell? w _ x0⟩
      obtain ⟨b, off, rfl, hbw⟩ := hbl
      obtain ⟨b', off', hA, hxo, x0, x1, x2⟩ := (Hx.out.below hb).2 k hlt
      obtain ⟨rfl, rfl⟩ : b = b' ∧ off = off' := by simpa using hA
      clear hA
      generalize ys.getD k default = x at *
      obtain ⟨c0, c1, c2, c3⟩ := cells4 hr
      have fr := hr.frozen
      have G := Lib.hid (And.intro hs (And.intro hg (And.intro hr (And.intro hb hxo))))
      have hne1 : ¬ b = g := by omega
      have hne3 : ¬ r = g := by omega
      have hbk := World.block_lt_of_cell? wr _ x0
      have hne2 : ¬ b = r := by omega
      clear hs hg hr hb hxo
      go_wp2_with fail
      go_region_law (go_simp; go_at_call 22; go_must (refine (step_c g s x _ (G.out.2.1.drewN 1) G.out.1 G.out.2.2.2.2).mono ?_); rintro e w2 ⟨rfl, hb2, h2⟩; replace hb2 := ungrew hb2; have hr2 := blk_far hb2 hne3 G.out.2.2.1; obtain ⟨c0, c1, c2, c3⟩ := cells4 hr2; have fr := hr2.frozen)
      all_goals go_wp2
      all_goals exact ⟨run_step hlt G.out.1 G.out.2.2.2.2 hgr hg1 hr1 G.out.2.2.2.1 hb2 h2 hr2, by simp [intOf]; omega⟩
    · have hkm2 : k = m := by omega
      subst hkm2
      clear hs hg hr
      go_wp2
      go_returns
      exact ⟨rfl, hb⟩
end Go.Proofs.Ytmfhilddemgabaa
