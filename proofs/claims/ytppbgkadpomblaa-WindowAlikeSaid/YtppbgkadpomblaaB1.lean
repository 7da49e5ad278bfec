/- The tally layer: its words, contracts of New, Step, Cells, Clone. Conditions: the tally is one block, its numbers are those of a tally. -/
import Derived.Test.YtppbgkadpomblaaProg
import Derived.Test.YtppbgkadpomblaaA12
import Derived.Tactics
import Derived.Tactics2
import Derived.WalkKit
import Derived.WalkSpells
import Derived.WalkLawsBesides
import Derived.StillTactics
import Derived.StillTailTactics
import Derived.OwnWalk
import Derived.Laws.Pointers
import Derived.Laws.ResultCell
import Derived.Deep.RegionHeld3
import Derived.Deep.RegionWith
import Derived.Deep.RegionLaw
import Derived.Deep.AppendLies
import Derived.Deep.QuietTactic
import Derived.BigQuiet
import Derived.LoopTactic
import Derived.Deep.LoopGhost
import Derived.Deep.DeepCutAuto
import Derived.Deep.DeepFit
import Derived.Maps.AppendAt
import Derived.Below
import Derived.Lib.Hide
import Derived.Handy
import Derived.KernelRfl
import Derived.IntWalk
import Derived.Laws.AppendOwnNone
import Derived.Laws.IdiomStrings
namespace Go.Proofs.Ytppbgkadpomblaa
set_option linter.unusedVariables false
set_option linter.unusedSimpArgs false
open Go.RowKit

/-! ## a tally -/
structure Ty where
  hi : Int
  last : Int
  l : List Cl
def tcs (s : Ty) (v : Value) : Array Value := #[.bool true, .int .i64 s.hi, .int .i64 s.last, v]
abbrev Tl (w : World) (g b : Nat) (v : Value) (s : Ty) : Prop := Dq w g 3 b 54 (tcs s v) v s.l
structure Ty.Ok (s : Ty) : Prop where
  h0 : 0 ≤ s.hi
  h1 : s.hi ≤ 9223372036854775807
  l0 : 0 ≤ s.last
  l1 : s.last ≤ 9223372036854775807
  c : CellsOk s.l
  n : s.l.length ≤ 800000
def stepT (s : Ty) (t : Int) (is : Bool) : Ty :=
  let la := max s.last t
  let p := pruneL s.l (la - s.hi)
  { s with last := la, l := if is = true then pushL p la else p }
theorem prune_ok {l : List Cl} (h : CellsOk l) (f : Int) : CellsOk (pruneL l f) := fun x hx => h x (List.mem_of_mem_drop hx)
theorem prune_len (l : List Cl) (f : Int) : (pruneL l f).length ≤ l.length := by unfold pruneL; rw [List.length_drop]; omega
theorem pushL_ok {l : List Cl} (h : CellsOk l) (t : Int) : CellsOk (pushL l t) ∧ (pushL l t).length ≤ l.length + 1 := by
  rcases last_split l with rfl | ⟨p, x, rfl⟩
  · constructor
    · intro y hy; simp [pushL] at hy; subst hy; simp only; omega
    · simp [pushL]
  · have hx := h x (by simp)
    rcases (by omega : t < x.at_ ∨ t = x.at_ ∨ x.at_ < t) with h1 | h1 | h1
    · rw [(push_less p x t h1).1]
      exact ⟨h, by omega⟩
    · rw [(push_same p x t h1).1]
      refine ⟨fun y hy => ?_, by simp⟩
      rcases List.mem_append.1 hy with hy | hy
      · exact h y (by simp [hy])
      · simp at hy; subst hy; simp only; omega
    · rw [(push_more p x t h1).1]
      refine ⟨fun y hy => ?_, by simp⟩
      rcases List.mem_append.1 hy with hy | hy
      · exact h y hy
      · simp at hy; subst hy; simp only; omega
theorem stepT_ok {s : Ty} (h : s.Ok) {t : Int} (ht : t ≤ 9223372036854775807) (is : Bool) (hn : s.l.length + 1 ≤ 800000) : (stepT s t is).Ok := by
  have a1 := prune_ok h.c (max s.last t - s.hi)
  have a2 := prune_len s.l (max s.last t - s.hi)
  have a3 := pushL_ok a1 (max s.last t)
  obtain ⟨h0, h1, l0, l1, c, n⟩ := h
  refine ⟨h0, h1, ?_, ?_, ?_, ?_⟩
  · show 0 ≤ max s.last t; omega
  · show max s.last t ≤ _; omega
  · show CellsOk (if is = true then _ else _); split
    · exact a3.1
    · exact a1
  · show (if is = true then pushL _ _ else _).length ≤ _; split
    · have := a3.2; omega
    · omega

theorem Dq.setOther {w : World} {g o b : Nat} {t : TypeId} {cs : Array Value} {v : Value} {l : List Cl} (h : Dq w g o b t cs v l) (i : Nat) (hi : i ≠ o) (u : Value) : Dq (w.setCell ⟨g, i, none⟩ u) g o b t (cs.setIfInBounds i u) v l := by
  refine ⟨h.blk.set_ i u, ?_, h.ne, ?_⟩
  · rw [Array.getElem?_setIfInBounds, if_neg hi]
    exact h.cell
  · exact ((Tch.refl (fun k => k = g) w).set_ (p := ⟨g, i, none⟩) (.inl rfl) u).own h.own (fun k hk e => h.apart (by rw [hk]; rw [e]))

def NewTP (s : Ty) (w : World) (e : Ending) (w' : World) : Prop := e = .returned (.pointer (some ⟨w.heap.size, 0, none⟩)) ∧ w.alloc (.cells (tcs s (.slice none 0 0)) 54) = w'
theorem tnew_c (hi s : Int) (w : World) (hs : s = max hi 0) : Calls Try.prog 25 #[.int .i64 hi] w (NewTP ⟨s, 0, []⟩ w) := by
  rcases (by omega : (hi < 0 ∧ s = 0) ∨ (0 ≤ hi ∧ s = hi)) with ⟨h, rfl⟩ | ⟨h, rfl⟩
  all_goals
    clear hs
    go_enter Try.func25, Try.ntmps25
    go_wp2
    go_returns
    exact ⟨rfl, rfl⟩
theorem tnew_tl (w : World) (s : Ty) (b : Nat) (hl : s.l = []) : Tl (w.alloc (.cells (tcs s (.slice none 0 0)) 54)) w.heap.size b (.slice none 0 0) s :=
  ⟨Blk.new w 54 _, rfl, by decide, by rw [hl]; exact World.ownsRow_nil ..⟩

/-- What a Step leaves. -/
def TStP (g b : Nat) (v : Value) (s : Ty) (w : World) (e : Ending) (w' : World) : Prop :=
  ∃ v', e = .returned (.int .i64 (sumL s.l)) ∧ Tl w' g b v' s ∧ Tch (Foot g v) w w' ∧ (∀ k, v'.ownBlock = some k → v.ownBlock = some k ∨ w.heap.size ≤ k)
theorem foot_two {g : Nat} {v v1 : Value} {w w1 w2 : World} (t1 : Tch (Foot g v) w w1) (hv : ∀ k, v1.ownBlock = some k → v.ownBlock = some k ∨ w.heap.size ≤ k) (t2 : Tch (Foot g v1) w1 w2) : Tch (Foot g v) w w2 :=
  t1.trans t2 (by
    rintro k (f | f)
    · exact .inl (.inl f)
    · exact (hv k f).imp .inr id)
theorem own_two {v v1 v2 : Value} {w w1 : World} (hs : w.heap.size ≤ w1.heap.size) (h1 : ∀ k, v1.ownBlock = some k → v.ownBlock = some k ∨ w.heap.size ≤ k) (h2 : ∀ k, v2.ownBlock = some k → v1.ownBlock = some k ∨ w1.heap.size ≤ k) : ∀ k, v2.ownBlock = some k → v.ownBlock = some k ∨ w.heap.size ≤ k :=
  fun k hk => (h2 k hk).elim (h1 k) (fun h => .inr (by omega))

set_option maxHeartbeats 3200000 in
set_option maxRecDepth 100000 in
theorem tstep_c (g b : Nat) (v : Value) (s : Ty) (t : Int) (is : Bool) (w : World) (h : Tl w g b v s) (hb : b ≤ w.heap.size) (hs : s.Ok) (ht : t ≤ 9223372036854775807) (hn : s.l.length ≤ 700000) :
    Calls Try.prog 27 #[.pointer (some ⟨g, 0, none⟩), .int .i64 t, .bool is] w (TStP g b v (stepT s t is) w) := by
  obtain ⟨la, hla⟩ : ∃ la, la = max s.last t := ⟨_, rfl⟩
  have hE : stepT s t is = { s with last := la, l := if is = true then pushL (pruneL s.l (la - s.hi)) la else pruneL s.l (la - s.hi) } := by subst hla; rfl
  have HE := Lib.hid hE
  have hok1 := prune_ok hs.c (la - s.hi)
  have hlen1 := prune_len s.l (la - s.hi)
  have hp2 := pushL_ok hok1 la
  have HP := Lib.hid (And.intro hok1 hp2.1)
  have hlen2 := hp2.2
  obtain ⟨h0, h1, l0, l1, cc, nn⟩ := hs
  have hw := (by omega : (s.last < t ∧ la = t) ∨ (t ≤ s.last ∧ la = s.last))
  have hla0 : 0 ≤ la := by omega
  have hla1 : la ≤ 9223372036854775807 := by omega
  have hd0 : -9223372036854775808 ≤ la - s.hi := by omega
  have hd1 : la - s.hi ≤ 9223372036854775807 := by omega
  clear hla hE hok1 hp2 cc
  obtain ⟨c0, c1, c2, c3⟩ := cells4 h.blk
  have fz := h.blk.frozen
  have H := Lib.hid h
  have D1 : Hid (Dq (w.setCell ⟨g, 2, none⟩ (.int .i64 la)) g 3 b 54 #[.bool true, .int .i64 s.hi, .int .i64 la, v] v s.l) := h.setOther 2 (by omega) _
  have T1 : Hid (Tch (Foot g v) w (w.setCell ⟨g, 2, none⟩ (.int .i64 la))) := (Tch.refl _ w).set_ (p := ⟨g, 2, none⟩) (.inl (.inl rfl)) _
  clear h
  rcases hw with ⟨hw, rfl⟩ | ⟨hw, rfl⟩
  · skip
    go_enter Try.func27, Try.ntmps27
    go_wp2_with fail
    obtain ⟨e0, e1, e2, e3⟩ := cells4 D1.out.blk
    have hwr : IntKind.i64.wrap (la - s.hi) = la - s.hi := IntWalk.i64_in _ (by omega)
    clear c0 c1 c2 c3 fz
    generalize w.setCell ⟨g, 2, none⟩ (.int .i64 la) = wA at *
    go_still_tail 12, (by kernel_rfl)
    go_wp2_with fail
    refine (prune_c g 3 b 54 _ v s.l (la - s.hi) _ (D1.out.tch ((Tch.refl No wA).drewN 1)) (by omega)).mono ?_
    rintro e w2 ⟨v2, rfl, d2, t2, hv2⟩
    have D2 : Hid (Dq w2 g 3 b 54 #[.bool true, .int .i64 s.hi, .int .i64 la, v2] v2 (pruneL s.l (la - s.hi))) := d2
    have T2 : Hid (Tch (Foot g v) w w2) := T1.out.and (t2.undrewN (n := 1))
    have hsA := T1.out.size
    have hv2' : ∀ k, v2.ownBlock = some k → v.ownBlock = some k ∨ w.heap.size ≤ k := fun k hk => (hv2 k hk).imp id (fun h => Nat.le_trans hsA h)
    have HV2 := Lib.hid hv2'
    have hs2 := T2.out.size
    obtain ⟨c0, c1, c2, c3⟩ := cells4 D2.out.blk
    clear d2 t2 hv2 hv2' e0 e1 e2 e3 D1 T1
    generalize hP : pruneL s.l (la - s.hi) = P at *
    have HPP := Lib.hid hP
    clear hP
    generalize cutN s.l (la - s.hi) = cn
    cases is
    · go_wp2_with fail
      refine (sum_c g 3 b 54 _ v2 P _ D2.out (by omega) HP.out.1).mono ?_
      rintro e w3 ⟨rfl, t3⟩
      go_wp2
      go_returns
      rw [HE.out]
      exact ⟨v2, rfl, D2.out.tch t3, T2.out.and t3.no, HV2.out⟩
    · go_wp2_with fail
      go_still_tail 7, (by kernel_rfl)
      go_wp2_with fail
      refine (push_c g 3 b 54 _ v2 P la _ (D2.out.tch ((Tch.refl No w2).drewN 1)) (Nat.le_trans hb hs2) (by omega) HP.out.1).mono ?_
      rintro e w3 ⟨v3, rfl, d3, t3, hv3⟩
      have D3 : Hid (Dq w3 g 3 b 54 #[.bool true, .int .i64 s.hi, .int .i64 la, v3] v3 (pushL P la)) := d3
      have T3 := Lib.hid (foot_two T2.out HV2.out (t3.undrewN (n := 1)))
      have HV3 := Lib.hid (own_two hs2 HV2.out hv3)
      clear d3 t3 hv3
      generalize pushB P la = pb
      go_wp2_with fail
      refine (sum_c g 3 b 54 _ v3 (pushL P la) _ D3.out (by omega) HP.out.2).mono ?_
      rintro e w4 ⟨rfl, t4⟩
      go_wp2
      go_returns
      rw [HE.out]
      exact ⟨v3, rfl, D3.out.tch t4, T3.out.and t4.no, HV3.out⟩
  · skip
    go_enter Try.func27, Try.ntmps27
    go_wp2_with fail
    obtain ⟨e0, e1, e2, e3⟩ := cells4 D1.out.blk
    have hwr : IntKind.i64.wrap (s.last - s.hi) = s.last - s.hi := IntWalk.i64_in _ (by omega)
    clear c0 c1 c2 c3 fz
    generalize w.setCell ⟨g, 2, none⟩ (.int .i64 s.last) = wA at *
    go_still_tail 12, (by kernel_rfl)
    go_wp2_with fail
    refine (prune_c g 3 b 54 _ v s.l (s.last - s.hi) _ (D1.out.tch ((Tch.refl No wA).drewN 1)) (by omega)).mono ?_
    rintro e w2 ⟨v2, rfl, d2, t2, hv2⟩
    have D2 : Hid (Dq w2 g 3 b 54 #[.bool true, .int .i64 s.hi, .int .i64 s.last, v2] v2 (pruneL s.l (s.last - s.hi))) := d2
    have T2 : Hid (Tch (Foot g v) w w2) := T1.out.and (t2.undrewN (n := 1))
    have hsA := T1.out.size
    have hv2' : ∀ k, v2.ownBlock = some k → v.ownBlock = some k ∨ w.heap.size ≤ k := fun k hk => (hv2 k hk).imp id (fun h => Nat.le_trans hsA h)
    have HV2 := Lib.hid hv2'
    have hs2 := T2.out.size
    obtain ⟨c0, c1, c2, c3⟩ := cells4 D2.out.blk
    clear d2 t2 hv2 hv2' e0 e1 e2 e3 D1 T1
    generalize hP : pruneL s.l (s.last - s.hi) = P at *
    have HPP := Lib.hid hP
    clear hP
    generalize cutN s.l (s.last - s.hi) = cn
    cases is
    · go_wp2_with fail
      refine (sum_c g 3 b 54 _ v2 P _ D2.out (by omega) HP.out.1).mono ?_
      rintro e w3 ⟨rfl, t3⟩
      go_wp2
      go_returns
      rw [HE.out]
      exact ⟨v2, rfl, D2.out.tch t3, T2.out.and t3.no, HV2.out⟩
    · go_wp2_with fail
      go_still_tail 7, (by kernel_rfl)
      go_wp2_with fail
      refine (push_c g 3 b 54 _ v2 P s.last _ (D2.out.tch ((Tch.refl No w2).drewN 1)) (Nat.le_trans hb hs2) (by omega) HP.out.1).mono ?_
      rintro e w3 ⟨v3, rfl, d3, t3, hv3⟩
      have D3 : Hid (Dq w3 g 3 b 54 #[.bool true, .int .i64 s.hi, .int .i64 s.last, v3] v3 (pushL P s.last)) := d3
      have T3 := Lib.hid (foot_two T2.out HV2.out (t3.undrewN (n := 1)))
      have HV3 := Lib.hid (own_two hs2 HV2.out hv3)
      clear d3 t3 hv3
      generalize pushB P s.last = pb
      go_wp2_with fail
      refine (sum_c g 3 b 54 _ v3 (pushL P s.last) _ D3.out (by omega) HP.out.2).mono ?_
      rintro e w4 ⟨rfl, t4⟩
      go_wp2
      go_returns
      rw [HE.out]
      exact ⟨v3, rfl, D3.out.tch t4, T3.out.and t4.no, HV3.out⟩

theorem tcells_c (g b : Nat) (v : Value) (s : Ty) (w : World) (h : Tl w g b v s) : Calls Try.prog 28 #[.pointer (some ⟨g, 0, none⟩)] w fun e w' => e = .returned (.int .i64 s.l.length) ∧ w = w' := by
  obtain ⟨A, c, rfl⟩ := h.form
  have c0 := h.at_
  have H := Lib.hid h
  clear h
  go_enter Try.func28, Try.ntmps28
  go_wp2_with fail
  refine (len_c g 3 A _ c _ c0).mono ?_
  rintro e w1 ⟨rfl, rfl⟩
  go_wp2
  go_returns
  exact ⟨rfl, rfl⟩
theorem tcells_nil (w : World) : Calls Try.prog 28 #[.pointer none] w fun e w' => e = .returned (.int .i64 0) ∧ w = w' := by
  go_enter Try.func28, Try.ntmps28
  go_wp2
  go_returns
  exact ⟨rfl, rfl⟩
theorem tstep_nil (t : Int) (is : Bool) (w : World) : Calls Try.prog 27 #[.pointer none, .int .i64 t, .bool is] w fun e w' => e = .returned (.int .i64 0) ∧ w = w' := by
  go_enter Try.func27, Try.ntmps27
  go_wp2
  go_returns
  exact ⟨rfl, rfl⟩
theorem tclone_nil (w : World) : Calls Try.prog 29 #[.pointer none] w fun e w' => e = .returned (.pointer none) ∧ w = w' := by
  go_enter Try.func29, Try.ntmps29
  go_wp2
  go_returns
  exact ⟨rfl, rfl⟩
/-- One that nobody made. -/
def Odd (w : World) (g : Nat) : Prop := Blk w g 54 #[.bool false, .int .i64 0, .int .i64 0, .slice none 0 0]
theorem tstep_odd (g : Nat) (t : Int) (is : Bool) (w : World) (h : Odd w g) : Calls Try.prog 27 #[.pointer (some ⟨g, 0, none⟩), .int .i64 t, .bool is] w fun e w' => e = .returned (.int .i64 0) ∧ w = w' := by
  obtain ⟨c0, c1, c2, c3⟩ := cells4 h
  clear h
  go_enter Try.func27, Try.ntmps27
  go_wp2
  go_returns
  exact ⟨rfl, rfl⟩
theorem tclone_odd (g : Nat) (w : World) (h : Odd w g) : Calls Try.prog 29 #[.pointer (some ⟨g, 0, none⟩)] w fun e w' => e = .returned (.pointer none) ∧ w = w' := by
  obtain ⟨c0, c1, c2, c3⟩ := cells4 h
  clear h
  go_enter Try.func29, Try.ntmps29
  go_wp2
  go_returns
  exact ⟨rfl, rfl⟩
theorem tcells_odd (g : Nat) (w : World) (h : Odd w g) : Calls Try.prog 28 #[.pointer (some ⟨g, 0, none⟩)] w fun e w' => e = .returned (.int .i64 0) ∧ w = w' := by
  obtain ⟨c0, c1, c2, c3⟩ := cells4 h
  clear h
  go_enter Try.func28, Try.ntmps28
  go_wp2_with fail
  refine (len_c g 3 none 0 0 _ c3).mono ?_
  rintro e w1 ⟨rfl, rfl⟩
  go_wp2
  go_returns
  exact ⟨rfl, rfl⟩

/-- A tally of its own, in a new block. -/
def TlP (s : Ty) (w : World) (e : Ending) (w' : World) : Prop :=
  ∃ g v, e = .returned (.pointer (some ⟨g, 0, none⟩)) ∧ w.heap.size ≤ g ∧ Tl w' g w.heap.size v s ∧ Tch No w w'
set_option maxHeartbeats 1600000 in
theorem tclone_c (g b : Nat) (v : Value) (s : Ty) (w : World) (h : Tl w g b v s) (hl : s.l.length ≤ 800000) : Calls Try.prog 29 #[.pointer (some ⟨g, 0, none⟩)] w (TlP s w) := by
  obtain ⟨A, c, rfl⟩ := h.form
  obtain ⟨c0, c1, c2, c3⟩ := cells4 h.blk
  have H := Lib.hid h
  have hgl := h.lt
  clear h
  go_enter Try.func29, Try.ntmps29
  go_wp2_with fail
  have BX : Hid (Blk (w.alloc (.cells #[.bool true, .int .i64 s.hi, .int .i64 s.last, .slice A s.l.length c] 54)) w.heap.size 54 #[.bool true, .int .i64 s.hi, .int .i64 s.last, .slice A s.l.length c]) := Blk.new w 54 _
  refine (dclone_c g 3 b 54 _ _ s.l _ (H.out.tch ((Tch.refl No w).alloc _)) (by omega)).mono ?_
  rintro e w1 ⟨gd, vd, rfl, hgd, dd, t1⟩
  obtain ⟨Ad, cd, rfl⟩ := dd.form
  rw [World.size_alloc] at hgd
  have B1 := Lib.hid (t1.blk BX.out (fun f => f))
  have D1 := Lib.hid dd
  have T1 := Lib.hid (((Tch.refl No w).alloc (.cells #[.bool true, .int .i64 s.hi, .int .i64 s.last, .slice A s.l.length c] 54)).and t1)
  have k0 := dd.at_
  have f1 := B1.out.frozen
  obtain ⟨x0, x1, x2, x3⟩ := cells4 B1.out
  have hne : ¬ w.heap.size = gd := by omega
  have hne2 : ¬ gd = w.heap.size := by omega
  clear dd t1 c0 c1 c2 c3 BX
  go_wp2
  go_returns
  refine ⟨w.heap.size, _, rfl, Nat.le_refl _, ⟨B1.out.set_ 3 _, rfl, by decide, ?_⟩, T1.out.set_ (p := ⟨w.heap.size, 3, none⟩) (.inr (Nat.le_refl _)) _⟩
  have ho := own_mono D1.out.own (base' := w.heap.size) (by simp)
  exact ((Tch.refl (fun k => k = w.heap.size) w1).set_ (p := ⟨w.heap.size, 3, none⟩) (.inl rfl) _).own ho (fun k hk e => by
    have := own_base D1.out.own k hk
    rw [World.size_alloc] at this
    omega)
end Go.Proofs.Ytppbgkadpomblaa
