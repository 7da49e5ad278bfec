/- A span of time: its words, contracts of come, put, was. Conditions: the span is one block, its numbers are those of a span. -/
import Derived.Test.YtppbgkadpomblaaProg
import Derived.Test.YtppbgkadpomblaaB3
import Derived.Tactics
import Derived.Tactics2
import Derived.WalkKit
import Derived.WalkSpells
import Derived.WalkLawsBesides
import Derived.StillTactics
import Derived.StillTailTactics
import Derived.OwnWalk
import Derived.Laws.Pointers
import Derived.Laws.ResultCell
import Derived.Deep.RegionHeld3
import Derived.Deep.RegionWith
import Derived.Deep.RegionLaw
import Derived.Deep.AppendLies
import Derived.Deep.QuietTactic
import Derived.BigQuiet
import Derived.LoopTactic
import Derived.Deep.LoopGhost
import Derived.Deep.DeepCutAuto
import Derived.Deep.DeepFit
import Derived.Maps.AppendAt
import Derived.Below
import Derived.Lib.Hide
import Derived.Handy
import Derived.KernelRfl
import Derived.IntWalk
import Derived.Laws.AppendOwnNone
import Derived.Laws.IdiomStrings
namespace Go.Proofs.Ytppbgkadpomblaa
set_option linter.unusedVariables false
set_option linter.unusedSimpArgs false
open Go.RowKit

/-! ## a span of time -/
structure Wn where
  lo : Int
  hi : Int
  last : Int
  l : List Cl
def ncs (s : Wn) (v : Value) : Array Value := #[.bool true, .int .i64 s.lo, .int .i64 s.hi, .int .i64 s.last, v]
abbrev Wl (w : World) (g b : Nat) (t : TypeId) (v : Value) (s : Wn) : Prop := Dq w g 4 b t (ncs s v) v s.l
structure Wn.Ok (s : Wn) : Prop where
  a0 : 0 ≤ s.lo
  a1 : s.lo ≤ 9223372036854775807
  h0 : -1 ≤ s.hi
  h1 : s.hi ≤ 9223372036854775807
  l0 : 0 ≤ s.last
  l1 : s.last ≤ 9223372036854775807
  c : CellsOk s.l
  n : s.l.length ≤ 800000
def comeW (s : Wn) (t : Int) : Wn := { s with last := max s.last t, l := if s.hi = -1 then s.l else pruneL s.l (max s.last t - s.hi) }
def clrW (s : Wn) (c : Bool) : Wn := if c = true then { s with l := [] } else s
def putW (s : Wn) : Wn := if s.hi = -1 ∧ s.l ≠ [] then s else { s with l := pushL s.l s.last }
def stepW (s : Wn) (t : Int) (c p : Bool) : Wn := if p = true then putW (clrW (comeW s t) c) else clrW (comeW s t) c
def wasL (l : List Cl) (f : Int) : Bool := match l.head? with | none => false | some x => decide (x.at_ ≤ f)
def wasW (s : Wn) : Bool := wasL s.l (s.last - s.lo)
theorem come_ok {s : Wn} (h : s.Ok) {t : Int} (ht : t ≤ 9223372036854775807) : (comeW s t).Ok := by
  obtain ⟨a0, a1, h0, h1, l0, l1, c, n⟩ := h
  refine ⟨a0, a1, h0, h1, ?_, ?_, ?_, ?_⟩
  · show 0 ≤ max s.last t; omega
  · show max s.last t ≤ _; omega
  · show CellsOk (if s.hi = -1 then _ else _); split
    · exact c
    · exact prune_ok c _
  · show (if s.hi = -1 then _ else _ : List Cl).length ≤ _; split
    · exact n
    · have := prune_len s.l (max s.last t - s.hi); omega
theorem clr_ok {s : Wn} (h : s.Ok) (c : Bool) : (clrW s c).Ok := by
  unfold clrW; split
  · exact ⟨h.a0, h.a1, h.h0, h.h1, h.l0, h.l1, (by intro x hx; cases hx), by simp⟩
  · exact h
theorem put_ok {s : Wn} (h : s.Ok) (hn : s.l.length + 1 ≤ 800000) : (putW s).Ok := by
  unfold putW; split
  · exact h
  · have := pushL_ok h.c s.last
    exact ⟨h.a0, h.a1, h.h0, h.h1, h.l0, h.l1, this.1, by show (pushL s.l s.last).length ≤ _; omega⟩
theorem come_len (s : Wn) (t : Int) : (comeW s t).l.length ≤ s.l.length := by
  show (if s.hi = -1 then _ else _ : List Cl).length ≤ _; split
  · exact Nat.le_refl _
  · exact prune_len _ _
theorem clr_len (s : Wn) (c : Bool) : (clrW s c).l.length ≤ s.l.length := by
  unfold clrW; split <;> simp
theorem put_len (s : Wn) (h : CellsOk s.l) : (putW s).l.length ≤ s.l.length + 1 := by
  unfold putW; split
  · omega
  · exact (pushL_ok h _).2

/-- What a method leaves. -/
def WnP (r : Value) (g b : Nat) (t : TypeId) (v : Value) (s : Wn) (w : World) (e : Ending) (w' : World) : Prop :=
  ∃ v', e = .returned r ∧ Wl w' g b t v' s ∧ Tch (Foot g v) w w' ∧ (∀ k, v'.ownBlock = some k → v.ownBlock = some k ∨ w.heap.size ≤ k)

set_option maxHeartbeats 3200000 in
set_option maxRecDepth 100000 in
theorem come_c (g b : Nat) (t : TypeId) (v : Value) (s : Wn) (m : Int) (w : World) (h : Wl w g b t v s) (hs : s.Ok) (ht : m ≤ 9223372036854775807) :
    Calls Try.prog 53 #[.pointer (some ⟨g, 0, none⟩), .int .i64 m] w (WnP (.int .i64 (comeW s m).last) g b t v (comeW s m) w) := by
  obtain ⟨la, hla⟩ : ∃ la, la = max s.last m := ⟨_, rfl⟩
  have hE : comeW s m = { s with last := la, l := if s.hi = -1 then s.l else pruneL s.l (la - s.hi) } := by subst hla; rfl
  rw [hE]
  clear hE
  obtain ⟨a0, a1, h0, h1, l0, l1, cc, nn⟩ := hs
  have hw := (by omega : (s.last < m ∧ la = m) ∨ (m ≤ s.last ∧ la = s.last))
  have hla0 : 0 ≤ la := by omega
  have hla1 : la ≤ 9223372036854775807 := by omega
  have hd0 : -9223372036854775808 ≤ la - s.hi := by omega
  have hd1 : la - s.hi ≤ 9223372036854775808 := by omega
  have hd2 : s.hi ≠ -1 → la - s.hi ≤ 9223372036854775807 := by omega
  clear hla cc
  obtain ⟨c0, c1, c2, c3, c4⟩ := cells5 h.blk
  have fz := h.blk.frozen
  have H := Lib.hid h
  have D1 : Hid (Dq (w.setCell ⟨g, 3, none⟩ (.int .i64 la)) g 4 b t #[.bool true, .int .i64 s.lo, .int .i64 s.hi, .int .i64 la, v] v s.l) := h.setOther 3 (by omega) _
  have T1 : Hid (Tch (Foot g v) w (w.setCell ⟨g, 3, none⟩ (.int .i64 la))) := (Tch.refl _ w).set_ (p := ⟨g, 3, none⟩) (.inl (.inl rfl)) _
  clear h
  rcases (by omega : s.hi = -1 ∨ s.hi ≠ -1) with hh | hh
  · have hb1 : (s.hi != -1) = false := by simpa using hh
    rw [if_pos hh]
    have HH := Lib.hid hh
    clear hh hd2
    rcases hw with ⟨hw, rfl⟩ | ⟨hw, rfl⟩
    all_goals
      go_enter Try.func53, Try.ntmps53
      go_wp2
      go_returns
      exact ⟨v, rfl, D1.out, T1.out, fun k hk => .inl hk⟩
  · have hb1 : (s.hi != -1) = true := by simpa using hh
    have hd2 := hd2 hh
    rw [if_neg hh]
    clear hh
    rcases hw with ⟨hw, rfl⟩ | ⟨hw, rfl⟩
    · skip
      go_enter Try.func53, Try.ntmps53
      go_wp2_with fail
      obtain ⟨e0, e1, e2, e3, e4⟩ := cells5 D1.out.blk
      have hwr : IntKind.i64.wrap (la - s.hi) = la - s.hi := IntWalk.i64_in _ (by omega)
      clear c0 c1 c2 c3 c4 fz
      generalize w.setCell ⟨g, 3, none⟩ (.int .i64 la) = wA at *
      go_still_tail 12, (by kernel_rfl)
      go_wp2_with fail
      refine (prune_c g 4 b t _ v s.l (la - s.hi) _ (D1.out.tch ((Tch.refl No wA).drewN 1)) (by omega)).mono ?_
      rintro e w2 ⟨v2, rfl, d2, t2, hv2⟩
      have D2 : Hid (Dq w2 g 4 b t #[.bool true, .int .i64 s.lo, .int .i64 s.hi, .int .i64 la, v2] v2 (pruneL s.l (la - s.hi))) := d2
      have T2 : Hid (Tch (Foot g v) w w2) := T1.out.and (t2.undrewN (n := 1))
      have hsA := T1.out.size
      have hv2' : ∀ k, v2.ownBlock = some k → v.ownBlock = some k ∨ w.heap.size ≤ k := fun k hk => (hv2 k hk).imp id (fun h => Nat.le_trans hsA h)
      have HV2 := Lib.hid hv2'
      obtain ⟨c0, c1, c2, c3, c4⟩ := cells5 D2.out.blk
      clear d2 t2 hv2 hv2' e0 e1 e2 e3 e4 D1 T1
      go_wp2
      go_returns
      exact ⟨v2, rfl, D2.out, T2.out, HV2.out⟩
    · skip
      go_enter Try.func53, Try.ntmps53
      go_wp2_with fail
      obtain ⟨e0, e1, e2, e3, e4⟩ := cells5 D1.out.blk
      have hwr : IntKind.i64.wrap (s.last - s.hi) = s.last - s.hi := IntWalk.i64_in _ (by omega)
      clear c0 c1 c2 c3 c4 fz
      generalize w.setCell ⟨g, 3, none⟩ (.int .i64 s.last) = wA at *
      go_still_tail 12, (by kernel_rfl)
      go_wp2_with fail
      refine (prune_c g 4 b t _ v s.l (s.last - s.hi) _ (D1.out.tch ((Tch.refl No wA).drewN 1)) (by omega)).mono ?_
      rintro e w2 ⟨v2, rfl, d2, t2, hv2⟩
      have D2 : Hid (Dq w2 g 4 b t #[.bool true, .int .i64 s.lo, .int .i64 s.hi, .int .i64 s.last, v2] v2 (pruneL s.l (s.last - s.hi))) := d2
      have T2 : Hid (Tch (Foot g v) w w2) := T1.out.and (t2.undrewN (n := 1))
      have hsA := T1.out.size
      have hv2' : ∀ k, v2.ownBlock = some k → v.ownBlock = some k ∨ w.heap.size ≤ k := fun k hk => (hv2 k hk).imp id (fun h => Nat.le_trans hsA h)
      have HV2 := Lib.hid hv2'
      obtain ⟨c0, c1, c2, c3, c4⟩ := cells5 D2.out.blk
      clear d2 t2 hv2 hv2' e0 e1 e2 e3 e4 D1 T1
      go_wp2
      go_returns
      exact ⟨v2, rfl, D2.out, T2.out, HV2.out⟩

set_option maxHeartbeats 3200000 in
set_option maxRecDepth 100000 in
theorem put_c (g b : Nat) (t : TypeId) (v : Value) (s : Wn) (w : World) (h : Wl w g b t v s) (hb : b ≤ w.heap.size) (hs : s.Ok) :
    Calls Try.prog 54 #[.pointer (some ⟨g, 0, none⟩)] w (WnP (.tuple #[]) g b t v (putW s) w) := by
  obtain ⟨A, c, rfl⟩ := h.form
  obtain ⟨c0, c1, c2, c3, c4⟩ := cells5 h.blk
  have HC := Lib.hid hs.c
  have hl := hs.n
  obtain ⟨a0, a1, h0, h1, l0, l1, cc, nn⟩ := hs
  clear cc
  have H := Lib.hid h
  clear h
  rcases (by omega : s.hi = -1 ∨ s.hi ≠ -1) with hh | hh
  · have hb1 : (s.hi != -1) = false := by simpa using hh
    rcases Nat.eq_zero_or_pos s.l.length with hz | hz
    · have hE : putW s = { s with l := pushL s.l s.last } := if_neg (by rintro ⟨_, h⟩; exact h (List.eq_nil_of_length_eq_zero hz))
      have hb2 : (s.l.length == 0) = true := by simpa using hz
      rw [hE]
      clear hE hh
      go_enter Try.func54, Try.ntmps54
      go_wp2_with fail
      refine (len_c g 4 A _ c _ c4).mono ?_
      rintro e w1 ⟨rfl, rfl⟩
      go_wp2_with fail
      go_still_tail 7, (by kernel_rfl)
      go_wp2_with fail
      refine (push_c g 4 b t _ _ s.l s.last _ (H.out.tch ((Tch.refl No w).drewN 1)) hb (by omega) HC.out).mono ?_
      rintro e w3 ⟨v3, rfl, d3, t3, hv3⟩
      have D3 : Hid (Dq w3 g 4 b t #[.bool true, .int .i64 s.lo, .int .i64 s.hi, .int .i64 s.last, v3] v3 (pushL s.l s.last)) := d3
      have T3 := Lib.hid (t3.undrewN (n := 1))
      have HV3 := Lib.hid hv3
      clear d3 t3 hv3
      go_wp2
      go_returns
      exact ⟨v3, rfl, D3.out, T3.out, HV3.out⟩
    · have hE : putW s = s := if_pos ⟨hh, fun h => by rw [h] at hz; exact Nat.lt_irrefl _ hz⟩
      have hb2 : (s.l.length == 0) = false := by simp only [beq_eq_false_iff_ne]; omega
      rw [hE]
      clear hE hh
      go_enter Try.func54, Try.ntmps54
      go_wp2_with fail
      refine (len_c g 4 A _ c _ c4).mono ?_
      rintro e w1 ⟨rfl, rfl⟩
      go_wp2
      go_returns
      exact ⟨_, rfl, H.out, Tch.refl _ _, fun k hk => .inl hk⟩
  · have hb1 : (s.hi != -1) = true := by simpa using hh
    have hE : putW s = { s with l := pushL s.l s.last } := if_neg (by rintro ⟨h, _⟩; exact hh h)
    rw [hE]
    clear hE hh
    go_enter Try.func54, Try.ntmps54
    go_wp2_with fail
    go_still_tail 7, (by kernel_rfl)
    go_wp2_with fail
    refine (push_c g 4 b t _ _ s.l s.last _ (H.out.tch ((Tch.refl No w).drewN 1)) hb (by omega) HC.out).mono ?_
    rintro e w3 ⟨v3, rfl, d3, t3, hv3⟩
    have D3 : Hid (Dq w3 g 4 b t #[.bool true, .int .i64 s.lo, .int .i64 s.hi, .int .i64 s.last, v3] v3 (pushL s.l s.last)) := d3
    have T3 := Lib.hid (t3.undrewN (n := 1))
    have HV3 := Lib.hid hv3
    clear d3 t3 hv3
    go_wp2
    go_returns
    exact ⟨v3, rfl, D3.out, T3.out, HV3.out⟩

set_option maxHeartbeats 3200000 in
set_option maxRecDepth 100000 in
theorem was_c (g b : Nat) (t : TypeId) (v : Value) (s : Wn) (w : World) (h : Wl w g b t v s) (hs : s.Ok) :
    Calls Try.prog 55 #[.pointer (some ⟨g, 0, none⟩)] w fun e w' => e = .returned (.bool (wasW s)) ∧ Tch No w w' := by
  have hl := hs.n
  obtain ⟨a0, a1, h0, h1, l0, l1, cc, nn⟩ := hs
  have H := Lib.hid h
  clear h cc
  rcases hq : s.l.head? with _ | x
  · have hE : wasW s = false := by unfold wasW wasL; rw [hq]
    rw [hE]
    have HQ := Lib.hid hq
    clear hE hq
    go_enter Try.func55, Try.ntmps55
    go_wp2_with fail
    refine (first_c g 4 b t _ v s.l _ H.out (by omega)).mono ?_
    rintro e w1 ⟨rfl, t1⟩
    rw [HQ.out]
    dsimp only [Option.getD, Option.isSome]
    have T1 := Lib.hid t1
    clear t1
    go_wp2_with fail
    go_quiet (fail)
    go_wp2
    go_returns
    exact ⟨rfl, (T1.out.alloc _).drewN _⟩
  · have hE : wasW s = decide (x.at_ ≤ s.last - s.lo) := by unfold wasW wasL; rw [hq]
    rw [hE]
    have HQ := Lib.hid hq
    clear hE hq
    have hd0 : -9223372036854775808 ≤ s.last - s.lo := by omega
    have hd1 : s.last - s.lo ≤ 9223372036854775807 := by omega
    have hwr : IntKind.i64.wrap (s.last - s.lo) = s.last - s.lo := IntWalk.i64_in _ (by omega)
    go_enter Try.func55, Try.ntmps55
    go_wp2_with fail
    refine (first_c g 4 b t _ v s.l _ H.out (by omega)).mono ?_
    rintro e w1 ⟨rfl, t1⟩
    rw [HQ.out]
    dsimp only [Option.getD, Option.isSome]
    have T1 := Lib.hid t1
    have B1 := Lib.hid (cells5 (((Tch.refl No w1).alloc (.cells #[.int .i64 x.at_, .int .i64 x.n] 30)).blk (t1.blk H.out.blk (fun f => f)) (fun f => f)))
    clear t1
    go_wp2_with fail
    obtain ⟨c0, c1, c2, c3, c4⟩ := B1.out
    go_quiet (fail)
    go_wp2
    go_returns
    exact ⟨rfl, (T1.out.alloc _).drewN _⟩
end Go.Proofs.Ytppbgkadpomblaa
