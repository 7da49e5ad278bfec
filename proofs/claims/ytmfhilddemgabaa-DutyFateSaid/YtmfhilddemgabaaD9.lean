/- The duty law's package: turn. Conditions: the slice reads as a list. -/
import Derived.Test.YtmfhilddemgabaaProg
import Derived.Test.YtmfhilddemgabaaD8
import Derived.Tactics
import Derived.Tactics2
import Derived.WalkKit
import Derived.WalkSpells
import Derived.WalkLawsBesides
import Derived.StillTactics
import Derived.StillTailTactics
import Derived.OwnWalk
import Derived.Laws.Pointers
import Derived.Laws.ResultCell
import Derived.Deep.RegionHeld3
import Derived.Deep.RegionWith
import Derived.Deep.RegionLaw
import Derived.Deep.AppendLies
import Derived.Deep.QuietTactic
import Derived.BigQuiet
import Derived.LoopTactic
import Derived.Deep.LoopGhost
import Derived.Deep.DeepCutAuto
import Derived.Deep.DeepFit
import Derived.Maps.AppendAt
import Derived.Below
import Derived.Lib.Hide
import Derived.Handy
import Derived.KernelRfl
namespace Go.Proofs.Ytmfhilddemgabaa
set_option linter.unusedVariables false
set_option linter.unusedSimpArgs false
open Go.RowKit

/-- Two rows lie apart. -/
def Apart (v u : Value) : Prop := v.ownBlock = none ∨ v.ownBlock ≠ u.ownBlock
theorem Apart.symm {v u : Value} (h : Apart v u) : Apart u v := by
  unfold Apart at *
  rcases h with h | h
  · by_cases hu : u.ownBlock = none
    · exact .inl hu
    · exact .inr (by rw [h]; exact hu)
  · exact .inr (Ne.symm h)
theorem two_right {X w3 : World} {B n k a c size : Nat} {e : TypeId} {v6 v7 : Value} {L6 : List Value} (h6 : X.ownsRow B e size v6 n L6) (hap : Apart v6 v7) (hg : X.grownBy w3 v7.ownBlock) (hat : v7.ownBlock = some a ∨ a = X.heap.size) :
    w3.ownsRow B e size v6 n L6 ∧ Apart v6 (.slice (some ⟨a, 0, none⟩) k c) := by
  refine ⟨h6.kept hg hap, ?_⟩
  rcases hat with h | h
  · unfold Apart at hap ⊢
    rw [h] at hap
    exact hap
  · right
    intro e
    have := own_lt h6 a e
    omega

/-- A new block and what is appended out of it. -/
theorem news6 (W : World) (x : Ins) : ∀ j u, (icells x)[j]? = some u → (W.alloc (.cells (icells x).toArray 23)).cell? ((⟨W.heap.size, 0, none⟩ : Addr).add j) = some u :=
  World.news_of_block (cs := (icells x).toArray) (t := 23) (fr := (0, 0)) (Blk.new W 23 _)

def TRel (w : World) (l : List Ins) (o : Opp) (v6 v7 iv : Value) (wr : World) : Prop :=
  ∃ i : Nat, i ≤ l.length ∧ iv = .int .i64 i ∧ wr.ownsRow w.heap.size 23 6 v6 i (rows (turnL o.kind (pK o) (l.take i))) ∧ wr.ownsRow w.heap.size 23 6 v7 (hitsL o.kind (pK o) (l.take i)).length (rows (hitsL o.kind (pK o) (l.take i))) ∧ Apart v6 v7 ∧ Tch No w wr

/-- Two new lists. -/
def TwoP (l h : List Ins) (w : World) (e : Ending) (w' : World) : Prop :=
  ∃ A c B d, e = .returned (.tuple #[.slice A l.length c, .slice B h.length d]) ∧ w'.ownsRow w.heap.size 23 6 (.slice A l.length c) l.length (rows l) ∧ w'.ownsRow w.heap.size 23 6 (.slice B h.length d) h.length (rows h) ∧ Tch No w w'

theorem turnL_succ (st : Int) (p : Ins → Bool) (l : List Ins) (i : Nat) (x : Ins) (h : l[i]? = some x) : turnL st p (l.take (i + 1)) = turnL st p (l.take i) ++ [turned st p x] := by
  obtain ⟨hi, hx⟩ := List.getElem?_eq_some_iff.1 h
  rw [List.take_succ_eq_append_getElem hi, hx]
  simp [turnL]

theorem trel_no {w wr w2 w3 : World} {l : List Ins} {o : Opp} {i a c : Nat} {v6 v7 : Value} {x : Ins} {ob : Obj} (hi : i < l.length) (hx : l[i]? = some x) (hc : ¬ (x.state = 1 ∧ pK o x = true)) (t : Tch No w wr) (t2 : Tch No wr w2)
    (h7 : w2.ownsRow w.heap.size 23 6 v7 (hitsL o.kind (pK o) (l.take i)).length (rows (hitsL o.kind (pK o) (l.take i)))) (hap : Apart v6 v7) (hb6 : ∀ k, v6.ownBlock = some k → w.heap.size ≤ k)
    (h8 : w3.ownsRow w.heap.size 23 6 (.slice (some ⟨a, 0, none⟩) (i + 1) c) (i + 1) (rows (turnL o.kind (pK o) (l.take i)) ++ icells x)) (hg : (w2.alloc ob).grownBy w3 v6.ownBlock) (hat : v6.ownBlock = some a ∨ a = w2.heap.size + 1) :
    TRel w l o (.slice (some ⟨a, 0, none⟩) (i + 1) c) v7 (.int .i64 (↑i + 1)) w3 := by
  have two := two_right (k := i + 1) (c := c) (h7.alloc ob) hap.symm hg (hat.imp id (fun h => by rw [h]; simp))
  refine ⟨i + 1, by omega, by simp, ?_, ?_, two.2.symm, ?_⟩
  · rw [turnL_succ _ _ l i x hx, show turned o.kind (pK o) x = x by unfold turned; rw [if_neg hc], ← rows_snoc]
    exact h8
  · rw [hits_succ _ _ l i x hx, if_neg hc, List.append_nil]
    exact two.1
  · exact ((t.and t2).alloc ob).trans (Tch.of_grown (S := fun k => v6.ownBlock = some k) hg fun k hk => .inl hk) (fun k hk => .inr (hb6 k hk))

theorem trel_yes {w w2 w4 : World} {l : List Ins} {o : Opp} {i a c : Nat} {v6 v8 : Value} {x : Ins} (hi : i < l.length) (hx : l[i]? = some x) (hc : x.state = 1 ∧ pK o x = true) (t : Tch No w w2)
    (h8 : w2.ownsRow w.heap.size 23 6 v8 ((hitsL o.kind (pK o) (l.take i)).length + 1) (rows (hitsL o.kind (pK o) (l.take i)) ++ icells { x with state := o.kind })) (hap : Apart v6 v8) (hb6 : ∀ k, v6.ownBlock = some k → w.heap.size ≤ k) {ob : Obj}
    (h9 : w4.ownsRow w.heap.size 23 6 (.slice (some ⟨a, 0, none⟩) (i + 1) c) (i + 1) (rows (turnL o.kind (pK o) (l.take i)) ++ icells { x with state := o.kind })) (hg : (w2.alloc ob).grownBy w4 v6.ownBlock) (hat : v6.ownBlock = some a ∨ a = w2.heap.size + 1) :
    TRel w l o (.slice (some ⟨a, 0, none⟩) (i + 1) c) v8 (.int .i64 (↑i + 1)) w4 := by
  have two := two_right (k := i + 1) (c := c) (h8.alloc ob) hap.symm hg (hat.imp id (fun h => by rw [h]; simp))
  have e0 : turned o.kind (pK o) x = { x with state := o.kind } := by unfold turned; rw [if_pos hc]
  refine ⟨i + 1, by omega, by simp, ?_, ?_, two.2.symm, ?_⟩
  · rw [turnL_succ _ _ l i x hx, e0, ← rows_snoc]
    exact h9
  · rw [hits_succ _ _ l i x hx, if_pos hc, ← rows_snoc, List.length_append]
    exact two.1
  · exact (t.alloc ob).trans (Tch.of_grown (S := fun k => v6.ownBlock = some k) hg fun k hk => .inl hk) (fun k hk => .inr (hb6 k hk))

theorem box_lt {w w' : World} {g : Nat} {t : TypeId} {cs : Array Value} (h : Blk w g t cs) (k : Tch No w w') : Blk w' g t cs := k.blk h (fun h => h)

theorem blk_grown {w w' : World} {v : Value} {g : Nat} {t : TypeId} {cs : Array Value} (h : Blk w g t cs) (hg : w.grownBy w' v.ownBlock) (hn : v.ownBlock ≠ some g) : Blk w' g t cs :=
  (Tch.of_grown (S := fun k => v.ownBlock = some k) hg fun k hk => .inl hk).blk h hn

/-- What stands behind an appending to v7: the block q of the round's own, and v6. -/
theorem after7 {X w3 : World} {B n k a c : Nat} {v6 v7 : Value} {L6 : List Value} {q : Nat} {cs : Array Value} (hq : Blk X q 23 cs) (hq7 : v7.ownBlock ≠ some q) (h6 : X.ownsRow B 23 6 v6 n L6) (hap : Apart v6 v7) (hg : X.grownBy w3 v7.ownBlock) (hat : v7.ownBlock = some a ∨ a = X.heap.size) :
    Blk w3 q 23 cs ∧ w3.ownsRow B 23 6 v6 n L6 ∧ Apart v6 (.slice (some ⟨a, 0, none⟩) k c) := ⟨blk_grown hq hg hq7, two_right h6 hap hg hat⟩

set_option maxHeartbeats 1600000 in
theorem turn48_c (S : Nat → Prop) (A : Option Addr) (c : Nat) (l : List Ins) (o : Opp) (w : World) (hr : Rd w S 6 A l.length (rows l)) (hl : l.length ≤ 1000000) :
    Calls Try.prog 48 #[.slice A l.length c, .agg #[.int .i64 o.kind, .int .i64 o.x.id, .int .i64 o.x.place, .string o.x.act, .int .i64 o.x.due, .bool o.x.keep, .int .i64 o.x.state, .int .i64 o.at_]] w (TwoP (turnL o.kind (pK o) l) (hitsL o.kind (pK o) l) w) := by
  obtain ⟨i0, hi0, hz0, hz1, hz2⟩ := info_parts Try.info23
  have HR := Lib.hid hr
  clear hr
  go_enter Try.func48, Try.ntmps48
  go_wp2_with fail
  have hbx : Blk (w.alloc (.cells (ocells o).toArray 33)) w.heap.size 33 (ocells o).toArray := Blk.new w 33 _
  have hbl := hbx.lt
  go_loopw [6, 7, 8] (fun v6 v7 iv wr => TRel w l o v6 v7 iv wr ∧ Blk wr w.heap.size 33 (ocells o).toArray) (fun _ _ iv _ => l.length - (intOf iv).toNat)
  case atStart => exact ⟨⟨0, by omega, rfl, World.ownsRow_nil .., World.ownsRow_nil .., .inl rfl, (Tch.refl _ _).alloc _⟩, hbx⟩
  case round =>
    obtain ⟨⟨i, hil, rfl, h6, h7, hap, htc⟩, hox⟩ := hrel
    clear hbx hbl
    by_cases hlt : i < l.length
    · obtain ⟨g, off, x, hA, _, _, hx, a0, a1, a2, a3, a4, a5⟩ := rd_ins (HR.out.tch htc.no) i hlt
      subst hA
      have ox := cells8 hox
      obtain ⟨x0, x1, x2, x3, x4, x5, x6, x7⟩ := ox
      obtain ⟨A6, c6, rfl⟩ := own_slice h6
      obtain ⟨A7, c7, rfl⟩ := own_slice h7
      have hxl := hox.lt
      have h6b := own_base h6
      have h6l := own_lt h6
      have H6 := Lib.hid h6b
      have H6L := Lib.hid h6l
      have G := Lib.hid (And.intro h6 (And.intro h7 (And.intro hap (And.intro htc (And.intro hx hox)))))
      have hws := htc.size
      have hle := hits_le o.kind (pK o) l i
      clear h6 h7 hap htc hx hox h6b h6l
      go_wp2_with fail
      refine (hit_c x o _).mono ?_
      rintro e w2 ⟨rfl, ht2⟩
      have hb2 := box_lt (Blk.new wr 23 (icells x).toArray) ht2
      have ht3 : Tch No wr w2 := ((Tch.refl No wr).alloc _).and ht2
      obtain ⟨e0, e1, e2, e3, e4, e5⟩ := cells6 hb2
      have fr := hb2.frozen
      have hs2 := ht3.size
      have hs3 := ht2.size
      have HT := Lib.hid ht3
      have HB := Lib.hid hb2
      clear ht2 ht3 hb2 a0 a1 a2 a3 a4 a5 x0 x1 x2 x3 x4 x5 x6 x7
      by_cases hc : x.state = 1 ∧ pK o x = true
      · have hv : hitV x o = o.kind := by unfold hitV; rw [if_pos hc]
        have hk0 : (o.kind != 0) = true := by
          have := pK_kind hc.2
          simp; omega
        rw [hv]
        have HC := Lib.hid hc
        clear hc hv
        have t5 : Tch No wr (w2.setCell ⟨wr.heap.size, 5, none⟩ (.int .i64 o.kind)) := HT.out.set_ (.inr (Nat.le_refl _)) _
        have h6w := t5.own G.out.1 (fun k _ h => h)
        have h7w := t5.own G.out.2.1 (fun k _ h => h)
        have hb5 := HB.out.set_ 5 (.int .i64 o.kind)
        have h7l := own_lt G.out.2.1
        have H7L := Lib.hid h7l
        have h7b := own_base G.out.2.1
        have H7B := Lib.hid h7b
        have hk1 : i + 1 ≤ maxLen := by unfold maxLen; omega
        have hk2 : (i + 1) * 56 ≤ 140737488355328 := by omega
        have hk3 : (hitsL o.kind (pK o) (l.take i)).length + 1 ≤ maxLen := by unfold maxLen; omega
        have hk4 : ((hitsL o.kind (pK o) (l.take i)).length + 1) * 56 ≤ 140737488355328 := by omega
        have hb1 : w.heap.size ≤ ((w2.setCell ⟨wr.heap.size, 5, none⟩ (.int .i64 o.kind)).alloc (.cells (icells { x with state := o.kind }).toArray 23)).heap.size := by simp; omega
        have hH : ((w2.setCell ⟨wr.heap.size, 5, none⟩ (.int .i64 o.kind)).alloc (.cells (icells { x with state := o.kind }).toArray 23)).heap.size = w2.heap.size + 1 := by simp
        have HH := Lib.hid hH
        have hN := news6 (w2.setCell ⟨wr.heap.size, 5, none⟩ (.int .i64 o.kind)) { x with state := o.kind }
        rw [show (w2.setCell ⟨wr.heap.size, 5, none⟩ (.int .i64 o.kind)).heap.size = w2.heap.size by simp] at hN
        have HN := Lib.hid hN
        have G5 := Lib.hid hb5
        have G6 := Lib.hid h6w
        have G7 := Lib.hid h7w
        have T5 := Lib.hid t5
        clear h6w h7w hH hN hb5 t5 h7l h7b
        have hq7 : (Value.slice A7 (hitsL o.kind (pK o) (l.take i)).length c7).ownBlock ≠ some wr.heap.size := fun e => absurd (H7L.out _ e) (Nat.lt_irrefl _)
        have Hq7 := Lib.hid hq7
        clear hq7
        have hgs : ∀ {w3 : World} {r : Option Nat}, ((w2.setCell ⟨wr.heap.size, 5, none⟩ (.int .i64 o.kind)).alloc (.cells (icells { x with state := o.kind }).toArray 23)).grownBy w3 r → w2.heap.size ≤ w3.heap.size := fun h => Nat.le_trans (by simp) (Tch.of_grown (S := fun k => _ = some k) h fun k hk => .inl hk).size
        go_wp2_with (first | (at_builtin; (refine wpList_append_lies _ rfl (.tmp 28) (.tmp 30) _ rfl w.heap.size 23 i0 _ 6 56 Try.underlying28 hi0 hz0 hz1 hz2 rfl (by decide) (.slice A7 (hitsL o.kind (pK o) (l.take i)).length c7) _ (rows (hitsL o.kind (pK o) (l.take i))) rfl (G7.out.alloc _) ⟨w2.heap.size, 0, none⟩ 1 1 (icells { x with state := o.kind }) rfl rfl HN.out (icells_one1 _) (by omega) hk3 hk4 hb1 (w2.heap.size + 1) HH.out ?_); intro a8 c8 w3 h8 hg8 hat8 hlt8; go_must (have af := after7 (k := (hitsL o.kind (pK o) (l.take i)).length + 1) (c := c8) (G5.out.alloc _) Hq7.out (G6.out.alloc _) G.out.2.2.1 hg8 (hat8.imp id (fun h => h.trans HH.out.symm))); obtain ⟨f0, f1, f2, f3, f4, f5⟩ := cells6 af.1; have AF := Lib.hid af; clear af; have hw3 : w2.heap.size ≤ w3.heap.size := hgs hg8; have hb3 : w.heap.size ≤ (w3.alloc (.cells (icells { x with state := o.kind }).toArray 23)).heap.size := le_alloc (by omega) _; have hh3 : (w3.alloc (.cells (icells { x with state := o.kind }).toArray 23)).heap.size = w3.heap.size + 1 := World.size_alloc ..; have HH3 := Lib.hid hh3; clear hh3) | (at_builtin; go_must (refine wpList_append_lies _ rfl (.tmp 32) (.tmp 34) _ rfl w.heap.size 23 i0 _ 6 56 Try.underlying28 hi0 hz0 hz1 hz2 rfl (by decide) (.slice A6 i c6) _ (rows (turnL o.kind (pK o) (l.take i))) rfl (AF.out.2.1.alloc _) ⟨w3.heap.size, 0, none⟩ 1 1 (icells { x with state := o.kind }) rfl rfl (news6 w3 { x with state := o.kind }) (icells_one1 _) (by omega) hk1 hk2 hb3 (w3.heap.size + 1) HH3.out ?_); intro a9 c9 w4 h9 hg9 hat9 hlt9))
        have t3 : Tch No w w3 := ((G.out.2.2.2.1.and T5.out).alloc _).trans (Tch.of_grown (S := fun k => (Value.slice A7 (hitsL o.kind (pK o) (l.take i)).length c7).ownBlock = some k) hg8 fun k hk => .inl hk) (fun k hk => .inr (H7B.out k hk))
        have b3 : Blk w3 w.heap.size 33 (ocells o).toArray := blk_grown (((box_lt G.out.2.2.2.2.2 HT.out).far (p := ⟨wr.heap.size, 5, none⟩) (Nat.ne_of_lt hxl) _).alloc _) hg8 (own_blk_ne G.out.2.1 G.out.2.2.2.2.2 (by decide))
        exact ⟨⟨trel_yes hlt G.out.2.2.2.2.1 HC.out t3 h8 AF.out.2.2 H6.out h9 hg9 hat9, blk_grown (b3.alloc _) hg9 (own_blk_ne G.out.1 G.out.2.2.2.2.2 (by decide))⟩, by simp [intOf]; omega⟩
      · have hv : hitV x o = 0 := by unfold hitV; rw [if_neg hc]
        rw [hv]
        have HC := Lib.hid hc
        clear hc hv
        have h6w := HT.out.own G.out.1 (fun k _ h => h)
        have h7w := HT.out.own G.out.2.1 (fun k _ h => h)
        have hk1 : i + 1 ≤ maxLen := by unfold maxLen; omega
        have hk2 : (i + 1) * 56 ≤ 140737488355328 := by omega
        have hb1 : w.heap.size ≤ (w2.alloc (.cells (icells x).toArray 23)).heap.size := by simp; omega
        have hH : (w2.alloc (.cells (icells x).toArray 23)).heap.size = w2.heap.size + 1 := by simp
        have HH := Lib.hid hH
        clear hH
        have G6 := Lib.hid h6w
        have G7 := Lib.hid h7w
        clear h6w h7w
        go_wp2_with (at_builtin; go_must (refine wpList_append_lies _ rfl (.tmp 32) (.tmp 34) _ rfl w.heap.size 23 i0 _ 6 56 Try.underlying28 hi0 hz0 hz1 hz2 rfl (by decide) (.slice A6 i c6) _ (rows (turnL o.kind (pK o) (l.take i))) rfl (G6.out.alloc _) ⟨w2.heap.size, 0, none⟩ 1 1 (icells x) rfl rfl (news6 w2 x) (icells_one1 _) (by omega) hk1 hk2 hb1 (w2.heap.size + 1) HH.out ?_); intro a8 c8 w3 h8 hg8 hat8 hlt8)
        exact ⟨⟨trel_no hlt G.out.2.2.2.2.1 HC.out G.out.2.2.2.1 HT.out G7.out G.out.2.2.1 H6.out h8 hg8 hat8, blk_grown ((box_lt G.out.2.2.2.2.2 HT.out).alloc _) hg8 (own_blk_ne G.out.1 G.out.2.2.2.2.2 (by decide))⟩, by simp [intOf]; omega⟩
    · have hin : i = l.length := by omega
      subst hin
      rw [List.take_length] at h6 h7
      obtain ⟨A6, c6, rfl⟩ := own_slice h6
      obtain ⟨A7, c7, rfl⟩ := own_slice h7
      have G := Lib.hid (And.intro h6 (And.intro h7 (And.intro hap (And.intro htc hox))))
      clear h6 h7 hap htc hox
      go_wp2
      go_returns
      exact ⟨A6, c6, A7, c7, by rw [turnL_length]; rfl, by rw [turnL_length]; exact G.out.1, G.out.2.1, G.out.2.2.2.1⟩
end Go.Proofs.Ytmfhilddemgabaa
