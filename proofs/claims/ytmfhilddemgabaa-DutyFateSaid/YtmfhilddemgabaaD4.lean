/- The duty layer: the contracts of the function literals and of (*duty.Table).turn at the first. Conditions: the table's slice is a row of its own. -/
import Derived.Test.YtmfhilddemgabaaProg
import Derived.Test.YtmfhilddemgabaaD3
import Derived.Tactics
import Derived.Tactics2
import Derived.WalkKit
import Derived.WalkSpells
import Derived.WalkLawsBesides
import Derived.StillTactics
import Derived.StillTailTactics
import Derived.OwnWalk
import Derived.Laws.Pointers
import Derived.Laws.ResultCell
import Derived.Deep.RegionHeld3
import Derived.Deep.RegionWith
import Derived.Deep.RegionLaw
import Derived.Deep.AppendLies
import Derived.Deep.QuietTactic
import Derived.BigQuiet
import Derived.LoopTactic
import Derived.Deep.LoopGhost
import Derived.Deep.DeepCutAuto
import Derived.Deep.DeepFit
import Derived.Maps.AppendAt
import Derived.Below
import Derived.Lib.Hide
import Derived.Handy
import Derived.KernelRfl
namespace Go.Proofs.Ytmfhilddemgabaa
set_option linter.unusedVariables false
set_option linter.unusedSimpArgs false
open Go.RowKit

def pE (t : Int) (x : Ins) : Bool := decide (x.due < t)
def pF (id : Int) (act : ByteArray) (t : Int) (x : Ins) : Bool := (x.id == id) && ((x.act.toList == act.toList) && decide (t ≤ x.due))
def pV (id : Int) (x : Ins) : Bool := x.id == id
set_option maxHeartbeats 400000 in
theorem exp_cl (x : Ins) (q : Nat) (t : Int) (w : World) (hq : Blk w q 2 #[.int .i64 t]) :
    Calls Try.prog 36 #[.agg #[.int .i64 x.id, .int .i64 x.place, .string x.act, .int .i64 x.due, .bool x.keep, .int .i64 x.state], .pointer (some ⟨q, 0, none⟩)] w fun e w' => e = .returned (.bool (pE t x)) ∧ Tch No w w' := by
  have c := cell1 hq
  have hlt := hq.lt
  clear hq
  go_enter Try.func36, Try.ntmps36
  go_wp2
  go_returns
  exact ⟨rfl, (Tch.refl _ _).alloc _⟩
set_option maxHeartbeats 400000 in
theorem void_cl (x : Ins) (q : Nat) (id : Int) (w : World) (hq : Blk w q 3 #[.int .i64 id]) :
    Calls Try.prog 45 #[.agg #[.int .i64 x.id, .int .i64 x.place, .string x.act, .int .i64 x.due, .bool x.keep, .int .i64 x.state], .pointer (some ⟨q, 0, none⟩)] w fun e w' => e = .returned (.bool (pV id x)) ∧ Tch No w w' := by
  have c := cell1 hq
  have hlt := hq.lt
  clear hq
  go_enter Try.func45, Try.ntmps45
  go_wp2
  go_returns
  exact ⟨rfl, (Tch.refl _ _).alloc _⟩
set_option maxHeartbeats 400000 in
theorem ful_cl (x : Ins) (q1 q2 q3 : Nat) (id : Int) (act : ByteArray) (t : Int) (w : World) (h1 : Blk w q1 3 #[.int .i64 id]) (h2 : Blk w q2 9 #[.string act]) (h3 : Blk w q3 2 #[.int .i64 t]) :
    Calls Try.prog 37 #[.agg #[.int .i64 x.id, .int .i64 x.place, .string x.act, .int .i64 x.due, .bool x.keep, .int .i64 x.state], .pointer (some ⟨q1, 0, none⟩), .pointer (some ⟨q2, 0, none⟩), .pointer (some ⟨q3, 0, none⟩)] w fun e w' => e = .returned (.bool (pF id act t x)) ∧ Tch No w w' := by
  have c1 := cell1 h1
  have c2 := cell1 h2
  have c3 := cell1 h3
  have l1 := h1.lt
  have l2 := h2.lt
  have l3 := h3.lt
  clear h1 h2 h3
  go_enter Try.func37, Try.ntmps37
  go_wp2
  all_goals
    go_returns
    exact ⟨ret_bool (by simp [pF, *]), (Tch.refl _ _).alloc _⟩

/-! ## turn -/
def turned (st : Int) (p : Ins → Bool) (x : Ins) : Ins := if x.state = 1 ∧ p x = true then { x with state := st } else x
def turnL (st : Int) (p : Ins → Bool) (l : List Ins) : List Ins := l.map (turned st p)
def hitsL (st : Int) (p : Ins → Bool) (l : List Ins) : List Ins := (l.filter fun x => x.state == 1 && p x).map fun x => { x with state := st }
theorem turnL_length (st : Int) (p : Ins → Bool) (l : List Ins) : (turnL st p l).length = l.length := by simp [turnL]

def midL (st : Int) (p : Ins → Bool) (l : List Ins) (i : Nat) : List Ins := turnL st p (l.take i) ++ l.drop i
theorem midL_length (st : Int) (p : Ins → Bool) (l : List Ins) (i : Nat) (h : i ≤ l.length) : (midL st p l i).length = l.length := by simp [midL, turnL]; omega
theorem midL_get (st : Int) (p : Ins → Bool) (l : List Ins) (i : Nat) (h : i < l.length) : (midL st p l i)[i]? = l[i]? := by
  unfold midL
  rw [List.getElem?_append_right (by simp [turnL]; omega)]
  simp [turnL, Nat.min_eq_left (Nat.le_of_lt h)]
theorem midL_zero (st : Int) (p : Ins → Bool) (l : List Ins) : midL st p l 0 = l := by simp [midL, turnL]
theorem midL_all (st : Int) (p : Ins → Bool) (l : List Ins) : midL st p l l.length = turnL st p l := by simp [midL]
theorem midL_succ (st : Int) (p : Ins → Bool) (l : List Ins) (i : Nat) (x : Ins) (h : l[i]? = some x) : midL st p l (i + 1) = (midL st p l i).set i (turned st p x) := by
  obtain ⟨hi, hx⟩ := List.getElem?_eq_some_iff.1 h
  unfold midL
  have hl : (turnL st p (l.take i)).length = i := by simp [turnL]; omega
  rw [List.set_append_right _ _ (by omega), hl, Nat.sub_self, List.drop_eq_getElem_cons hi, List.set_cons_zero]
  rw [List.take_succ_eq_append_getElem hi, hx]
  simp [turnL]
theorem midL_same (st : Int) (p : Ins → Bool) (l : List Ins) (i : Nat) (x : Ins) (h : l[i]? = some x) (hn : ¬ (x.state = 1 ∧ p x = true)) : midL st p l (i + 1) = midL st p l i := by
  rw [midL_succ st p l i x h]
  have : turned st p x = x := by unfold turned; rw [if_neg hn]
  rw [this]
  obtain ⟨hi, hx⟩ := List.getElem?_eq_some_iff.1 h
  have h2 := midL_get st p l i hi
  rw [h] at h2
  obtain ⟨hi2, hx2⟩ := List.getElem?_eq_some_iff.1 h2
  rw [← hx2]
  exact List.set_getElem_self hi2
theorem hits_succ (st : Int) (p : Ins → Bool) (l : List Ins) (i : Nat) (x : Ins) (h : l[i]? = some x) : hitsL st p (l.take (i + 1)) = hitsL st p (l.take i) ++ (if x.state = 1 ∧ p x = true then [{ x with state := st }] else []) := by
  obtain ⟨hi, hx⟩ := List.getElem?_eq_some_iff.1 h
  rw [List.take_succ_eq_append_getElem hi, hx]
  unfold hitsL
  rw [List.filter_append, List.map_append]
  congr 1
  by_cases hc : x.state = 1 ∧ p x = true
  · rw [if_pos hc]; simp [hc.1, hc.2]
  · rw [if_neg hc]
    have : (x.state == 1 && p x) = false := by
      rw [Bool.eq_false_iff]; intro h; simp at h; exact hc h
    simp [this]
theorem hits_le (st : Int) (p : Ins → Bool) (l : List Ins) (i : Nat) : (hitsL st p (l.take i)).length ≤ i := by
  unfold hitsL
  rw [List.length_map]
  exact Nat.le_trans (List.length_filter_le _ _) (by simp; omega)

/-- What turn leaves: the table's own row alone has turned; what was turned stands in a new row. -/
def TurnP (g b : Nat) (v : Value) (l : List Ins) (st : Int) (p : Ins → Bool) (w : World) (e : Ending) (w' : World) : Prop :=
  ∃ A c, e = .returned (.slice A (hitsL st p l).length c) ∧ w'.ownsRow w.heap.size 23 6 (.slice A (hitsL st p l).length c) (hitsL st p l).length (rows (hitsL st p l)) ∧ Tab w' g b v (turnL st p l) ∧ Tch (Foot g v) w w'

theorem icells_one1 (x : Ins) : ∀ u ∈ icells x, u.oneCell' = true := by
  intro u hu
  unfold icells at hu
  simp at hu
  rcases hu with rfl | rfl | rfl | rfl | rfl | rfl <;> rfl

def TurnRel (w : World) (g b : Nat) (v : Value) (l : List Ins) (st : Int) (p : Ins → Bool) (v7 iv : Value) (wr : World) : Prop :=
  ∃ i : Nat, i ≤ l.length ∧ iv = .int .i64 i ∧ wr.ownsRow w.heap.size 23 6 v7 (hitsL st p (l.take i)).length (rows (hitsL st p (l.take i))) ∧ Blk wr g 30 #[v] ∧
    wr.ownsRow b 23 6 v l.length (rows (midL st p l i)) ∧ Tch (Foot g v) w wr

theorem turn_skip {w wr w1 : World} {g b i : Nat} {v v7 : Value} {l : List Ins} {st : Int} {p : Ins → Bool} {x : Ins} (hi : i < l.length) (hx : l[i]? = some x) (hn : ¬ (x.state = 1 ∧ p x = true))
    (h7 : wr.ownsRow w.heap.size 23 6 v7 (hitsL st p (l.take i)).length (rows (hitsL st p (l.take i)))) (hg : Blk wr g 30 #[v]) (ho : wr.ownsRow b 23 6 v l.length (rows (midL st p l i))) (ht : Tch (Foot g v) w wr) (h1 : Tch No wr w1) :
    TurnRel w g b v l st p v7 (.int .i64 (↑i + 1)) w1 := by
  refine ⟨i + 1, by omega, by simp, ?_, h1.blk hg (fun h => h), ?_, ht.and h1.no⟩
  · rw [hits_succ st p l i x hx, if_neg hn, List.append_nil]
    exact h1.own h7 (fun k _ h => h)
  · rw [midL_same st p l i x hx hn]
    exact h1.own ho (fun k _ h => h)

theorem turn_take {w wr w2 w3 : World} {g b i a a8 c8 : Nat} {c : Nat} {v7 : Value} {l : List Ins} {st : Int} {p : Ins → Bool} {x : Ins} {o : Obj} (hi : i < l.length) (hx : l[i]? = some x) (hs : x.state = 1) (hp : p x = true)
    (ho : w2.ownsRow b 23 6 (.slice (some ⟨a, 0, none⟩) l.length c) l.length (rows (midL st p l i))) (h7 : w2.ownsRow w.heap.size 23 6 v7 (hitsL st p (l.take i)).length (rows (hitsL st p (l.take i)))) (hg : Blk w2 g 30 #[.slice (some ⟨a, 0, none⟩) l.length c])
    (ht : Tch (Foot g (.slice (some ⟨a, 0, none⟩) l.length c)) w wr) (h3 : Tch No wr w2) (ha : a < w.heap.size) (hag : ¬ a = g)
    (h8 : w3.ownsRow w.heap.size 23 6 (.slice (some ⟨a8, 0, none⟩) ((hitsL st p (l.take i)).length + 1) c8) ((hitsL st p (l.take i)).length + 1) (rows (hitsL st p (l.take i)) ++ icells { x with state := st }))
    (hg8 : ((w2.setCell ⟨a, i * 6 + 5, none⟩ (.int .i64 st)).alloc o).grownBy w3 v7.ownBlock) :
    TurnRel w g b (.slice (some ⟨a, 0, none⟩) l.length c) l st p (.slice (some ⟨a8, 0, none⟩) ((hitsL st p (l.take i)).length + 1) c8) (.int .i64 (↑i + 1)) w3 := by
  have hmx : (midL st p l i)[i]? = some x := by rw [midL_get _ _ _ _ hi]; exact hx
  have t1 : Tch (fun k => k = a) w2 ((w2.setCell ⟨a, i * 6 + 5, none⟩ (.int .i64 st)).alloc o) := ((Tch.refl (fun k => k = a) w2).set_ (.inl rfl) _).alloc _
  have b1 : Blk ((w2.setCell ⟨a, i * 6 + 5, none⟩ (.int .i64 st)).alloc o) g 30 #[.slice (some ⟨a, 0, none⟩) l.length c] := t1.blk hg (fun e => hag e.symm)
  have v7b := own_base h7
  have o1 := (own_set ho (i * 6 + 5) (by omega) (.int .i64 st)).alloc o
  have t2 : Tch (fun k => v7.ownBlock = some k) ((w2.setCell ⟨a, i * 6 + 5, none⟩ (.int .i64 st)).alloc o) w3 := Tch.of_grown hg8 fun k hk => .inl hk
  have h71 := t1.own h7 (fun k hk e => by have := v7b k hk; omega)
  have v7g := own_blk_ne h71 b1 (by decide)
  have eset : (rows (midL st p l i)).set (i * 6 + 5) (.int .i64 st) = rows (midL st p l (i + 1)) := by
    rw [midL_succ st p l i x hx]
    exact flat_set icells_length _ i 5 (by omega) x _ _ hmx (by simp [turned, hs, hp, icells])
  refine ⟨i + 1, by omega, by simp, ?_, t2.blk b1 v7g, ?_, ?_⟩
  · rw [hits_succ st p l i x hx, if_pos ⟨hs, hp⟩, ← rows_snoc, List.length_append]
    exact h8
  · rw [← eset]
    exact t2.own o1 (fun k hk h => by simp [Value.ownBlock] at hk; have := v7b k h; omega)
  · refine ((ht.and h3.no).trans t1 (fun k hk => .inl (.inr (by subst hk; rfl)))).trans t2 (fun k hk => .inr (v7b k hk))

set_option maxHeartbeats 1600000 in
theorem turn_exp (g b : Nat) (v : Value) (l : List Ins) (q : Nat) (t : Int) (w : World) (ht : Tab w g b v l) (hl : l.length ≤ 1000000) (hq : Blk w q 2 #[.int .i64 t]) :
    Calls Try.prog 35 #[.pointer (some ⟨g, 0, none⟩), .int .i64 3, .func (.func 36) #[] #[.pointer (some ⟨q, 0, none⟩)]] w (TurnP g b v l 3 (pE t) w) := by
  obtain ⟨i0, hi0, hz0, hz1, hz2⟩ := info_parts Try.info23
  have c0 := cell1 ht.1
  have H := Lib.hid ht
  have hqg : q ≠ g := hq.ne_ ht.1 (by decide)
  have hqo := own_blk_ne ht.2 hq (by decide)
  have Qq := Lib.hid hq
  have hgo := own_blk_ne ht.2 ht.1 (by decide)
  have HGO := Lib.hid hgo
  have HOq := Lib.hid hqo
  have hql := hq.lt
  have hglt := ht.1.lt
  have hvl := own_lt ht.2
  have HVL := Lib.hid hvl
  obtain ⟨A, c, rfl⟩ := own_slice ht.2
  clear ht hq hqo hgo hvl
  go_enter Try.func35, Try.ntmps35
  go_wp2_with fail
  go_loopw [7, 17] (fun v7 iv wr => TurnRel w g b (.slice A l.length c) l 3 (pE t) v7 iv wr) (fun _ iv _ => l.length - (intOf iv).toNat)
  case atStart => exact ⟨0, by omega, rfl, World.ownsRow_nil .., H.out.1, by rw [midL_zero]; exact H.out.2, Tch.refl _ _⟩
  case round =>
    obtain ⟨i, hil, rfl, h7, hg, ho, htc⟩ := hrel
    by_cases hlt : i < l.length
    · obtain ⟨x, hx⟩ : ∃ x, l[i]? = some x := ⟨l[i], List.getElem?_eq_getElem hlt⟩
      have hmx : (midL 3 (pE t) l i)[i]? = some x := by rw [midL_get _ _ _ _ hlt]; exact hx
      obtain ⟨a, c', hA, _, halt⟩ := ho.form (by omega)
      injection hA with hA _ hc'
      subst hA hc'
      have fl := fun j hj => flat_get icells_length (midL 3 (pE t) l i) i j hj x hmx
      have d0 := own_cell ho (i * 6 + 0) _ (fl 0 (by omega))
      have d1 := own_cell ho (i * 6 + 1) _ (fl 1 (by omega))
      have d2 := own_cell ho (i * 6 + 2) _ (fl 2 (by omega))
      have d3 := own_cell ho (i * 6 + 3) _ (fl 3 (by omega))
      have d4 := own_cell ho (i * 6 + 4) _ (fl 4 (by omega))
      have d5 := own_cell ho (i * 6 + 5) _ (fl 5 (by omega))
      rw [Nat.add_zero] at d0
      have g0 := cell1 hg
      obtain ⟨A7, c7, rfl⟩ := own_slice h7
      have G := Lib.hid (And.intro h7 (And.intro hg (And.intro ho (And.intro htc (And.intro hx hmx)))))
      clear h7 hg ho htc hx hmx fl
      by_cases hs : x.state = 1
      · have rq : Blk (wr.alloc (.cells #[.int .i64 x.id, .int .i64 x.place, .string x.act, .int .i64 x.due, .bool x.keep, .int .i64 x.state] 23)) q 2 #[.int .i64 t] := (G.out.2.2.2.1.blk Qq.out (fun h => h.elim hqg HOq.out)).alloc _
        have hs2 : (x.state == 1) = true := by simpa using hs
        have HS := Lib.hid hs
        have QRq := Lib.hid rq
        clear hs rq
        go_wp2_with fail
        refine (exp_cl x q t _ QRq.out).mono ?_
        rintro e w2 ⟨rfl, ht2⟩
        have ht3 : Tch No wr w2 := ((Tch.refl No wr).alloc _).and ht2
        clear ht2
        cases hp : pE t x
        · have HP := Lib.hid hp
          clear hp
          go_wp2
          exact ⟨turn_skip hlt G.out.2.2.2.2.1 (fun h => by rw [HP.out] at h; cases h.2) G.out.1 G.out.2.1 G.out.2.2.1 G.out.2.2.2.1 ht3, by simp [intOf]; omega⟩
        · have HP := Lib.hid hp
          clear hp
          have e0 := ht3.cell (fun h => h) d0
          have e1 := ht3.cell (fun h => h) d1
          have e2 := ht3.cell (fun h => h) d2
          have e3 := ht3.cell (fun h => h) d3
          have e4 := ht3.cell (fun h => h) d4
          have e5 := ht3.cell (fun h => h) d5
          have e6 := ht3.cell (fun h => h) g0
          have ho2 := ht3.own G.out.2.2.1 (fun k _ h => h)
          have h72 := ht3.own G.out.1 (fun k _ h => h)
          have hg2 := ht3.blk G.out.2.1 (fun h => h)
          have fr := own_frozen ho2
          have hag : ¬ a = g := fun e => HGO.out (by subst e; rfl)
          have hga : ¬ g = a := fun e => hag e.symm
          have G2 := Lib.hid (And.intro ho2 (And.intro h72 hg2))
          clear d0 d1 d2 d3 d4 d5 g0 ho2 h72 hg2
          have t1 : Tch (fun k => k = a) w2 (w2.setCell ⟨a, i * 6 + 5, none⟩ (.int .i64 3)) := (Tch.refl (fun k => k = a) w2).set_ (.inl rfl) _
          have hal : a < w.heap.size := HVL.out a rfl
          have h7w := t1.own G2.out.2.1 (fun k hk e => by have := own_base G2.out.2.1 k hk; omega)
          have hle := hits_le 3 (pE t) l i
          have hk1 : (hitsL 3 (pE t) (l.take i)).length + 1 ≤ maxLen := by unfold maxLen; omega
          have hk2 : ((hitsL 3 (pE t) (l.take i)).length + 1) * 56 ≤ 140737488355328 := by omega
          have hb1 : w.heap.size ≤ ((w2.setCell ⟨a, i * 6 + 5, none⟩ (.int .i64 3)).alloc (.cells (icells { x with state := 3 }).toArray 23)).heap.size := by
            have z1 := G.out.2.2.2.1.size
            have z2 := ht3.size
            simp; omega
          have hH : ((w2.setCell ⟨a, i * 6 + 5, none⟩ (.int .i64 3)).alloc (.cells (icells { x with state := 3 }).toArray 23)).heap.size = w2.heap.size + 1 := by simp
          have hnw : ((w2.setCell ⟨a, i * 6 + 5, none⟩ (.int .i64 3)).alloc (.cells (icells { x with state := 3 }).toArray 23)).heap[w2.heap.size]? = some (.cells (icells { x with state := 3 }).toArray 23 (0, 0)) := by
            have := Blk.new (w2.setCell ⟨a, i * 6 + 5, none⟩ (.int .i64 3)) 23 (icells { x with state := 3 }).toArray
            rw [show (w2.setCell ⟨a, i * 6 + 5, none⟩ (.int .i64 3)).heap.size = w2.heap.size by simp] at this
            exact this
          have HN := Lib.hid (World.news_of_block hnw)
          have HH := Lib.hid hH
          clear hnw hH
          go_wp2_with (at_builtin; go_must (refine wpList_append_lies _ rfl (.tmp 38) (.tmp 46) _ rfl w.heap.size 23 i0 _ 6 56 Try.underlying28 hi0 hz0 hz1 hz2 rfl (by decide) (.slice A7 (hitsL 3 (pE t) (l.take i)).length c7) _ (rows (hitsL 3 (pE t) (l.take i))) rfl (h7w.alloc _) ⟨w2.heap.size, 0, none⟩ 1 1 (icells { x with state := 3 }) rfl rfl HN.out (icells_one1 _) (by omega) hk1 hk2 hb1 (w2.heap.size + 1) HH.out ?_); intro a8 c8 w3 h8 hg8 hat8 hlt8)
          exact ⟨turn_take hlt G.out.2.2.2.2.1 HS.out HP.out G2.out.1 G2.out.2.1 G2.out.2.2 G.out.2.2.2.1 ht3 hal hag h8 hg8, by simp [intOf]; omega⟩
      · have hs2 : (x.state == 1) = false := by simpa using hs
        have HS := Lib.hid hs
        clear hs
        go_wp2
        exact ⟨turn_skip hlt G.out.2.2.2.2.1 (fun h => HS.out h.1) G.out.1 G.out.2.1 G.out.2.2.1 G.out.2.2.2.1 ((Tch.refl No wr).alloc _), by simp [intOf]; omega⟩
    · have hin : i = l.length := by omega
      subst hin
      rw [List.take_length] at h7
      rw [midL_all] at ho
      obtain ⟨A7, c7, rfl⟩ := own_slice h7
      clear c0
      have G := Lib.hid (And.intro h7 (And.intro hg (And.intro ho htc)))
      clear h7 hg ho htc
      go_wp2
      go_returns
      exact ⟨A7, c7, rfl, G.out.1, ⟨G.out.2.1, by rw [turnL_length]; exact G.out.2.2.1⟩, G.out.2.2.2⟩
end Go.Proofs.Ytmfhilddemgabaa
