/- The duty layer: the contract of (*duty.Table).turn at the second function literal. Conditions: the table's slice is a row of its own. -/
import Derived.Test.YtmfhilddemgabaaProg
import Derived.Test.YtmfhilddemgabaaD4
import Derived.Tactics
import Derived.Tactics2
import Derived.WalkKit
import Derived.WalkSpells
import Derived.WalkLawsBesides
import Derived.StillTactics
import Derived.StillTailTactics
import Derived.OwnWalk
import Derived.Laws.Pointers
import Derived.Laws.ResultCell
import Derived.Deep.RegionHeld3
import Derived.Deep.RegionWith
import Derived.Deep.RegionLaw
import Derived.Deep.AppendLies
import Derived.Deep.QuietTactic
import Derived.BigQuiet
import Derived.LoopTactic
import Derived.Deep.LoopGhost
import Derived.Deep.DeepCutAuto
import Derived.Deep.DeepFit
import Derived.Maps.AppendAt
import Derived.Below
import Derived.Lib.Hide
import Derived.Handy
import Derived.KernelRfl
namespace Go.Proofs.Ytmfhilddemgabaa
set_option linter.unusedVariables false
set_option linter.unusedSimpArgs false
open Go.RowKit

set_option maxHeartbeats 1600000 in
theorem turn_ful (g b : Nat) (v : Value) (l : List Ins) (q1 q2 q3 : Nat) (id : Int) (act : ByteArray) (t : Int) (w : World) (ht : Tab w g b v l) (hl : l.length ≤ 1000000) (hq1 : Blk w q1 3 #[.int .i64 id]) (hq2 : Blk w q2 9 #[.string act]) (hq3 : Blk w q3 2 #[.int .i64 t]) :
    Calls Try.prog 35 #[.pointer (some ⟨g, 0, none⟩), .int .i64 2, .func (.func 37) #[] #[.pointer (some ⟨q1, 0, none⟩), .pointer (some ⟨q2, 0, none⟩), .pointer (some ⟨q3, 0, none⟩)]] w (TurnP g b v l 2 (pF id act t) w) := by
  obtain ⟨i0, hi0, hz0, hz1, hz2⟩ := info_parts Try.info23
  have c0 := cell1 ht.1
  have H := Lib.hid ht
  have hq1g : q1 ≠ g := hq1.ne_ ht.1 (by decide)
  have hq2g : q2 ≠ g := hq2.ne_ ht.1 (by decide)
  have hq3g : q3 ≠ g := hq3.ne_ ht.1 (by decide)
  have hq1o := own_blk_ne ht.2 hq1 (by decide)
  have hq2o := own_blk_ne ht.2 hq2 (by decide)
  have hq3o := own_blk_ne ht.2 hq3 (by decide)
  have Qq1 := Lib.hid hq1
  have Qq2 := Lib.hid hq2
  have Qq3 := Lib.hid hq3
  have hgo := own_blk_ne ht.2 ht.1 (by decide)
  have HGO := Lib.hid hgo
  have HOq1 := Lib.hid hq1o
  have HOq2 := Lib.hid hq2o
  have HOq3 := Lib.hid hq3o
  have hq1l := hq1.lt
  have hq2l := hq2.lt
  have hq3l := hq3.lt
  have hglt := ht.1.lt
  have hvl := own_lt ht.2
  have HVL := Lib.hid hvl
  obtain ⟨A, c, rfl⟩ := own_slice ht.2
  clear ht hq1 hq1o hq2 hq2o hq3 hq3o hgo hvl
  go_enter Try.func35, Try.ntmps35
  go_wp2_with fail
  go_loopw [7, 17] (fun v7 iv wr => TurnRel w g b (.slice A l.length c) l 2 (pF id act t) v7 iv wr) (fun _ iv _ => l.length - (intOf iv).toNat)
  case atStart => exact ⟨0, by omega, rfl, World.ownsRow_nil .., H.out.1, by rw [midL_zero]; exact H.out.2, Tch.refl _ _⟩
  case round =>
    obtain ⟨i, hil, rfl, h7, hg, ho, htc⟩ := hrel
    by_cases hlt : i < l.length
    · obtain ⟨x, hx⟩ : ∃ x, l[i]? = some x := ⟨l[i], List.getElem?_eq_getElem hlt⟩
      have hmx : (midL 2 (pF id act t) l i)[i]? = some x := by rw [midL_get _ _ _ _ hlt]; exact hx
      obtain ⟨a, c', hA, _, halt⟩ := ho.form (by omega)
      injection hA with hA _ hc'
      subst hA hc'
      have fl := fun j hj => flat_get icells_length (midL 2 (pF id act t) l i) i j hj x hmx
      have d0 := own_cell ho (i * 6 + 0) _ (fl 0 (by omega))
      have d1 := own_cell ho (i * 6 + 1) _ (fl 1 (by omega))
      have d2 := own_cell ho (i * 6 + 2) _ (fl 2 (by omega))
      have d3 := own_cell ho (i * 6 + 3) _ (fl 3 (by omega))
      have d4 := own_cell ho (i * 6 + 4) _ (fl 4 (by omega))
      have d5 := own_cell ho (i * 6 + 5) _ (fl 5 (by omega))
      rw [Nat.add_zero] at d0
      have g0 := cell1 hg
      obtain ⟨A7, c7, rfl⟩ := own_slice h7
      have G := Lib.hid (And.intro h7 (And.intro hg (And.intro ho (And.intro htc (And.intro hx hmx)))))
      clear h7 hg ho htc hx hmx fl
      by_cases hs : x.state = 1
      · have rq1 : Blk (wr.alloc (.cells #[.int .i64 x.id, .int .i64 x.place, .string x.act, .int .i64 x.due, .bool x.keep, .int .i64 x.state] 23)) q1 3 #[.int .i64 id] := (G.out.2.2.2.1.blk Qq1.out (fun h => h.elim hq1g HOq1.out)).alloc _
        have rq2 : Blk (wr.alloc (.cells #[.int .i64 x.id, .int .i64 x.place, .string x.act, .int .i64 x.due, .bool x.keep, .int .i64 x.state] 23)) q2 9 #[.string act] := (G.out.2.2.2.1.blk Qq2.out (fun h => h.elim hq2g HOq2.out)).alloc _
        have rq3 : Blk (wr.alloc (.cells #[.int .i64 x.id, .int .i64 x.place, .string x.act, .int .i64 x.due, .bool x.keep, .int .i64 x.state] 23)) q3 2 #[.int .i64 t] := (G.out.2.2.2.1.blk Qq3.out (fun h => h.elim hq3g HOq3.out)).alloc _
        have hs2 : (x.state == 1) = true := by simpa using hs
        have HS := Lib.hid hs
        have QRq1 := Lib.hid rq1
        have QRq2 := Lib.hid rq2
        have QRq3 := Lib.hid rq3
        clear hs rq1 rq2 rq3
        go_wp2_with fail
        refine (ful_cl x q1 q2 q3 id act t _ QRq1.out QRq2.out QRq3.out).mono ?_
        rintro e w2 ⟨rfl, ht2⟩
        have ht3 : Tch No wr w2 := ((Tch.refl No wr).alloc _).and ht2
        clear ht2
        cases hp : pF id act t x
        · have HP := Lib.hid hp
          clear hp
          go_wp2
          exact ⟨turn_skip hlt G.out.2.2.2.2.1 (fun h => by rw [HP.out] at h; cases h.2) G.out.1 G.out.2.1 G.out.2.2.1 G.out.2.2.2.1 ht3, by simp [intOf]; omega⟩
        · have HP := Lib.hid hp
          clear hp
          have e0 := ht3.cell (fun h => h) d0
          have e1 := ht3.cell (fun h => h) d1
          have e2 := ht3.cell (fun h => h) d2
          have e3 := ht3.cell (fun h => h) d3
          have e4 := ht3.cell (fun h => h) d4
          have e5 := ht3.cell (fun h => h) d5
          have e6 := ht3.cell (fun h => h) g0
          have ho2 := ht3.own G.out.2.2.1 (fun k _ h => h)
          have h72 := ht3.own G.out.1 (fun k _ h => h)
          have hg2 := ht3.blk G.out.2.1 (fun h => h)
          have fr := own_frozen ho2
          have hag : ¬ a = g := fun e => HGO.out (by subst e; rfl)
          have hga : ¬ g = a := fun e => hag e.symm
          have G2 := Lib.hid (And.intro ho2 (And.intro h72 hg2))
          clear d0 d1 d2 d3 d4 d5 g0 ho2 h72 hg2
          have t1 : Tch (fun k => k = a) w2 (w2.setCell ⟨a, i * 6 + 5, none⟩ (.int .i64 2)) := (Tch.refl (fun k => k = a) w2).set_ (.inl rfl) _
          have hal : a < w.heap.size := HVL.out a rfl
          have h7w := t1.own G2.out.2.1 (fun k hk e => by have := own_base G2.out.2.1 k hk; omega)
          have hle := hits_le 2 (pF id act t) l i
          have hk1 : (hitsL 2 (pF id act t) (l.take i)).length + 1 ≤ maxLen := by unfold maxLen; omega
          have hk2 : ((hitsL 2 (pF id act t) (l.take i)).length + 1) * 56 ≤ 140737488355328 := by omega
          have hb1 : w.heap.size ≤ ((w2.setCell ⟨a, i * 6 + 5, none⟩ (.int .i64 2)).alloc (.cells (icells { x with state := 2 }).toArray 23)).heap.size := by
            have z1 := G.out.2.2.2.1.size
            have z2 := ht3.size
            simp; omega
          have hH : ((w2.setCell ⟨a, i * 6 + 5, none⟩ (.int .i64 2)).alloc (.cells (icells { x with state := 2 }).toArray 23)).heap.size = w2.heap.size + 1 := by simp
          have hnw : ((w2.setCell ⟨a, i * 6 + 5, none⟩ (.int .i64 2)).alloc (.cells (icells { x with state := 2 }).toArray 23)).heap[w2.heap.size]? = some (.cells (icells { x with state := 2 }).toArray 23 (0, 0)) := by
            have := Blk.new (w2.setCell ⟨a, i * 6 + 5, none⟩ (.int .i64 2)) 23 (icells { x with state := 2 }).toArray
            rw [show (w2.setCell ⟨a, i * 6 + 5, none⟩ (.int .i64 2)).heap.size = w2.heap.size by simp] at this
            exact this
          have HN := Lib.hid (World.news_of_block hnw)
          have HH := Lib.hid hH
          clear hnw hH
          go_wp2_with (at_builtin; go_must (refine wpList_append_lies _ rfl (.tmp 38) (.tmp 46) _ rfl w.heap.size 23 i0 _ 6 56 Try.underlying28 hi0 hz0 hz1 hz2 rfl (by decide) (.slice A7 (hitsL 2 (pF id act t) (l.take i)).length c7) _ (rows (hitsL 2 (pF id act t) (l.take i))) rfl (h7w.alloc _) ⟨w2.heap.size, 0, none⟩ 1 1 (icells { x with state := 2 }) rfl rfl HN.out (icells_one1 _) (by omega) hk1 hk2 hb1 (w2.heap.size + 1) HH.out ?_); intro a8 c8 w3 h8 hg8 hat8 hlt8)
          exact ⟨turn_take hlt G.out.2.2.2.2.1 HS.out HP.out G2.out.1 G2.out.2.1 G2.out.2.2 G.out.2.2.2.1 ht3 hal hag h8 hg8, by simp [intOf]; omega⟩
      · have hs2 : (x.state == 1) = false := by simpa using hs
        have HS := Lib.hid hs
        clear hs
        go_wp2
        exact ⟨turn_skip hlt G.out.2.2.2.2.1 (fun h => HS.out h.1) G.out.1 G.out.2.1 G.out.2.2.1 G.out.2.2.2.1 ((Tch.refl No wr).alloc _), by simp [intOf]; omega⟩
    · have hin : i = l.length := by omega
      subst hin
      rw [List.take_length] at h7
      rw [midL_all] at ho
      obtain ⟨A7, c7, rfl⟩ := own_slice h7
      clear c0
      have G := Lib.hid (And.intro h7 (And.intro hg (And.intro ho htc)))
      clear h7 hg ho htc
      go_wp2
      go_returns
      exact ⟨A7, c7, rfl, G.out.1, ⟨G.out.2.1, by rw [turnL_length]; exact G.out.2.2.1⟩, G.out.2.2.2⟩
end Go.Proofs.Ytmfhilddemgabaa
