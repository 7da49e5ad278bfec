/- The tally law's package: few, told, alive. Conditions: the slice reads as a list of moments. -/
import Derived.Test.YtppbgkadpomblaaProg
import Derived.Test.YtppbgkadpomblaaB2
import Derived.Tactics
import Derived.Tactics2
import Derived.WalkKit
import Derived.WalkSpells
import Derived.WalkLawsBesides
import Derived.StillTactics
import Derived.StillTailTactics
import Derived.OwnWalk
import Derived.Laws.Pointers
import Derived.Laws.ResultCell
import Derived.Deep.RegionHeld3
import Derived.Deep.RegionWith
import Derived.Deep.RegionLaw
import Derived.Deep.AppendLies
import Derived.Deep.QuietTactic
import Derived.BigQuiet
import Derived.LoopTactic
import Derived.Deep.LoopGhost
import Derived.Deep.DeepCutAuto
import Derived.Deep.DeepFit
import Derived.Maps.AppendAt
import Derived.Below
import Derived.Lib.Hide
import Derived.Handy
import Derived.KernelRfl
import Derived.IntWalk
import Derived.Laws.AppendOwnNone
import Derived.Laws.IdiomStrings
namespace Go.Proofs.Ytppbgkadpomblaa
set_option linter.unusedVariables false
set_option linter.unusedSimpArgs false
open Go.RowKit

def few60 (n : Nat) : Nat := if 60 < n then 60 else n
theorem few60_le (n : Nat) : few60 n ≤ 60 ∧ few60 n ≤ n := by unfold few60; split <;> omega
theorem few17_c (S : Nat → Prop) (A : Option Addr) (n c : Nat) (l : List TSt) (w : World) (h : n ≤ c) (hm : c ≤ 9223372036854775807) (hr : Rd w S 2 A n (l.flatMap tcells)) :
    Calls Try.prog 24 #[.slice A n c] w fun e w' => e = .returned (.slice A (few60 n) c) ∧ w = w' := by
  by_cases h5 : 60 < n
  · obtain ⟨g, off, hA, _⟩ := hr.2 (by omega)
    subst hA
    clear hr
    go_enter Try.func24, Try.ntmps24
    go_wp2
    go_returns
    rw [show few60 n = 60 from if_pos h5]
    exact ⟨rfl, rfl⟩
  · clear hr
    go_enter Try.func24, Try.ntmps24
    go_wp2
    go_returns
    rw [show few60 n = n from if_neg h5]
    exact ⟨rfl, rfl⟩
theorem few17_rd {S : Nat → Prop} {A : Option Addr} {n : Nat} {l : List TSt} {w : World} (hr : Rd w S 2 A n (l.flatMap tcells)) : Rd w S 2 A (few60 n) ((l.take (few60 n)).flatMap tcells) := by
  have hl : l.length = n := by have := hr.1; rw [flat_length tcells_length] at this; omega
  have := hr.take (few60_le n).2
  rw [flat_take tcells_length l _ (by rw [hl]; exact (few60_le n).2)] at this
  exact this
theorem rd_ts {w : World} {S : Nat → Prop} {A : Option Addr} {n : Nat} {l : List TSt} (hr : Rd w S 2 A n (l.flatMap tcells)) (i : Nat) (hi : i < n) :
    ∃ g off x, A = some ⟨g, off, none⟩ ∧ l[i]? = some x ∧ w.cell? ⟨g, off + i * 2, none⟩ = some (.int .i64 x.at_) ∧ w.cell? ⟨g, off + i * 2 + 1, none⟩ = some (.bool x.is_) := by
  have hn : l.length = n := by have := hr.1; rw [flat_length tcells_length] at this; omega
  obtain ⟨g, off, x, hA, hS, hg, hx, hc⟩ := rd_at tcells_length hr i hi hn
  refine ⟨g, off, x, hA, hx, hc 0 (by omega) _ rfl, ?_⟩
  rw [Nat.add_assoc]; exact hc 1 (by omega) _ rfl
theorem ts_len {w : World} {S : Nat → Prop} {A : Option Addr} {n : Nat} {l : List TSt} (hr : Rd w S 2 A n (l.flatMap tcells)) : l.length = n := by have := hr.1; rw [flat_length tcells_length] at this; omega

theorem Try.info2 : (Try.prog.info? 2).map (fun i => (i.zero, i.size, i.bytes)) = some (some (.int .i64 0), 1, 8) := by kernel_rfl
/-- The times so far. -/
def atsV (xs : List TSt) (j : Nat) : List Value := (List.range j).map (fun k => Value.int .i64 (mkT (xs.take (k + 1))).1)
theorem atsV_succ (xs : List TSt) (j : Nat) : atsV xs (j + 1) = atsV xs j ++ [.int .i64 (mkT (xs.take (j + 1))).1] := by unfold atsV; rw [List.range_succ, List.map_append]; rfl
theorem atsV_get (xs : List TSt) (j k : Nat) (h : k < j) : (atsV xs j)[k]? = some (.int .i64 (mkT (xs.take (k + 1))).1) := by unfold atsV; rw [List.getElem?_map, List.getElem?_range h]; rfl
theorem mk_fit {l : List TSt} (hx : ∀ x ∈ l, Fit x.at_) : 0 ≤ (mkT l).1 ∧ (mkT l).1 ≤ 9223372036854775807 := by
  refine ⟨(minfo l).la, ?_⟩
  revert hx
  refine snoc_ind (P := fun l => (∀ x ∈ l, Fit x.at_) → (mkT l).1 ≤ 9223372036854775807) (fun _ => by simp [mkT]) ?_ l
  intro l x ih hx
  rw [mkT_snoc]
  have a1 := ih (fun y hy => hx y (by simp [hy]))
  have a2 := (hx x (by simp)).2
  simp only
  omega
theorem mk_mono (l : List TSt) (k : Nat) : (mkT (l.take k)).1 ≤ (mkT l).1 := by
  refine snoc_ind (P := fun l => (mkT (l.take k)).1 ≤ (mkT l).1) (by simp) ?_ l
  intro l x ih
  rcases Nat.lt_or_ge l.length k with h | h
  · rw [List.take_of_length_le (by simp; omega)]
    exact Int.le_refl _
  · rw [List.take_append_of_le_length h, mkT_snoc]
    simp only
    omega
theorem news1 (W : World) (u : Value) : ∀ j v, [u][j]? = some v → (W.alloc (.cells #[u] 2)).cell? ((⟨W.heap.size, 0, none⟩ : Addr).add j) = some v := by
  intro j v hv
  rw [addr_add]
  have := (Blk.new W 2 #[u]).cell j
  rw [this]
  simpa using hv
def PairN (a b : Int) (w : World) (e : Ending) (w' : World) : Prop := e = .returned (.tuple #[.int .i64 a, .int .i64 b]) ∧ Tch No w w'
theorem tell_bd (hi last : Int) (l : List TSt) : 0 ≤ (tellL hi last l).n ∧ (tellL hi last l).n ≤ l.length ∧ 0 ≤ (tellL hi last l).c ∧ (tellL hi last l).c ≤ l.length := by
  obtain ⟨_, h2, h3, _⟩ := tellL_is hi last l
  have I := minfo l
  have J := (ginfo _ (I.nd.filter (fun t => decide (last - hi ≤ t)))).len
  have K := List.length_filter_le (fun t => decide (last - hi ≤ t)) (mkT l).2
  have := I.len
  rw [h2, h3]
  omega

set_option maxHeartbeats 3200000 in
set_option maxRecDepth 100000 in
theorem told_c (A : Option Addr) (n c : Nat) (xs : List TSt) (i : Nat) (hi : Int) (w : World) (hr : Rd w No 2 A n (xs.flatMap tcells)) (hin : i < n) (hn : n ≤ 1000) (hx : ∀ x ∈ xs, Fit x.at_) (h0 : 0 ≤ hi) (h1 : hi ≤ 9223372036854775807) :
    Calls Try.prog 26 #[.slice A n c, .int .i64 i, .int .i64 hi] w (PairN (tellL hi (mkT (xs.take (i + 1))).1 (xs.take (i + 1))).n (tellL hi (mkT (xs.take (i + 1))).1 (xs.take (i + 1))).c w) := by
  obtain ⟨i0, hi0, hz0, hz1, hz2⟩ := info_parts Try.info2
  have hlen := ts_len hr
  have HR := Lib.hid hr
  have HX := Lib.hid hx
  have HL := Lib.hid hlen
  clear hr hx hlen
  go_enter Try.func26, Try.ntmps26
  go_wp2_with fail
  go_loopw [8, 9, 10] (fun av lv jv wr => ∃ j : Nat, j ≤ i + 1 ∧ jv = .int .i64 j ∧ lv = .int .i64 (mkT (xs.take j)).1 ∧ wr.ownsRow w.heap.size 2 1 av j (atsV xs j) ∧ Tch No w wr) (fun _ _ jv _ => i + 1 - (intOf jv).toNat)
  case atStart => exact ⟨0, by omega, rfl, rfl, World.ownsRow_nil .., Tch.refl _ _⟩
  case round =>
    obtain ⟨j, hj, rfl, rfl, ho, ht⟩ := hrel
    by_cases hlt : j < i + 1
    · obtain ⟨q, off, x, hA, hxj, d0, d1⟩ := rd_ts (HR.out.tch ht) j (by omega)
      subst hA
      have hmk : (mkT (xs.take (j + 1))).1 = max (mkT (xs.take j)).1 x.at_ := by rw [take_succ_of hxj, mkT_snoc]
      have hav := atsV_succ xs j
      rw [hmk] at hav
      have HMK := Lib.hid (And.intro hmk hav)
      have HO := Lib.hid ho
      have HT := Lib.hid ht
      have hsz := ht.size
      clear hmk hav ho ht hxj
      generalize (mkT (xs.take j)).1 = la at *
      have hk1 : j + 1 ≤ maxLen := by unfold maxLen; omega
      have hk2 : (j + 1) * 8 ≤ 140737488355328 := by omega
      rcases (by omega : (la < x.at_ ∧ max la x.at_ = x.at_) ∨ (x.at_ ≤ la ∧ max la x.at_ = la)) with ⟨hm, hmm⟩ | ⟨hm, hmm⟩
      all_goals
        have HMM := Lib.hid hmm
        clear hmm
        go_wp2_with (at_builtin; go_must (refine wpList_append_lies _ rfl (.tmp 27) (.tmp 29) _ rfl w.heap.size 2 i0 _ 1 8 Try.underlying58 hi0 hz0 hz1 hz2 rfl (by decide) _ j (atsV xs j) rfl (HO.out.alloc _) ⟨wr.heap.size, 0, none⟩ 1 1 [_] rfl rfl (news1 wr _) (by simp [Value.oneCell']) (by omega) hk1 hk2 (le_alloc hsz _) (wr.heap.size + 1) (by simp) ?_); intro a2 c2 w2 hown2 hg2 hat2 hlt2)
        refine ⟨⟨j + 1, by omega, by simp, by rw [HMK.out.1, HMM.out], ?_, ?_⟩, by simp [intOf]; omega⟩
        · rw [HMK.out.2, HMM.out]; exact hown2
        · exact (HT.out.alloc _).trans (Tch.of_grown (S := fun k => w.heap.size ≤ k) hg2 (fun k hk => .inl (own_base HO.out k hk))) (fun k hk => .inr hk)
    · have hji : j = i + 1 := by omega
      subst hji
      obtain ⟨a, ca, hA, _, _⟩ := ho.form (by omega)
      subst hA
      have hfl := mk_fit (l := xs.take (i + 1)) (fun x hx => HX.out x (List.mem_of_mem_take hx))
      obtain ⟨hl0, hl1⟩ := hfl
      have HMO : Hid (∀ k, k ≤ i + 1 → (mkT (xs.take k)).1 ≤ (mkT (xs.take (i + 1))).1) := fun k hk => by
        have := mk_mono (xs.take (i + 1)) k
        rw [List.take_take, Nat.min_eq_left hk] at this
        exact this
      have HO := Lib.hid ho
      have HT := Lib.hid ht
      clear ho ht
      generalize hlast : (mkT (xs.take (i + 1))).1 = last at *
      have HLA := Lib.hid hlast
      clear hlast
      go_wp2_with fail
      go_loop [11, 12, 13, 14] (fun nv cv mv jv => ∃ j : Nat, j ≤ i + 1 ∧ jv = .int .i64 j ∧ nv = .int .i64 (tellL hi last (xs.take j)).n ∧ cv = .int .i64 (tellL hi last (xs.take j)).c ∧ mv = .int .i64 (tellL hi last (xs.take j)).met) (fun _ _ _ jv => i + 1 - (intOf jv).toNat)
      case atStart => exact ⟨0, by omega, rfl, rfl, rfl, rfl⟩
      case round =>
        obtain ⟨j, hj, rfl, rfl, rfl, rfl⟩ := hrel
        obtain ⟨b1, b2, b3, b4⟩ := tell_bd hi last (xs.take j)
        have hjl : (xs.take j).length = j := by rw [List.length_take, HL.out]; omega
        rw [hjl] at b2 b4
        clear hjl
        by_cases hlt2 : j < i + 1
        · obtain ⟨q, off, x, hA, hxj, d0, d1⟩ := rd_ts (HR.out.tch HT.out) j (by omega)
          subst hA
          have hcur := (tellL_is hi last (xs.take j)).1
          have hmk : (mkT (xs.take (j + 1))).1 = max (mkT (xs.take j)).1 x.at_ := by rw [take_succ_of hxj, mkT_snoc]
          have hts : tellL hi last (xs.take (j + 1)) = tellF hi last (tellL hi last (xs.take j)) x := by rw [take_succ_of hxj, tellL_snoc]
          have hcell := own_cell HO.out j _ (atsV_get xs (i + 1) j hlt2)
          have hq1 := HMO.out (j + 1) (by omega)
          have hq0 := (mk_fit (l := xs.take (j + 1)) (fun x hx => HX.out x (List.mem_of_mem_take hx))).1
          generalize hq : (mkT (xs.take (j + 1))).1 = qq at *
          rw [← hcur] at hmk
          unfold tellF at hts
          rw [← hmk] at hts
          generalize tellL hi last (xs.take j) = p at *
          have HTS := Lib.hid hts
          clear hcur hmk hts hq hxj
          have hi1 : (j : Int) ≤ (i : Int) := by omega
          have hi2 : (j : Int) < (n : Int) := by omega
          have hi3 : (j : Int) < (i : Int) + 1 := by omega
          cases hxi : x.is_
          · rw [hxi] at d1
            go_wp2_with fail
            have hfin : tellL hi last (xs.take (j + 1)) = ⟨qq, p.n, p.c, p.met⟩ := by rw [HTS.out, if_neg (by rintro ⟨h, _⟩; rw [hxi] at h; cases h)]
            exact ⟨⟨j + 1, by omega, by simp, by rw [hfin], by rw [hfin], by rw [hfin]⟩, by simp [intOf]; omega⟩
          · rw [hxi] at d1
            by_cases hd : hi < last - qq
            · go_wp2_with fail
              have hfin : tellL hi last (xs.take (j + 1)) = ⟨qq, p.n, p.c, p.met⟩ := by rw [HTS.out, if_neg (by rintro ⟨_, h⟩; exact h hd)]
              exact ⟨⟨j + 1, by omega, by simp, by rw [hfin], by rw [hfin], by rw [hfin]⟩, by simp [intOf]; omega⟩
            · have HD := Lib.hid hd
              by_cases hm : qq = p.met
              · have hmb : (qq != p.met) = false := by simpa using hm
                have HM := Lib.hid hm
                clear hm
                go_wp2_with fail
                have hfin : tellL hi last (xs.take (j + 1)) = ⟨qq, p.n + 1, p.c, qq⟩ := by rw [HTS.out, if_pos ⟨hxi, HD.out⟩, if_pos HM.out]
                exact ⟨⟨j + 1, by omega, by simp, by rw [hfin], by rw [hfin], by rw [hfin, HM.out]⟩, by simp [intOf]; omega⟩
              · have hmb : (qq != p.met) = true := by simpa using hm
                have HM := Lib.hid hm
                clear hm
                go_wp2_with fail
                have hfin : tellL hi last (xs.take (j + 1)) = ⟨qq, p.n + 1, p.c + 1, qq⟩ := by rw [HTS.out, if_pos ⟨hxi, HD.out⟩, if_neg HM.out]
                exact ⟨⟨j + 1, by omega, by simp, by rw [hfin], by rw [hfin], by rw [hfin]⟩, by simp [intOf]; omega⟩
        · have hji : j = i + 1 := by omega
          subst hji
          go_wp2_with fail
          go_returns
          exact ⟨rfl, HT.out⟩

/-- It says yes, and touches nothing that was there. -/
structure AfterT (w0 : World) (g : Nat) (s : Ty) (v : Value) (w : World) : Prop where
  tl : Tl w g w0.heap.size v s
  tch : Tch No w0 w
  ge : w0.heap.size ≤ g
theorem aftert_no {w0 w w' : World} {g : Nat} {s : Ty} {v : Value} (h : AfterT w0 g s v w) (k : Tch No w w') : AfterT w0 g s v w' := ⟨h.tl.tch k, h.tch.and k, h.ge⟩
theorem tstep_n {w0 w : World} {g : Nat} {s : Ty} {v : Value} (h : AfterT w0 g s v w) (t : Int) (is : Bool) (hs : s.Ok) (ht : t ≤ 9223372036854775807) (hn : s.l.length ≤ 700000) :
    Calls Try.prog 27 #[.pointer (some ⟨g, 0, none⟩), .int .i64 t, .bool is] w fun e w' => e = .returned (.int .i64 (sumL (stepT s t is).l)) ∧ ∃ v', AfterT w0 g (stepT s t is) v' w' :=
  (tstep_c g w0.heap.size v s t is w h.tl h.tch.size hs ht hn).mono fun e w' ⟨v', he, h1, h2, _⟩ => ⟨he, v', h1, foot_no h.tch h.tl h.ge (Nat.le_refl _) h2, h.ge⟩
theorem aftert_new (w0 w : World) (s : Ty) (h : Tch No w0 w) (hl : s.l = []) : AfterT w0 w.heap.size s (.slice none 0 0) (w.alloc (.cells (tcs s (.slice none 0 0)) 54)) := ⟨tnew_tl w s _ hl, h.alloc _, h.size⟩

set_option maxHeartbeats 1600000 in
theorem talive_c (w : World) : Calls Try.prog 23 #[] w (YesNo w) := by
  have mk : ∀ (la : Int) (l : List Cl), 0 ≤ la → la ≤ 100 → CellsOk l → l.length ≤ 100 → Ty.Ok ⟨5, la, l⟩ := fun la l h1 h2 h3 h4 => ⟨by simp only; omega, by simp only; omega, h1, by simp only; omega, h3, by simp only; omega⟩
  have MK := Lib.hid mk
  clear mk
  go_enter Try.func23, Try.ntmps23
  go_wp2_with fail
  refine (tnew_c 5 5 _ rfl).mono ?_
  rintro e w1 ⟨rfl, rfl⟩
  have A0 := Lib.hid (aftert_new w w ⟨5, 0, []⟩ (Tch.refl No w) rfl)
  go_wp2_with fail
  refine (tstep_n A0.out 0 true (MK.out 0 [] (by decide) (by decide) (by unfold CellsOk; simp) (by decide)) (by decide) (by decide)).mono ?_
  rintro e w1 ⟨rfl, v1, a1⟩
  have A1 : Hid (AfterT w w.heap.size ⟨5, 0, [⟨0, 1⟩]⟩ v1 w1) := a1
  rw [show sumL (stepT ⟨5, 0, []⟩ 0 true).l = 1 from rfl]
  clear a1 A0
  go_wp2_with fail
  refine (tstep_n A1.out 5 true (MK.out 0 _ (by decide) (by decide) (by unfold CellsOk; simp) (by decide)) (by decide) (by decide)).mono ?_
  rintro e w2 ⟨rfl, v2, a2⟩
  have A2 : Hid (AfterT w w.heap.size ⟨5, 5, [⟨0, 1⟩, ⟨5, 1⟩]⟩ v2 w2) := a2
  rw [show sumL (stepT ⟨5, 0, [⟨0, 1⟩]⟩ 5 true).l = 2 from rfl]
  clear a2 A1
  go_wp2_with fail
  refine (tstep_n A2.out 6 true (MK.out 5 _ (by decide) (by decide) (by unfold CellsOk; simp) (by decide)) (by decide) (by decide)).mono ?_
  rintro e w3 ⟨rfl, v3, a3⟩
  have A3 : Hid (AfterT w w.heap.size ⟨5, 6, [⟨5, 1⟩, ⟨6, 1⟩]⟩ v3 w3) := a3
  rw [show sumL (stepT ⟨5, 5, [⟨0, 1⟩, ⟨5, 1⟩]⟩ 6 true).l = 2 from rfl]
  clear a3 A2
  go_wp2_with fail
  refine (tcells_c _ _ v3 ⟨5, 6, [⟨5, 1⟩, ⟨6, 1⟩]⟩ _ A3.out.tl).mono ?_
  rintro e w4 ⟨rfl, rfl⟩
  go_wp2
  go_returns
  exact ⟨rfl, A3.out.tch⟩
end Go.Proofs.Ytppbgkadpomblaa
