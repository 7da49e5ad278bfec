/- The duty law's package: the walk of DutyStays. Conditions: the slices read as lists of calls. -/
import Derived.Test.YtmfhilddemgabaaProg
import Derived.Test.YtmfhilddemgabaaE15
import Derived.Tactics
import Derived.Tactics2
import Derived.WalkKit
import Derived.WalkSpells
import Derived.WalkLawsBesides
import Derived.StillTactics
import Derived.StillTailTactics
import Derived.OwnWalk
import Derived.Laws.Pointers
import Derived.Laws.ResultCell
import Derived.Deep.RegionHeld3
import Derived.Deep.RegionWith
import Derived.Deep.RegionLaw
import Derived.Deep.AppendLies
import Derived.Deep.QuietTactic
import Derived.BigQuiet
import Derived.LoopTactic
import Derived.Deep.LoopGhost
import Derived.Deep.DeepCutAuto
import Derived.Deep.DeepFit
import Derived.Maps.AppendAt
import Derived.Below
import Derived.Lib.Hide
import Derived.Handy
import Derived.KernelRfl
namespace Go.Proofs.Ytmfhilddemgabaa
set_option linter.unusedVariables false
set_option linter.unusedSimpArgs false
open Go.RowKit

/-- y is what x has become: where x is not pending any more, x itself; its place's words are x's. -/
def Kept (x y : Ins) : Prop := (x.state ≠ 1 → y = x) ∧ { y with state := x.state } = x
theorem Kept.refl (x : Ins) : Kept x x := ⟨fun _ => rfl, rfl⟩
theorem Kept.trans {x y z : Ins} (h : Kept x y) (k : Kept y z) : Kept x z := by
  obtain ⟨a1, a2, a3, a4, a5, a6⟩ := x
  obtain ⟨b1, b2, b3, b4, b5, b6⟩ := y
  obtain ⟨c1, c2, c3, c4, c5, c6⟩ := z
  unfold Kept at *
  simp only [Ins.mk.injEq] at *
  refine ⟨fun hs => ?_, ?_⟩
  · have h1 := h.1 hs
    have h2 := k.1 (by rw [h1.2.2.2.2.2]; exact hs)
    simp_all
  · simp_all
theorem kept_turned (st : Int) (p : Ins → Bool) (x : Ins) : Kept x (turned st p x) := by
  unfold turned
  split
  · rename_i h
    exact ⟨fun hs => absurd h.1 hs, rfl⟩
  · exact Kept.refl x
/-- A list that has gone on. -/
def KeptL (l l' : List Ins) : Prop := l.length ≤ l'.length ∧ ∀ (i : Nat) (x : Ins), l[i]? = some x → ∃ y : Ins, l'[i]? = some y ∧ Kept x y
theorem KeptL.refl (l : List Ins) : KeptL l l := ⟨Nat.le_refl _, fun i x h => ⟨x, h, Kept.refl x⟩⟩
theorem KeptL.trans {a b c : List Ins} (h : KeptL a b) (k : KeptL b c) : KeptL a c :=
  ⟨Nat.le_trans h.1 k.1, fun i x hx => by
    obtain ⟨y, hy, h1⟩ := h.2 i x hx
    obtain ⟨z, hz, h2⟩ := k.2 i y hy
    exact ⟨z, hz, h1.trans h2⟩⟩
theorem kept_step (l : List Ins) (o : Opp) : KeptL l (stepL l o) := by
  unfold stepL
  split
  · refine ⟨by simp, fun i x hx => ⟨x, ?_, Kept.refl x⟩⟩
    have h1 := (List.getElem?_eq_some_iff.1 hx).1
    rw [List.getElem?_append_left h1]
    exact hx
  · exact ⟨by rw [turnL_length]; exact Nat.le_refl _, fun i x hx => ⟨turned o.kind (pK o) x, by unfold turnL; rw [List.getElem?_map, hx]; rfl, kept_turned _ _ x⟩⟩
theorem kept_run (l : List Ins) (ops : List Opp) : KeptL l (runL l ops) := by
  induction ops generalizing l with
  | nil => exact KeptL.refl l
  | cons o ops ih => exact (kept_step l o).trans (ih (stepL l o))

theorem stay_mid {w w2 w3 w4 : World} {g c1 d2 : Nat} {l1 : List Ins} {A1 B2 : Option Addr} {v1 : Value} (h : Ran w g l1 A1 c1 v1 w2) (t3 : Tch No w2 w3) (t4 : Tch No w3 w4) (o2 : w4.ownsRow w3.heap.size 23 6 (.slice B2 l1.length d2) l1.length (rows l1)) :
    Alike No g g v1 l1 w4 B2 d2 v1 w4 ∧ Tch No w w4 := by
  have hlt := tab_lt (tab_tch h.tab t3)
  refine ⟨⟨own_snil o2, tab_tch h.tab (t3.and t4), ?_, Tch.refl _ _, fun k hk => .inl hk⟩, h.tch.and (t3.and t4)⟩
  obtain ⟨A, c, e, hr⟩ := Rd.of_own (S := FF g v1 No) o2 (fun k hk f => by
    have h1 := own_base o2 k hk
    rcases f with f | f
    · have := hlt k f; omega
    · exact f)
  injection e with e _ _
  subst e
  exact hr
theorem stay_of {w w2 w3 w4 w5 w6 : World} {g c1 d1 d6 : Nat} {l1 l2 : List Ins} {A1 B1 B6 : Option Addr} {v1 : Value} (h : Ran w g l1 A1 c1 v1 w2) (o1 : w3.ownsRow w2.heap.size 23 6 (.slice B1 l1.length d1) l1.length (rows l1)) (t3 : Tch No w2 w3) (t4 : Tch No w3 w4)
    (t5 : Tch (Foot g v1) w4 w5) (o6 : w6.ownsRow w5.heap.size 23 6 (.slice B6 l2.length d6) l2.length (rows l2)) (t6 : Tch No w5 w6) : Rd w6 No 6 B1 l1.length (rows l1) ∧ Rd w6 No 6 B6 l2.length (rows l2) ∧ Tch No w w6 := by
  have hlt := tab_lt h.tab
  have o4 := t4.own o1 (fun _ _ f => f)
  have o5 := t5.own o4 (fun k hk f => by have := own_base o1 k hk; have := hlt k f; omega)
  have o1' := t6.own o5 (fun _ _ f => f)
  obtain ⟨A, c, e, hr⟩ := Rd.of_own (S := No) o1' (fun _ _ f => f)
  injection e with e _ _
  subst e
  obtain ⟨A', c', e', hr'⟩ := Rd.of_own (S := No) o6 (fun _ _ f => f)
  injection e' with e' _ _
  subst e'
  exact ⟨hr, hr', (tch_up (h.tch.and (t3.and t4)) t5 (tab_ge h.tab h.ge h.ge)).and t6⟩

theorem two_new (w : World) (o : Obj) (cs : Array Value) : Blk ((w.alloc o).alloc (.cells cs 23)) (w.heap.size + 1) 23 cs := by
  have := Blk.new (w.alloc o) 23 cs
  rw [World.size_alloc] at this
  exact this

set_option maxHeartbeats 3200000 in
set_option maxRecDepth 100000 in
theorem stays_walk (A : Option Addr) (n c : Nat) (A' : Option Addr) (n' c' : Nat) (w : World) (h : n ≤ c) (hm : c ≤ 9223372036854775807) (xs : List Opp) (hr : Rd w No 8 A n (orows xs))
    (h' : n' ≤ c') (hm' : c' ≤ 9223372036854775807) (xs' : List Opp) (hr' : Rd w No 8 A' n' (orows xs')) :
    Calls Try.prog 9 #[.slice A n c, .slice A' n' c'] w fun e w' => e = .returned (.bool true) ∧ Below w.heap.size w w' := by
  have HR := Lib.hid hr
  have HR' := Lib.hid hr'
  have hf := (few60_le n).1
  have hf' := (few60_le n').1
  have hlx : ∀ (n : Nat) (xs : List Opp), (xs.take (few60 n)).length ≤ 60 := fun n xs => by have := (few60_le n).1; simp; omega
  have HLX := Lib.hid hlx
  clear hr hr' hlx
  go_enter Try.func9, Try.ntmps9
  go_wp2_with (go_at_call 12; refine (alive_c w).mono ?_; rintro e w1 ⟨rfl, t1⟩; have T1 := Lib.hid t1; clear t1)
  refine (few_c No A n c xs _ h hm (HR.out.tch T1.out)).mono ?_
  rintro e w2 ⟨rfl, rfl⟩
  go_wp2_with fail
  refine (few_c No A' n' c' xs' _ h' hm' (HR'.out.tch T1.out)).mono ?_
  rintro e w2 ⟨rfl, rfl⟩
  have ho := ops_new (few_rd HR.out) T1.out
  have HO := Lib.hid ho
  have AL := Lib.hid (alike_new w1)
  clear ho
  go_wp2_with (go_at_call 29; go_must (refine (run_c No w1.heap.size w1.heap.size (.slice none 0 0) [] none 0 A (few60 n) c _ _ AL.out (fun _ f => f.elim) (by simp) HO.out (by simp; omega)).mono ?_); rintro e w2 ⟨A1, c1, v1, rfl, s1, s2, s3, s4, s5⟩; have RN := Lib.hid (ran_of T1.out s1 s2 s3 s4); clear s1 s2 s3 s4 s5; have k1 := runL_len [] (xs.take (few60 n)); have k2 := HLX.out n xs; simp only [List.length_nil] at k1)
  refine (all_c _ _ _ _ _ RN.out.tab (by omega)).mono ?_
  rintro e w3 ⟨B1, d1, rfl, o1, t3⟩
  have O1 := Lib.hid o1
  have T3 := Lib.hid t3
  clear o1 t3
  go_wp2_with fail
  refine (all_c _ _ _ _ _ (tab_tch RN.out.tab T3.out) (by omega)).mono ?_
  rintro e w4 ⟨B2, d2, rfl, o2, t4⟩
  have sm := stay_mid RN.out T3.out t4 o2
  have T4 := Lib.hid t4
  have SM := Lib.hid sm
  have ho2 := ops_at (few_rd HR'.out) sm.2 (tab_ge RN.out.tab RN.out.ge RN.out.ge)
  have HO2 := Lib.hid ho2
  have hg4 : w1.heap.size ≤ w4.heap.size := Nat.le_of_lt (tab_lt sm.1.2.1 _ (.inl rfl))
  clear sm t4 o2 ho2
  go_wp2_with fail
  refine (run_c No w1.heap.size w1.heap.size v1 _ B2 d2 A' (few60 n') c' _ _ SM.out.1 (fun _ f => f.elim) hg4 HO2.out (by omega)).mono ?_
  rintro e w5 ⟨A5, c5, v5, rfl, s1, s2, s3, s4, s5⟩
  have k3 := runL_len (runL [] (xs.take (few60 n))) (xs'.take (few60 n'))
  have k4 := HLX.out n' xs'
  have TB5 := Lib.hid s2
  have T5 := Lib.hid s4
  clear s1 s2 s3 s4 s5
  go_wp2_with fail
  refine (all_c _ _ _ _ _ TB5.out (by omega)).mono ?_
  rintro e w6 ⟨B6, d6, rfl, o6, t6⟩
  have ST := Lib.hid (stay_of RN.out O1.out T3.out T4.out T5.out o6 t6)
  have kl := kept_run (runL [] (xs.take (few60 n))) (xs'.take (few60 n'))
  have kl1 := kl.1
  have KL := Lib.hid kl
  clear o6 t6 kl
  generalize runL [] (xs.take (few60 n)) = l1 at *
  generalize runL l1 (xs'.take (few60 n')) = l2 at *
  have hnl : ¬ ((l2.length : Int) < (l1.length : Int)) := by omega
  have hnl2 : ¬ l2.length < l1.length := by omega
  go_wp2_with fail
  go_slots
  go_loopw [12] (fun iv wr => ∃ i : Nat, i ≤ l1.length ∧ iv = .int .i64 i ∧ Tch No w6 wr) (fun iv _ => l1.length - (intOf iv).toNat)
  case atStart => exact ⟨0, by omega, rfl, Tch.refl _ _⟩
  case round =>
    obtain ⟨i, hil, rfl, htc⟩ := hrel
    by_cases hlt : i < l1.length
    · obtain ⟨g, off, x, hA, _, _, hx, a0, a1, a2, a3, a4, a5⟩ := rd_ins (ST.out.1.tch htc) i hlt
      obtain ⟨g', off', y, hB, _, _, hy, b0, b1, b2, b3, b4, b5⟩ := rd_ins (ST.out.2.1.tch htc) i (by omega)
      subst hA hB
      obtain ⟨y', hy', hk⟩ := KL.out.2 i x hx
      have hyy : y = y' := by rw [hy] at hy'; injection hy'
      subst hyy
      have HK := Lib.hid hk
      have HT := Lib.hid htc
      clear hx hy hy' hk htc
      have hi0 : (0 : Int) ≤ (i : Int) := Int.natCast_nonneg _
      have hi1 : (i : Int) < (l1.length : Int) := by omega
      have hi2 : (i : Int) < (l2.length : Int) := by omega
      go_upto_region 14 with fail
      go_cut [13, 14] from 54 to 81 (fun p q wx => ∃ a b, p = .pointer (some ⟨a, 0, none⟩) ∧ q = .pointer (some ⟨b, 0, none⟩) ∧ a ≠ b ∧ w6.heap.size ≤ b ∧ Blk wx a 23 (icells x).toArray ∧ Blk wx b 23 (icells y).toArray ∧ Tch No w6 wx)
      case first =>
        have t2 : Tch No w6 ((wr.alloc (.cells (icells x).toArray 23)).alloc (.cells (icells y).toArray 23)) := (HT.out.alloc _).alloc _
        have t3 : Tch No w6 ((wr.alloc (.cells (icells y).toArray 23)).alloc (.cells (icells x).toArray 23)) := (HT.out.alloc _).alloc _
        have z6 := HT.out.size
        have T2 := Lib.hid t2
        have T3' := Lib.hid t3
        clear t2 t3
        go_region_law (fail)
        all_goals
          go_wp2_with fail
          go_meet
          first
            | exact ⟨_, _, rfl, rfl, by omega, by omega, (Blk.new wr 23 (icells x).toArray).alloc _, two_new wr _ _, T2.out.drewN 1⟩
            | exact ⟨_, _, rfl, rfl, by omega, by omega, two_new wr _ _, (Blk.new wr 23 (icells y).toArray).alloc _, T3'.out.drewN 1⟩
      case rest =>
        obtain ⟨a, b, rfl, rfl, hab, hb6, ba, bb, htx⟩ := hcut
        have hk := HK.out
        clear a0 a1 a2 a3 a4 a5 b0 b1 b2 b3 b4 b5 HK
        have HT2 := Lib.hid htx
        have BA := Lib.hid ba
        have BB := Lib.hid bb
        have hba : ¬ b = a := fun e => hab e.symm
        obtain ⟨f0, f1, f2, f3, f4, f5⟩ := cells6 ba
        obtain ⟨g0, g1, g2, g3, g4, g5⟩ := cells6 bb
        have fb := bb.frozen
        clear ba bb htx
        by_cases hs : x.state = 1
        · have hy := hk.2
          have hs2 : (x.state != 1) = false := by simpa using hs
          obtain ⟨y1, y2, y3, y4, y5, y6⟩ := y
          obtain ⟨x1, x2, x3, x4, x5, x6⟩ := x
          simp only [Ins.mk.injEq] at hy
          obtain ⟨rfl, rfl, rfl, rfl, rfl, _⟩ := hy
          dsimp only at hs2 f0 f1 f2 f3 f4 f5 g0 g1 g2 g3 g4 g5 ⊢
          clear hk hs
          go_wp2
          exact ⟨⟨i + 1, by omega, by simp, HT2.out.set_ (p := ⟨b, 5, none⟩) (.inr hb6) _⟩, by simp [intOf]; omega⟩
        · have hy := hk.1 hs
          have hs2 : (x.state != 1) = true := by simpa using hs
          subst hy
          clear hk hs
          go_wp2
          exact ⟨⟨i + 1, by omega, by simp, HT2.out.set_ (p := ⟨b, 5, none⟩) (.inr hb6) _⟩, by simp [intOf]; omega⟩
    · have : i = l1.length := by omega
      subst this
      go_wp2
      go_returns
      exact ⟨rfl, (ST.out.2.2.and htc).noBelow⟩
end Go.Proofs.Ytmfhilddemgabaa
