/- The law QuotaClones: its walk. Conditions: the lists read as lists of steps. -/
import Derived.Test.YtmfhilddemgabaaProg
import Derived.Test.YtmfhilddemgabaaR3
import Derived.Tactics
import Derived.Tactics2
import Derived.WalkKit
import Derived.WalkSpells
import Derived.WalkLawsBesides
import Derived.StillTactics
import Derived.StillTailTactics
import Derived.OwnWalk
import Derived.Laws.Pointers
import Derived.Laws.ResultCell
import Derived.Deep.RegionHeld3
import Derived.Deep.RegionWith
import Derived.Deep.RegionLaw
import Derived.Deep.AppendLies
import Derived.Deep.QuietTactic
import Derived.BigQuiet
import Derived.LoopTactic
import Derived.Deep.LoopGhost
import Derived.Deep.DeepCutAuto
import Derived.Deep.DeepFit
import Derived.Maps.AppendAt
import Derived.Below
import Derived.Lib.Hide
import Derived.Handy
import Derived.KernelRfl
namespace Go.Proofs.Ytmfhilddemgabaa
set_option linter.unusedVariables false
set_option linter.unusedSimpArgs false
open Go.RowKit

def Odd (w : World) (g : Nat) : Prop := Blk w g 58 #[.bool false, .int .i64 0, .int .i64 0, .int .i64 0, .int .i64 0]

theorem at_nil (t : Int) (w : World) : Calls Try.prog 28 #[.pointer none, .int .i64 t] w fun e w' => e = .returned (.int .i64 0) ∧ w = w' := by
  go_enter Try.func28, Try.ntmps28
  go_wp2
  go_returns
  exact ⟨rfl, rfl⟩
theorem take_nil (t n : Int) (w : World) : Calls Try.prog 23 #[.pointer none, .int .i64 t, .int .i64 n] w fun e w' => e = .returned (.bool false) ∧ w = w' := by
  go_enter Try.func23, Try.ntmps23
  go_wp2
  go_returns
  exact ⟨rfl, rfl⟩
theorem clone_nil (w : World) : Calls Try.prog 27 #[.pointer none] w fun e w' => e = .returned (.pointer none) ∧ w = w' := by
  go_enter Try.func27, Try.ntmps27
  go_wp2
  go_returns
  exact ⟨rfl, rfl⟩
theorem wait_nil (t n : Int) (w : World) : Calls Try.prog 26 #[.pointer none, .int .i64 t, .int .i64 n] w fun e w' => e = .returned (.tuple #[.int .i64 0, .bool false]) ∧ w = w' := by
  go_enter Try.func26, Try.ntmps26
  go_wp2_with (go_at_call 27; refine (clone_nil _).mono ?_; rintro e w' ⟨rfl, rfl⟩)
  go_returns
  exact ⟨rfl, rfl⟩
theorem at_odd (g : Nat) (t : Int) (w : World) (h : Odd w g) : Calls Try.prog 28 #[.pointer (some ⟨g, 0, none⟩), .int .i64 t] w fun e w' => e = .returned (.int .i64 0) ∧ w = w' := by
  have c0 := Blk.cell h 0
  simp only [List.getElem?_toArray, List.getElem?_cons_zero] at c0
  clear h
  go_enter Try.func28, Try.ntmps28
  go_wp2
  go_returns
  exact ⟨rfl, rfl⟩
theorem take_odd (g : Nat) (t n : Int) (w : World) (h : Odd w g) : Calls Try.prog 23 #[.pointer (some ⟨g, 0, none⟩), .int .i64 t, .int .i64 n] w fun e w' => e = .returned (.bool false) ∧ w = w' := by
  have c0 := Blk.cell h 0
  simp only [List.getElem?_toArray, List.getElem?_cons_zero] at c0
  clear h
  go_enter Try.func23, Try.ntmps23
  go_wp2
  go_returns
  exact ⟨rfl, rfl⟩
theorem clone_odd (g : Nat) (w : World) (h : Odd w g) : Calls Try.prog 27 #[.pointer (some ⟨g, 0, none⟩)] w fun e w' => e = .returned (.pointer none) ∧ w = w' := by
  have c0 := Blk.cell h 0
  simp only [List.getElem?_toArray, List.getElem?_cons_zero] at c0
  clear h
  go_enter Try.func27, Try.ntmps27
  go_wp2
  go_returns
  exact ⟨rfl, rfl⟩
theorem wait_odd (g : Nat) (t n : Int) (w : World) (h : Odd w g) : Calls Try.prog 26 #[.pointer (some ⟨g, 0, none⟩), .int .i64 t, .int .i64 n] w fun e w' => e = .returned (.tuple #[.int .i64 0, .bool false]) ∧ w = w' := by
  go_enter Try.func26, Try.ntmps26
  go_wp2_with (go_at_call 27; refine (clone_odd g _ h).mono ?_; rintro e w' ⟨rfl, rfl⟩)
  go_returns
  exact ⟨rfl, rfl⟩

def TwinRel (W : World) (g1 g2 : Nat) (iv : Value) (m : Nat) (wr : World) : Prop :=
  ∃ k : Nat, k ≤ m ∧ iv = .int .i64 k ∧ ∃ s : Bk, s.Ok ∧ Bkt wr g1 s ∧ Bkt wr g2 s ∧ Below W.heap.size W wr

theorem twin_step {w wr w2 w3 : World} {g1 g2 k m : Nat} {s : Bk} {t n : Int} (hlt : k < m) (hs : s.Ok) (ht : t ≤ 9223372036854775807) (hg1 : w.heap.size ≤ g1) (hg2 : w.heap.size ≤ g2) (hne : ¬ g1 = g2) (hb : Below w.heap.size w wr)
    (h1 : wr.grownBy w2 (some g1)) (b1 : Bkt w2 g1 (takeS s t n)) (h2 : w2.grownBy w3 (some g2)) (b2 : Bkt w3 g2 (takeS s t n)) : TwinRel w g1 g2 (.int .i64 (↑k + 1)) m w3 :=
  ⟨k + 1, by omega, by simp, takeS s t n, take_ok s hs t n ht, blk_far h2 hne b1, b2, (hb.trans (gr_below h1 hb.size hg1)).trans (gr_below h2 (Nat.le_trans hb.size h1.size) hg2)⟩

theorem twin_drewN {w w3 : World} {g1 g2 m : Nat} {iv : Value} (h : TwinRel w g1 g2 iv m w3) (n : Nat) : TwinRel w g1 g2 iv m (w3.drewN n) := by
  obtain ⟨k, hk, hi, s, hs, h1, h2, hb⟩ := h
  exact ⟨k, hk, hi, s, hs, h1.drewN n, h2.drewN n, belowN hb n⟩

set_option maxRecDepth 100000 in
set_option maxHeartbeats 3200000 in
theorem clones_c (size rate : Int) (A : Option Addr) (n c : Nat) (A' : Option Addr) (n' c' : Nat) (w : World) (h : n ≤ c) (hm : c ≤ 9223372036854775807) (xs : List Stp) (hx : Steps3 w A n xs)
    (h' : n' ≤ c') (hm' : c' ≤ 9223372036854775807) (xs' : List Stp) (hx' : Steps3 w A' n' xs') :
    Calls Try.prog 7 #[.int .i64 size, .int .i64 rate, .slice A n c, .slice A' n' c'] w (Out true w) := by
  go_enter Try.func7, Try.ntmps7
  go_wp2_with fail
  refine (alive_c _).mono ?_
  rintro e w1 ⟨rfl, hb1⟩
  go_wp2_with fail
  refine (new_c size rate _).mono ?_
  rintro e w2 ⟨rfl, rfl⟩
  go_wp2_with fail
  refine (new_c size rate _).mono ?_
  rintro e w2 ⟨rfl, rfl⟩
  have hk1 := (Blk.new w1 58 (newCells (newS size rate))).alloc (.cells (newCells (newS size rate)) 58)
  have hk2 := Blk.new (w1.alloc (.cells (newCells (newS size rate)) 58)) 58 (newCells (newS size rate))
  have hbb := below_a (below_a hb1 (.cells (newCells (newS size rate)) 58)) (.cells (newCells (newS size rate)) 58)
  rw [show (w1.alloc (.cells (newCells (newS size rate)) 58)).heap.size = w1.heap.size + 1 by simp] at hk2
  go_wp2_with fail
  refine (few_c A n c _ h hm xs (hx.below hbb)).mono ?_
  rintro e w5 ⟨rfl, rfl⟩
  go_wp2_with fail
  refine (few_c A' n' c' _ h' hm' xs' (hx'.below hbb)).mono ?_
  rintro e w5 ⟨rfl, rfl⟩
  go_wp2_with fail
  have hx2 := few_steps hx
  have hx2' := few_steps hx'
  have hmm : fewN n ≤ 9223372036854775807 := by unfold fewN; split <;> omega
  have hmm' : fewN n' ≤ 9223372036854775807 := by unfold fewN; split <;> omega
  have hs0 := newS_ok size rate
  have hg1 : w.heap.size ≤ w1.heap.size := hb1.size
  have hg2 : w.heap.size ≤ w1.heap.size + 1 := by omega
  have hne : ¬ w1.heap.size = w1.heap.size + 1 := by omega
  clear hb1 hx hx'
  generalize hw : (w1.alloc (.cells (newCells (newS size rate)) 58)).alloc (.cells (newCells (newS size rate)) 58) = w4 at *
  clear hw
  generalize w1.heap.size + 1 = g2 at *
  generalize w1.heap.size = g at *
  generalize fewN n = m at *
  generalize xs.take m = ys at *
  generalize fewN n' = m' at *
  generalize xs'.take m' = ys' at *
  have Hx := Lib.hid hx2
  have Hx' := Lib.hid hx2'
  clear hx2 hx2'
  go_loopw [11] (fun iv wr => TwinRel w g g2 iv m wr) (fun iv _ => m - (intOf iv).toNat)
  case atStart => exact ⟨0, by omega, rfl, newS size rate, hs0, hk1, hk2, hbb⟩
  case round =>
    obtain ⟨k, hkm, rfl, s, hs, hp, hq, hb⟩ := hrel
    by_cases hlt : k < m
    · have hbl : ∃ b off, A = some ⟨b, off, none⟩ ∧ b < w.heap.size := by
        obtain ⟨b, off, hA, _, x0, _⟩ := Hx.out.2 k hlt
        exact ⟨b, off, hA, World.block_lt_of_cell? w _ x0⟩
      obtain ⟨b, off, rfl, hbw⟩ := hbl
      obtain ⟨b', off', hA, hxo, x0, x1, x2⟩ := (Hx.out.below hb).2 k hlt
      obtain ⟨rfl, rfl⟩ : b = b' ∧ off = off' := by simpa using hA
      clear hA
      generalize ys.getD k default = x at *
      have hneb : ¬ b = g := by omega
      have hneb2 : ¬ b = g2 := by omega
      have hbr := World.block_lt_of_cell? wr _ x0
      have hne' : ¬ g2 = g := by omega
      have G := Lib.hid (And.intro hs (And.intro hp (And.intro hq (And.intro hb hxo))))
      clear hs hp hq hb hxo
      go_wp2_with fail
      refine (at_c g s x.n _ G.out.2.1 G.out.1 G.out.2.2.2.2.f).mono ?_
      rintro e w5 ⟨rfl, m1, rfl⟩
      obtain ⟨wd, hwd⟩ : ∃ wd, wd = wr.drewN m1 := ⟨_, rfl⟩
      have y0 : wd.cell? ⟨b, off + k * 3, none⟩ = some (.int .i64 x.kind) := by rw [hwd]; exact x0
      have y1 : wd.cell? ⟨b, off + k * 3 + 1, none⟩ = some (.int .i64 x.at_) := by rw [hwd]; exact x1
      have y2 : wd.cell? ⟨b, off + k * 3 + 2, none⟩ = some (.int .i64 x.n) := by rw [hwd]; exact x2
      have G2 : Hid (s.Ok ∧ Bkt wd g s ∧ Bkt wd g2 s ∧ Below w.heap.size w wd ∧ x.Ok) := by rw [hwd]; exact ⟨G.out.1, G.out.2.1.drewN _, G.out.2.2.1.drewN _, belowN G.out.2.2.2.1 _, G.out.2.2.2.2⟩
      rw [← hwd]
      clear hwd x0 x1 x2 G hbr wr
      go_wp2_with fail
      go_still_tail 11, (by kernel_rfl)
      go_wp2_with fail
      refine (wait_c g s x.n x.at_ _ (G2.out.2.1.drewN 1) G2.out.1 G2.out.2.2.2.2.f G2.out.2.2.2.2.c G2.out.2.2.2.2.d).mono ?_
      rintro e w2 ⟨rfl, hb2⟩
      replace hb2 := undrew hb2
      have z0 := (hb2.cell (p := ⟨b, off + k * 3, none⟩) (World.block_lt_of_cell? wd _ y0)).trans y0
      have z1 := (hb2.cell (p := ⟨b, off + k * 3 + 1, none⟩) (World.block_lt_of_cell? wd _ y1)).trans y1
      have z2 := (hb2.cell (p := ⟨b, off + k * 3 + 2, none⟩) (World.block_lt_of_cell? wd _ y2)).trans y2
      have G3 : Hid (s.Ok ∧ Bkt w2 g s ∧ Bkt w2 g2 s ∧ Below w.heap.size w w2 ∧ x.Ok) := ⟨G2.out.1, Blk.below G2.out.2.1 hb2 (Blk.lt G2.out.2.1), Blk.below G2.out.2.2.1 hb2 (Blk.lt G2.out.2.2.1), below_into G2.out.2.2.2.1 hb2, G2.out.2.2.2.2⟩
      clear hb2 y0 y1 y2 G2 wd
      go_wp2_with fail
      go_region_held3 (fun w' => w'.cell? ⟨b, off + k * 3 + 1, none⟩ = some (.int .i64 x.at_) ∧ w'.cell? ⟨b, off + k * 3 + 2, none⟩ = some (.int .i64 x.n))
        (go_keep)
        (first
          | (go_at_call_of 23 (Value.pointer (some ⟨g, 0, none⟩)); go_must (refine (take_c g s x.at_ x.n _ (G3.out.2.1.drewN 1) G3.out.1 G3.out.2.2.2.2.d).mono ?_); rintro e w3 ⟨rfl, hb3, h3⟩; replace hb3 := ungrew hb3; have q3 := blk_far hb3 hne' G3.out.2.2.1; have v1 := far1 hb3 hneb z1; have v2 := far1 hb3 hneb z2)
          | (go_at_call_of 23 (Value.pointer (some ⟨g2, 0, none⟩)); go_must (refine (take_c g2 s x.at_ x.n _ q3 G3.out.1 G3.out.2.2.2.2.d).mono ?_); rintro e w4 ⟨rfl, hb4, h4⟩; have v3 := far1 hb4 hneb2 v1; have v4 := far1 hb4 hneb2 v2))
      all_goals
        go_wp2
        exact ⟨twin_step hlt G3.out.1 G3.out.2.2.2.2.d hg1 hg2 hne G3.out.2.2.2.1 hb3 h3 hb4 h4, by simp [intOf]; omega⟩
    · have hkm2 : k = m := by omega
      subst hkm2
      have G := Lib.hid (And.intro hs (And.intro hp (And.intro hq hb)))
      clear hs hp hq hb
      go_wp2_with fail
      refine (clone_c g s _ G.out.2.1).mono ?_
      rintro e w2 ⟨rfl, rfl⟩
      have hgl := Blk.lt G.out.2.1
      have hgl2 := Blk.lt G.out.2.2.1
      have hc0 := bkt_new wr s
      have hw0 := Blk.alloc G.out.2.1 (.cells (newCells s) 58)
      have hq0 := Blk.alloc G.out.2.2.1 (.cells (newCells s) 58)
      have hb0 := below_a G.out.2.2.2 (.cells (newCells s) 58)
      go_wp2_with fail
      refine (take_c g s 4611686018427387904 1 _ hw0 G.out.1 (by omega)).mono ?_
      rintro e w3 ⟨rfl, hg3, _⟩
      have hc3 : Bkt w3 wr.heap.size s := blk_far hg3 (by omega) hc0
      have hq3 : Bkt w3 g2 s := blk_far hg3 (by omega) hq0
      have hb3 := hb0.trans (gr_below hg3 hb0.size hg1)
      have hs3 := G.out.1
      have hg3' : w.heap.size ≤ wr.heap.size := G.out.2.2.2.size
      have hne3 : ¬ wr.heap.size = g2 := by omega
      clear hg3 hc0 hw0 hq0 hb0 G
      generalize takeB s 4611686018427387904 1 = tb
      go_wp2_with fail
      generalize wr.heap.size = g3 at *
      go_loopw [15] (fun iv wr => TwinRel w g3 g2 iv m' wr) (fun iv _ => m' - (intOf iv).toNat)
      case atStart => exact ⟨0, by omega, rfl, s, hs3, hc3, hq3, hb3⟩
      case round =>
        obtain ⟨k, hkm, rfl, s, hs, hp, hq, hb⟩ := hrel
        by_cases hlt : k < m'
        · have hbl : ∃ b off, A' = some ⟨b, off, none⟩ ∧ b < w.heap.size := by
            obtain ⟨b, off, hA, _, x0, _⟩ := Hx'.out.2 k hlt
            exact ⟨b, off, hA, World.block_lt_of_cell? w _ x0⟩
          obtain ⟨b, off, rfl, hbw⟩ := hbl
          obtain ⟨b', off', hA, hxo, x0, x1, x2⟩ := (Hx'.out.below hb).2 k hlt
          obtain ⟨rfl, rfl⟩ : b = b' ∧ off = off' := by simpa using hA
          clear hA
          generalize ys'.getD k default = x at *
          have hneb : ¬ b = g3 := by omega
          have hneb2 : ¬ b = g2 := by omega
          have hne' : ¬ g2 = g3 := by omega
          have G3 := Lib.hid (And.intro hs (And.intro hp (And.intro hq (And.intro hb hxo))))
          clear hs hp hq hb hxo
          go_wp2_with fail
          go_region_held3 (fun w' => w'.cell? ⟨b, off + k * 3 + 1, none⟩ = some (.int .i64 x.at_) ∧ w'.cell? ⟨b, off + k * 3 + 2, none⟩ = some (.int .i64 x.n))
            (go_keep)
            (first
              | (go_at_call_of 23 (Value.pointer (some ⟨g3, 0, none⟩)); go_must (refine (take_c g3 s x.at_ x.n _ (G3.out.2.1.drewN 1) G3.out.1 G3.out.2.2.2.2.d).mono ?_); rintro e w3 ⟨rfl, hb3, h3⟩; replace hb3 := ungrew hb3; have q3 := blk_far hb3 hne' G3.out.2.2.1; have v1 := far1 hb3 hneb x1; have v2 := far1 hb3 hneb x2)
              | (go_at_call_of 23 (Value.pointer (some ⟨g2, 0, none⟩)); go_must (refine (take_c g2 s x.at_ x.n _ q3 G3.out.1 G3.out.2.2.2.2.d).mono ?_); rintro e w4 ⟨rfl, hb4, h4⟩; have v3 := far1 hb4 hneb2 v1; have v4 := far1 hb4 hneb2 v2))
          all_goals
            have T := Lib.hid (twin_step hlt G3.out.1 G3.out.2.2.2.2.d (Nat.le_trans (Nat.le_refl _) hg3') hg2 hne3 G3.out.2.2.2.1 hb3 h3 hb4 h4)
            have p4 : Bkt w4 g3 (takeS s x.at_ x.n) := blk_far hb4 hne3 h3
            have P4 := Lib.hid p4
            have H4 := Lib.hid h4
            have O4 := take_ok s G3.out.1 x.at_ x.n G3.out.2.2.2.2.d
            have X4 := G3.out.2.2.2.2.d
            clear hb3 h3 hb4 h4 q3 p4 v1 v2 x0 x1 x2
            go_wp2_with fail
            go_quiet ((first | (go_at_call_of 28 (Value.pointer (some ⟨g3, 0, none⟩)); exact Calls.quiet_of (at_c g3 _ x.at_ _ (P4.out.drewN _) O4 X4)) | (go_at_call_of 28 (Value.pointer (some ⟨g2, 0, none⟩)); exact Calls.quiet_of (at_c g2 _ x.at_ _ (H4.out.drewN _) O4 X4))))
            go_wp2
            exact ⟨twin_drewN T.out _, by simp [intOf]; omega⟩
        · have hkm2 : k = m' := by omega
          subst hkm2
          clear hs hp hq
          go_wp2_with fail
          refine (wait_nil 0 0 _).mono ?_
          rintro e w5 ⟨rfl, rfl⟩
          have ho : Odd (wr.alloc (.cells #[.bool false, .int .i64 0, .int .i64 0, .int .i64 0, .int .i64 0] 58)) wr.heap.size := Blk.new _ _ _
          have hb5 := below_a hb (.cells #[.bool false, .int .i64 0, .int .i64 0, .int .i64 0, .int .i64 0] 58)
          go_wp2_with fail
          refine (wait_odd _ 0 0 _ ho).mono ?_
          rintro e w5 ⟨rfl, rfl⟩
          go_wp2_with fail
          refine (at_nil 1 _).mono ?_
          rintro e w5 ⟨rfl, rfl⟩
          go_wp2_with fail
          refine (at_odd _ 1 _ ho).mono ?_
          rintro e w5 ⟨rfl, rfl⟩
          go_wp2_with fail
          refine (take_nil 1 0 _).mono ?_
          rintro e w5 ⟨rfl, rfl⟩
          go_wp2_with fail
          refine (take_odd _ 1 0 _ ho).mono ?_
          rintro e w5 ⟨rfl, rfl⟩
          go_wp2_with fail
          refine (clone_nil _).mono ?_
          rintro e w5 ⟨rfl, rfl⟩
          go_wp2_with fail
          refine (clone_odd _ _ ho).mono ?_
          rintro e w5 ⟨rfl, rfl⟩
          go_wp2_with fail
          go_returns
          exact ⟨rfl, hb5⟩
theorem clones_row (size rate : Int) (A : Option Addr) (n c : Nat) (A' : Option Addr) (n' c' : Nat) (w : World) (_ : -9223372036854775808 ≤ size) (_ : size ≤ 9223372036854775807) (_ : -9223372036854775808 ≤ rate) (_ : rate ≤ 9223372036854775807)
    (h : n ≤ c) (hm : c ≤ 9223372036854775807) (xs : List Stp) (hx : Steps3 w A n xs) (h' : n' ≤ c') (hm' : c' ≤ 9223372036854775807) (xs' : List Stp) (hx' : Steps3 w A' n' xs') :
    Calls Try.prog 7 #[.int .i64 size, .int .i64 rate, .slice A n c, .slice A' n' c'] w (Out true w) := clones_c size rate A n c A' n' c' w h hm xs hx h' hm' xs' hx'
end Go.Proofs.Ytmfhilddemgabaa
