/- The law QuotaWaits: its walk. Conditions: the list reads as a list of steps. -/
import Derived.Test.YtmfhilddemgabaaProg
import Derived.Test.YtmfhilddemgabaaR1
import Derived.Test.YtmfhilddemgabaaPn
import Derived.Tactics
import Derived.Tactics2
import Derived.WalkKit
import Derived.WalkSpells
import Derived.WalkLawsBesides
import Derived.StillTactics
import Derived.StillTailTactics
import Derived.OwnWalk
import Derived.Laws.Pointers
import Derived.Laws.ResultCell
import Derived.Deep.RegionHeld3
import Derived.Deep.RegionWith
import Derived.Deep.RegionLaw
import Derived.Deep.AppendLies
import Derived.Deep.QuietTactic
import Derived.BigQuiet
import Derived.LoopTactic
import Derived.Deep.LoopGhost
import Derived.Deep.DeepCutAuto
import Derived.Deep.DeepFit
import Derived.Maps.AppendAt
import Derived.Below
import Derived.Lib.Hide
import Derived.Handy
import Derived.KernelRfl
namespace Go.Proofs.Ytmfhilddemgabaa
set_option linter.unusedVariables false
set_option linter.unusedSimpArgs false
open Go.RowKit

def WaitRel (W : World) (g : Nat) (lv iv : Value) (m : Nat) (wr : World) : Prop :=
  ∃ k : Nat, k ≤ m ∧ iv = .int .i64 k ∧ ∃ s : Bk, s.Ok ∧ lv = .int .i64 s.last ∧ Bkt wr g s ∧ Below W.heap.size W wr

theorem wait_step {w wr w2 : World} {g k m : Nat} {s : Bk} {t n l : Int} (hlt : k < m) (hs : s.Ok) (ht : t ≤ 9223372036854775807) (hg1 : w.heap.size ≤ g) (hb : Below w.heap.size w wr) (hb2 : wr.grownBy w2 (some g))
    (h2 : Bkt w2 g (takeS s t n)) (hl : l = max t s.last) : WaitRel w g (.int .i64 l) (.int .i64 (↑k + 1)) m w2 :=
  ⟨k + 1, by omega, by simp, takeS s t n, take_ok s hs t n ht, by rw [hl]; rfl, h2, hb.trans (gr_below hb2 hb.size hg1)⟩

set_option maxHeartbeats 1600000 in
theorem waits_c (size rate : Int) (A : Option Addr) (n c : Nat) (at_ nn long : Int) (w : World) (h : n ≤ c) (hm : c ≤ 9223372036854775807) (xs : List Stp) (hx : Steps3 w A n xs)
    (ha1 : -9223372036854775808 ≤ at_) (ha2 : at_ ≤ 9223372036854775807) (hn1 : -9223372036854775808 ≤ nn) (hn2 : nn ≤ 9223372036854775807) (hl1 : -9223372036854775808 ≤ long) (hl2 : long ≤ 9223372036854775807) :
    Calls Try.prog 6 #[.int .i64 size, .int .i64 rate, .slice A n c, .int .i64 at_, .int .i64 nn, .int .i64 long] w (Out true w) := by
  go_enter Try.func6, Try.ntmps6
  go_wp2_with fail
  refine (alive_c _).mono ?_
  rintro e w1 ⟨rfl, hb1⟩
  go_wp2_with fail
  refine (new_c size rate _).mono ?_
  rintro e w2 ⟨rfl, rfl⟩
  have hk := Blk.new w1 58 (newCells (newS size rate))
  have hbb := hb1.alloc hb1.size (.cells (newCells (newS size rate)) 58)
  go_wp2_with fail
  refine (few_c A n c _ h hm xs (hx.below hbb)).mono ?_
  rintro e w5 ⟨rfl, rfl⟩
  go_wp2_with fail
  have hx2 := few_steps hx
  have hmm : fewN n ≤ 9223372036854775807 := by unfold fewN; split <;> omega
  have hs0 := newS_ok size rate
  have hg1 : w.heap.size ≤ w1.heap.size := hb1.size
  clear hb1 hx
  generalize hw : w1.alloc (.cells (newCells (newS size rate)) 58) = w4 at *
  clear hw
  generalize w1.heap.size = g at *
  generalize fewN n = m at *
  generalize xs.take m = ys at *
  have Hx := Lib.hid hx2
  clear hx2
  go_loopw [14, 15] (fun lv iv wr => WaitRel w g lv iv m wr) (fun _ iv _ => m - (intOf iv).toNat)
  case atStart => exact ⟨0, by omega, rfl, newS size rate, hs0, rfl, hk, hbb⟩
  case round =>
    obtain ⟨k, hkm, rfl, s, hs, rfl, hg, hb⟩ := hrel
    by_cases hlt : k < m
    · have hbl : ∃ b off, A = some ⟨b, off, none⟩ ∧ b < w.heap.size := by
        obtain ⟨b, off, hA, _, x0, _⟩ := Hx.out.2 k hlt
        exact ⟨b, off, hA, World.block_lt_of_cell? w _ x0⟩
      obtain ⟨b, off, rfl, hbw⟩ := hbl
      obtain ⟨b', off', hA, hxo, x0, x1, x2⟩ := (Hx.out.below hb).2 k hlt
      obtain ⟨rfl, rfl⟩ : b = b' ∧ off = off' := by simpa using hA
      clear hA
      generalize ys.getD k default = x at *
      have G := Lib.hid (And.intro hs (And.intro hg (And.intro hb hxo)))
      have hne1 : ¬ b = g := by omega
      clear hs hg hb hxo
      go_wp2_with fail
      go_still_tail 11, (by kernel_rfl)
      have hmx : s.last ≤ x.at_ ∨ x.at_ < s.last := by omega
      rcases hmx with hmx | hmx
      all_goals
        go_wp2_with (go_at_call 23; go_must (refine (take_c g s x.at_ x.n _ (G.out.2.1.drewN 1) G.out.1 G.out.2.2.2.d).mono ?_); rintro e w2 ⟨rfl, hb2, h2⟩; replace hb2 := ungrew hb2; have y1 := far1 hb2 hne1 x1)
        exact ⟨wait_step hlt G.out.1 G.out.2.2.2.d hg1 G.out.2.2.1 hb2 h2 (by omega), by simp [intOf]; omega⟩
    · have hkm2 : k = m := by omega
      subst hkm2
      have hs1 := hs.l0
      have hs2 := hs.l1
      have G := Lib.hid (And.intro hs (And.intro hg hb))
      clear hs hg hb
      have hmx : at_ < s.last ∨ s.last ≤ at_ := by omega
      rcases hmx with hmx | hmx
      · have hT1 : s.last ≤ s.last := by omega
        have hT2 : s.last ≤ 9223372036854775807 := by omega
        go_wp2_with fail
        refine (wait_c g s s.last nn _ G.out.2.1 G.out.1 hT2 hn1 hn2).mono ?_
        rintro e w2 ⟨rfl, hb2⟩
        have hg2 : Bkt w2 g s := Blk.below G.out.2.1 hb2 (Blk.lt G.out.2.1)
        have hbb2 := below_into G.out.2.2 hb2
        clear hb2
        cases hok : (tillV (takeS s s.last 0) nn).2
        · have hz := (never_takes s G.out.1 s.last s.last nn hT1 (by omega) hok).1
          rw [hz]
          have Hno : Hid (∀ u, s.last ≤ u → takeB s u nn = false) := fun u hu => (never_takes s G.out.1 s.last u nn hT1 hu hok).2
          clear hz hok
          have hlm : s.last < long ∨ long ≤ s.last := by omega
          rcases hlm with hlm | hlm
          all_goals
            go_wp2_with fail
            refine (add_c s.last 0 _ (by omega) (by omega) (by omega) (by omega)).mono ?_
            rintro e w' ⟨rfl, rfl⟩
            generalize addV s.last 0 = q
            go_wp2_with fail
            refine (take_c g s _ nn _ hg2 G.out.1 (by omega)).mono ?_
            rintro e w3 ⟨rfl, hg3, _⟩
            rw [Hno.out _ (by omega)]
            go_wp2
            go_returns
            exact ⟨rfl, hbb2.trans (gr_below hg3 hbb2.size hg1)⟩
        · obtain ⟨q0, q1, q2, q3⟩ := then_takes s G.out.1 s.last nn hT1 hok
          clear hok
          generalize (tillV (takeS s s.last 0) nn).1 = q at *
          have Q2 := Lib.hid q2
          have Q3 := Lib.hid q3
          clear q2 q3
          go_wp2_with fail
          refine (add_c s.last q _ (by omega) (by omega) (by omega) (by omega)).mono ?_
          rintro e w' ⟨rfl, rfl⟩
          cases ha : (addV s.last q).2
          · clear ha
            generalize (addV s.last q).1 = z
            go_wp2
            go_returns
            exact ⟨rfl, hbb2⟩
          · obtain ⟨ha1, ha2⟩ := add_over ha
            rw [ha1]
            have hf : s.last + q ≤ 9223372036854775807 := ha2.2
            clear ha ha1 ha2
            go_wp2_with fail
            refine (clone_c g s _ hg2).mono ?_
            rintro e w' ⟨rfl, rfl⟩
            have hg4 : Bkt (w2.alloc (.cells (newCells s) 58)) g s := Blk.alloc hg2 _
            have hc4 := bkt_new w2 s
            have hb4 := hbb2.alloc hbb2.size (.cells (newCells s) 58)
            have hgw : ¬ w2.heap.size = g := by have := Blk.lt hg2; omega
            have hwz : w.heap.size ≤ w2.heap.size := hbb2.size
            go_wp2_with fail
            refine (take_c g s (s.last + q) nn _ hg4 G.out.1 hf).mono ?_
            rintro e w3 ⟨rfl, hg3, _⟩
            rw [Q2.out]
            have hc5 : Bkt w3 w2.heap.size s := blk_far hg3 hgw hc4
            have hb5 := hb4.trans (gr_below hg3 hb4.size hg1)
            by_cases hq0 : q = 0
            · have hq1 : (q == 0) = true := by simpa using hq0
              clear hq0
              go_wp2
              go_returns
              exact ⟨rfl, hb5⟩
            · have hq1 : (q == 0) = false := by simpa using hq0
              have Q4 := Lib.hid (Q3.out hq0)
              clear hq0
              go_wp2_with fail
              refine (take_c w2.heap.size s (s.last + q - 1) nn _ hc5 G.out.1 (by omega)).mono ?_
              rintro e w6 ⟨rfl, hg6, _⟩
              rw [Q4.out]
              go_wp2
              go_returns
              exact ⟨rfl, hb5.trans (gr_below hg6 hb5.size hwz)⟩
      · have hT1 : s.last ≤ at_ := by omega
        have hT2 : at_ ≤ 9223372036854775807 := by omega
        go_wp2_with fail
        refine (wait_c g s at_ nn _ G.out.2.1 G.out.1 hT2 hn1 hn2).mono ?_
        rintro e w2 ⟨rfl, hb2⟩
        have hg2 : Bkt w2 g s := Blk.below G.out.2.1 hb2 (Blk.lt G.out.2.1)
        have hbb2 := below_into G.out.2.2 hb2
        clear hb2
        cases hok : (tillV (takeS s at_ 0) nn).2
        · have hz := (never_takes s G.out.1 at_ at_ nn hT1 (by omega) hok).1
          rw [hz]
          have Hno : Hid (∀ u, at_ ≤ u → takeB s u nn = false) := fun u hu => (never_takes s G.out.1 at_ u nn hT1 hu hok).2
          clear hz hok
          have hlm : at_ < long ∨ long ≤ at_ := by omega
          rcases hlm with hlm | hlm
          all_goals
            go_wp2_with fail
            refine (add_c at_ 0 _ (by omega) (by omega) (by omega) (by omega)).mono ?_
            rintro e w' ⟨rfl, rfl⟩
            generalize addV at_ 0 = q
            go_wp2_with fail
            refine (take_c g s _ nn _ hg2 G.out.1 (by omega)).mono ?_
            rintro e w3 ⟨rfl, hg3, _⟩
            rw [Hno.out _ (by omega)]
            go_wp2
            go_returns
            exact ⟨rfl, hbb2.trans (gr_below hg3 hbb2.size hg1)⟩
        · obtain ⟨q0, q1, q2, q3⟩ := then_takes s G.out.1 at_ nn hT1 hok
          clear hok
          generalize (tillV (takeS s at_ 0) nn).1 = q at *
          have Q2 := Lib.hid q2
          have Q3 := Lib.hid q3
          clear q2 q3
          go_wp2_with fail
          refine (add_c at_ q _ (by omega) (by omega) (by omega) (by omega)).mono ?_
          rintro e w' ⟨rfl, rfl⟩
          cases ha : (addV at_ q).2
          · clear ha
            generalize (addV at_ q).1 = z
            go_wp2
            go_returns
            exact ⟨rfl, hbb2⟩
          · obtain ⟨ha1, ha2⟩ := add_over ha
            rw [ha1]
            have hf : at_ + q ≤ 9223372036854775807 := ha2.2
            clear ha ha1 ha2
            go_wp2_with fail
            refine (clone_c g s _ hg2).mono ?_
            rintro e w' ⟨rfl, rfl⟩
            have hg4 : Bkt (w2.alloc (.cells (newCells s) 58)) g s := Blk.alloc hg2 _
            have hc4 := bkt_new w2 s
            have hb4 := hbb2.alloc hbb2.size (.cells (newCells s) 58)
            have hgw : ¬ w2.heap.size = g := by have := Blk.lt hg2; omega
            have hwz : w.heap.size ≤ w2.heap.size := hbb2.size
            go_wp2_with fail
            refine (take_c g s (at_ + q) nn _ hg4 G.out.1 hf).mono ?_
            rintro e w3 ⟨rfl, hg3, _⟩
            rw [Q2.out]
            have hc5 : Bkt w3 w2.heap.size s := blk_far hg3 hgw hc4
            have hb5 := hb4.trans (gr_below hg3 hb4.size hg1)
            by_cases hq0 : q = 0
            · have hq1 : (q == 0) = true := by simpa using hq0
              clear hq0
              go_wp2
              go_returns
              exact ⟨rfl, hb5⟩
            · have hq1 : (q == 0) = false := by simpa using hq0
              have Q4 := Lib.hid (Q3.out hq0)
              clear hq0
              go_wp2_with fail
              refine (take_c w2.heap.size s (at_ + q - 1) nn _ hc5 G.out.1 (by omega)).mono ?_
              rintro e w6 ⟨rfl, hg6, _⟩
              rw [Q4.out]
              go_wp2
              go_returns
              exact ⟨rfl, hb5.trans (gr_below hg6 hb5.size hwz)⟩
theorem waits_row (size rate : Int) (A : Option Addr) (n c : Nat) (at_ nn long : Int) (w : World) (_ : -9223372036854775808 ≤ size) (_ : size ≤ 9223372036854775807) (_ : -9223372036854775808 ≤ rate) (_ : rate ≤ 9223372036854775807)
    (h : n ≤ c) (hm : c ≤ 9223372036854775807) (xs : List Stp) (hx : Steps3 w A n xs)
    (ha1 : -9223372036854775808 ≤ at_) (ha2 : at_ ≤ 9223372036854775807) (hn1 : -9223372036854775808 ≤ nn) (hn2 : nn ≤ 9223372036854775807) (hl1 : -9223372036854775808 ≤ long) (hl2 : long ≤ 9223372036854775807) :
    Calls Try.prog 6 #[.int .i64 size, .int .i64 rate, .slice A n c, .int .i64 at_, .int .i64 nn, .int .i64 long] w (Out true w) :=
  waits_c size rate A n c at_ nn long w h hm xs hx ha1 ha2 hn1 hn2 hl1 hl2
end Go.Proofs.Ytmfhilddemgabaa
