/- The tally laws: their walks. Conditions: the slices read as lists of moments. -/
import Derived.Test.YtppbgkadpomblaaProg
import Derived.Test.YtppbgkadpomblaaB3
import Derived.Tactics
import Derived.Tactics2
import Derived.WalkKit
import Derived.WalkSpells
import Derived.WalkLawsBesides
import Derived.StillTactics
import Derived.StillTailTactics
import Derived.OwnWalk
import Derived.Laws.Pointers
import Derived.Laws.ResultCell
import Derived.Deep.RegionHeld3
import Derived.Deep.RegionWith
import Derived.Deep.RegionLaw
import Derived.Deep.AppendLies
import Derived.Deep.QuietTactic
import Derived.BigQuiet
import Derived.LoopTactic
import Derived.Deep.LoopGhost
import Derived.Deep.DeepCutAuto
import Derived.Deep.DeepFit
import Derived.Maps.AppendAt
import Derived.Below
import Derived.Lib.Hide
import Derived.Handy
import Derived.KernelRfl
import Derived.IntWalk
import Derived.Laws.AppendOwnNone
import Derived.Laws.IdiomStrings
namespace Go.Proofs.Ytppbgkadpomblaa
set_option linter.unusedVariables false
set_option linter.unusedSimpArgs false
open Go.RowKit

theorem rd_ts2 {w : World} {q off n : Nat} {l : List TSt} (hr : Rd w No 2 (some ⟨q, off, none⟩) n (l.flatMap tcells)) (i : Nat) (hi : i < n) {x : TSt} (hx : l[i]? = some x) :
    ∀ w9, Tch No w w9 → w9.cell? ⟨q, off + i * 2, none⟩ = some (.int .i64 x.at_) ∧ w9.cell? ⟨q, off + i * 2 + 1, none⟩ = some (.bool x.is_) := by
  intro w9 t9
  obtain ⟨q', off', y, hA, hy, d0, d1⟩ := rd_ts (hr.tch t9) i hi
  obtain ⟨rfl, rfl⟩ : q = q' ∧ off = off' := by simpa using hA
  have : y = x := by rw [hx] at hy; injection hy with e; exact e.symm
  subst this
  exact ⟨d0, d1⟩

set_option maxHeartbeats 3200000 in
set_option maxRecDepth 100000 in
theorem ttells_walk (hi : Int) (A : Option Addr) (n c : Nat) (w : World) (b0 : -9223372036854775808 ≤ hi) (b1 : hi ≤ 9223372036854775807) (h : n ≤ c) (hm : c ≤ 9223372036854775807) (xs : List TSt) (hr : Rd w No 2 A n (xs.flatMap tcells) ∧ ∀ x ∈ xs, Fit x.at_) :
    Calls Try.prog 7 #[.int .i64 hi, .slice A n c] w fun e w' => e = .returned (.bool true) ∧ Below w.heap.size w w' := by
  have HR := Lib.hid hr.1
  have HX := Lib.hid hr.2
  have HF := Lib.hid (few17_rd hr.1)
  have hf := (few60_le n).1
  clear hr
  rcases (by omega : hi < 0 ∨ 0 ≤ hi) with hh | hh
  · skip
    go_enter Try.func7, Try.ntmps7
    go_wp2_with fail
    refine (talive_c _).mono ?_
    rintro e w1 ⟨rfl, t1⟩
    have T1 := Lib.hid t1
    clear t1
    go_wp2_with fail
    refine (few17_c No A n c xs _ h hm (HR.out.tch T1.out)).mono ?_
    rintro e w2 ⟨rfl, rfl⟩
    go_wp2_with fail
    refine (tnew_c hi 0 _ (by omega)).mono ?_
    rintro e w2 ⟨rfl, rfl⟩
    have A0 := Lib.hid (aftert_new w w1 ⟨0, 0, []⟩ T1.out rfl)
    go_wp2_with fail
    go_loopw [6] (fun iv wr => ∃ i : Nat, i ≤ few60 n ∧ iv = .int .i64 i ∧ ∃ v, AfterT w w1.heap.size (runT 0 ((xs.take (few60 n)).take i)) v wr) (fun iv _ => few60 n - (intOf iv).toNat)
    case atStart => exact ⟨0, by omega, rfl, _, A0.out⟩
    case round =>
      obtain ⟨i, hil, rfl, v, ha⟩ := hrel
      by_cases hlt : i < few60 n
      · obtain ⟨q, off, x, hA, hxi, d0, d1⟩ := rd_ts (HF.out.tch ha.tch) i hlt
        subst hA
        have hx9 := (HX.out x (List.mem_of_mem_take (List.mem_of_getElem? hxi))).2
        have hst : runT 0 ((xs.take (few60 n)).take (i + 1)) = stepT (runT 0 ((xs.take (few60 n)).take i)) x.at_ x.is_ := by rw [take_succ_of hxi, runT_snoc]
        obtain ⟨k1, k2⟩ := told_is 0 ((xs.take (few60 n)).take (i + 1)) (by omega) (by simp; omega)
        have hok := run_okT 0 ((xs.take (few60 n)).take i) (by omega) (by omega) (by simp; omega) (fun y hy => (HX.out y (List.mem_of_mem_take (List.mem_of_mem_take hy))).2)
        have hlen : (runT 0 ((xs.take (few60 n)).take i)).l.length ≤ 1000 := by
          rw [runT_is _ _ (by omega)]
          have a1 := (ginfo (seenT 0 ((xs.take (few60 n)).take i)) ((minfo _).nd.filter _)).len
          have a2 := seen_len 0 ((xs.take (few60 n)).take i)
          have a3 : ((xs.take (few60 n)).take i).length ≤ 60 := by simp; omega
          simp only
          omega
        have HST := Lib.hid (And.intro hst (And.intro k1 k2))
        have HOK := Lib.hid hok
        have HA := Lib.hid ha
        have RD : Hid (∀ w9, Tch No w w9 → w9.cell? ⟨q, off + i * 2, none⟩ = some (.int .i64 x.at_) ∧ w9.cell? ⟨q, off + i * 2 + 1, none⟩ = some (.bool x.is_)) := rd_ts2 HF.out i hlt hxi
        clear ha hst k1 k2 hok hxi
        have hi1 : (i : Int) < (few60 n : Int) := by omega
        go_wp2_with fail
        refine (told_c _ (few60 n) c (xs.take (few60 n)) i 0 _ (HF.out.tch HA.out.tch) hlt (by omega) (fun y hy => HX.out y (List.mem_of_mem_take hy)) (by omega) (by omega)).mono ?_
        rintro e w3 ⟨rfl, t3⟩
        rw [HST.out.2.1, HST.out.2.2, HST.out.1]
        have A3 := Lib.hid (aftert_no HA.out t3)
        obtain ⟨x0, x1⟩ := RD.out w3 A3.out.tch
        clear t3 d0 d1
        generalize hS : runT 0 ((xs.take (few60 n)).take i) = s at *
        have HSS := Lib.hid hS
        clear hS
        go_wp2_with fail
        go_region_held3 (fun w' => w'.cell? ⟨q, off + i * 2, none⟩ = some (.int .i64 x.at_) ∧ w'.cell? ⟨q, off + i * 2 + 1, none⟩ = some (.bool x.is_)) (go_keep)
          (first
            | (go_at_call 27; refine (tstep_n (aftert_no A3.out ((Tch.refl No w3).drewN 1)) x.at_ x.is_ HOK.out hx9 (by omega)).mono ?_; rintro e w4 ⟨rfl, v4, a4⟩; have A4 := Lib.hid a4; have y01 := RD.out w4 a4.tch; obtain ⟨y0, y1⟩ := y01; clear a4)
            | (go_at_call 28; go_must (refine (tcells_c _ _ v4 _ _ A4.out.tl).mono ?_); rintro e w5 ⟨rfl, rfl⟩))
        all_goals
          go_wp2
          exact ⟨⟨i + 1, by omega, by simp, v4, by rw [HST.out.1]; exact A4.out⟩, by simp [intOf]; omega⟩
      · have him : i = few60 n := by omega
        have HA := Lib.hid ha
        clear ha
        rcases Nat.eq_zero_or_pos (few60 n) with h0 | h0
        · have hz : (runT 0 ((xs.take (few60 n)).take i)).l = [] := by rw [him, h0]; rfl
          have HZ := Lib.hid hz
          have hi0 : i = 0 := by omega
          have HI := Lib.hid (And.intro h0 him)
          have hm1 : ¬ ((i : Int) < (few60 n : Int)) := by omega
          have hm2 : ¬ (0 < few60 n) := by omega
          have hm3 : decide ((0 : Int) < (few60 n : Int)) = false := by simp; omega
          clear hz h0 him hi0
          go_wp2_with fail
          refine (tcells_c _ _ v _ _ HA.out.tl).mono ?_
          rintro e w3 ⟨rfl, rfl⟩
          rw [HZ.out]
          go_wp2
          go_returns
          exact ⟨rfl, HA.out.tch.noBelow⟩
        · have hm1 : ¬ ((i : Int) < (few60 n : Int)) := by omega
          have hm3 : decide ((0 : Int) < (few60 n : Int)) = true := by simp; omega
          clear him
          go_wp2_with fail
          go_returns
          exact ⟨rfl, HA.out.tch.noBelow⟩
  · skip
    go_enter Try.func7, Try.ntmps7
    go_wp2_with fail
    refine (talive_c _).mono ?_
    rintro e w1 ⟨rfl, t1⟩
    have T1 := Lib.hid t1
    clear t1
    go_wp2_with fail
    refine (few17_c No A n c xs _ h hm (HR.out.tch T1.out)).mono ?_
    rintro e w2 ⟨rfl, rfl⟩
    go_wp2_with fail
    refine (tnew_c hi hi _ (by omega)).mono ?_
    rintro e w2 ⟨rfl, rfl⟩
    have A0 := Lib.hid (aftert_new w w1 ⟨hi, 0, []⟩ T1.out rfl)
    go_wp2_with fail
    go_loopw [6] (fun iv wr => ∃ i : Nat, i ≤ few60 n ∧ iv = .int .i64 i ∧ ∃ v, AfterT w w1.heap.size (runT hi ((xs.take (few60 n)).take i)) v wr) (fun iv _ => few60 n - (intOf iv).toNat)
    case atStart => exact ⟨0, by omega, rfl, _, A0.out⟩
    case round =>
      obtain ⟨i, hil, rfl, v, ha⟩ := hrel
      by_cases hlt : i < few60 n
      · obtain ⟨q, off, x, hA, hxi, d0, d1⟩ := rd_ts (HF.out.tch ha.tch) i hlt
        subst hA
        have hx9 := (HX.out x (List.mem_of_mem_take (List.mem_of_getElem? hxi))).2
        have hst : runT hi ((xs.take (few60 n)).take (i + 1)) = stepT (runT hi ((xs.take (few60 n)).take i)) x.at_ x.is_ := by rw [take_succ_of hxi, runT_snoc]
        obtain ⟨k1, k2⟩ := told_is hi ((xs.take (few60 n)).take (i + 1)) (by omega) (by simp; omega)
        have hok := run_okT hi ((xs.take (few60 n)).take i) (by omega) (by omega) (by simp; omega) (fun y hy => (HX.out y (List.mem_of_mem_take (List.mem_of_mem_take hy))).2)
        have hlen : (runT hi ((xs.take (few60 n)).take i)).l.length ≤ 1000 := by
          rw [runT_is _ _ (by omega)]
          have a1 := (ginfo (seenT hi ((xs.take (few60 n)).take i)) ((minfo _).nd.filter _)).len
          have a2 := seen_len hi ((xs.take (few60 n)).take i)
          have a3 : ((xs.take (few60 n)).take i).length ≤ 60 := by simp; omega
          simp only
          omega
        have HST := Lib.hid (And.intro hst (And.intro k1 k2))
        have HOK := Lib.hid hok
        have HA := Lib.hid ha
        have RD : Hid (∀ w9, Tch No w w9 → w9.cell? ⟨q, off + i * 2, none⟩ = some (.int .i64 x.at_) ∧ w9.cell? ⟨q, off + i * 2 + 1, none⟩ = some (.bool x.is_)) := rd_ts2 HF.out i hlt hxi
        clear ha hst k1 k2 hok hxi
        have hi1 : (i : Int) < (few60 n : Int) := by omega
        go_wp2_with fail
        refine (told_c _ (few60 n) c (xs.take (few60 n)) i hi _ (HF.out.tch HA.out.tch) hlt (by omega) (fun y hy => HX.out y (List.mem_of_mem_take hy)) (by omega) (by omega)).mono ?_
        rintro e w3 ⟨rfl, t3⟩
        rw [HST.out.2.1, HST.out.2.2, HST.out.1]
        have A3 := Lib.hid (aftert_no HA.out t3)
        obtain ⟨x0, x1⟩ := RD.out w3 A3.out.tch
        clear t3 d0 d1
        generalize hS : runT hi ((xs.take (few60 n)).take i) = s at *
        have HSS := Lib.hid hS
        clear hS
        go_wp2_with fail
        go_region_held3 (fun w' => w'.cell? ⟨q, off + i * 2, none⟩ = some (.int .i64 x.at_) ∧ w'.cell? ⟨q, off + i * 2 + 1, none⟩ = some (.bool x.is_)) (go_keep)
          (first
            | (go_at_call 27; refine (tstep_n (aftert_no A3.out ((Tch.refl No w3).drewN 1)) x.at_ x.is_ HOK.out hx9 (by omega)).mono ?_; rintro e w4 ⟨rfl, v4, a4⟩; have A4 := Lib.hid a4; have y01 := RD.out w4 a4.tch; obtain ⟨y0, y1⟩ := y01; clear a4)
            | (go_at_call 28; go_must (refine (tcells_c _ _ v4 _ _ A4.out.tl).mono ?_); rintro e w5 ⟨rfl, rfl⟩))
        all_goals
          go_wp2
          exact ⟨⟨i + 1, by omega, by simp, v4, by rw [HST.out.1]; exact A4.out⟩, by simp [intOf]; omega⟩
      · have him : i = few60 n := by omega
        have HA := Lib.hid ha
        clear ha
        rcases Nat.eq_zero_or_pos (few60 n) with h0 | h0
        · have hz : (runT hi ((xs.take (few60 n)).take i)).l = [] := by rw [him, h0]; rfl
          have HZ := Lib.hid hz
          have hi0 : i = 0 := by omega
          have HI := Lib.hid (And.intro h0 him)
          have hm1 : ¬ ((i : Int) < (few60 n : Int)) := by omega
          have hm2 : ¬ (0 < few60 n) := by omega
          have hm3 : decide ((0 : Int) < (few60 n : Int)) = false := by simp; omega
          clear hz h0 him hi0
          go_wp2_with fail
          refine (tcells_c _ _ v _ _ HA.out.tl).mono ?_
          rintro e w3 ⟨rfl, rfl⟩
          rw [HZ.out]
          go_wp2
          go_returns
          exact ⟨rfl, HA.out.tch.noBelow⟩
        · have hm1 : ¬ ((i : Int) < (few60 n : Int)) := by omega
          have hm3 : decide ((0 : Int) < (few60 n : Int)) = true := by simp; omega
          clear him
          go_wp2_with fail
          go_returns
          exact ⟨rfl, HA.out.tch.noBelow⟩
end Go.Proofs.Ytppbgkadpomblaa
