/- WindowSince: the walk. Conditions: numbers of 64 bits. -/
import Derived.Test.YtppbgkadpomblaaProg
import Derived.Test.YtppbgkadpomblaaC8
import Derived.Tactics
import Derived.Tactics2
import Derived.WalkKit
import Derived.WalkSpells
import Derived.WalkLawsBesides
import Derived.StillTactics
import Derived.StillTailTactics
import Derived.OwnWalk
import Derived.Laws.Pointers
import Derived.Laws.ResultCell
import Derived.Deep.RegionHeld3
import Derived.Deep.RegionWith
import Derived.Deep.RegionLaw
import Derived.Deep.AppendLies
import Derived.Deep.QuietTactic
import Derived.BigQuiet
import Derived.LoopTactic
import Derived.Deep.LoopGhost
import Derived.Deep.DeepCutAuto
import Derived.Deep.DeepFit
import Derived.Maps.AppendAt
import Derived.Below
import Derived.Lib.Hide
import Derived.Handy
import Derived.KernelRfl
import Derived.IntWalk
import Derived.Laws.AppendOwnNone
import Derived.Laws.IdiomStrings
namespace Go.Proofs.Ytppbgkadpomblaa
set_option linter.unusedVariables false
set_option linter.unusedSimpArgs false
open Go.RowKit

set_option maxHeartbeats 6400000 in
set_option maxRecDepth 100000 in
theorem wsince_walk (lo hi : Int) (A : Option Addr) (n c : Nat) (w : World) (b0 : -9223372036854775808 ≤ lo) (b1 : lo ≤ 9223372036854775807) (b2 : -9223372036854775808 ≤ hi) (b3 : hi ≤ 9223372036854775807) (h : n ≤ c) (hm : c ≤ 9223372036854775807) (xs : List WSt) (hr : Rd w No 3 A n (xs.flatMap wcells) ∧ ∀ x ∈ xs, Fit x.at_) :
    Calls Try.prog 11 #[.int .i64 lo, .int .i64 hi, .slice A n c] w fun e w' => e = .returned (.bool true) ∧ Below w.heap.size w w' := by
  have HR := Lib.hid hr.1
  have HX : Hid (∀ x ∈ xs.take (few50 n), Fit x.at_) := fun x hx => hr.2 x (List.mem_of_mem_take hx)
  have HF := Lib.hid (few31_rd hr.1)
  have hf := (few50_le n).1
  have hok := new_ok lo hi b1 b3
  have a0 : 0 ≤ loW lo := hok.a0
  have a1 : loW lo ≤ 9223372036854775807 := hok.a1
  have z0 : hiW lo hi = -1 ∨ 0 ≤ hiW lo hi := by have : -1 ≤ hiW lo hi := hok.h0; omega
  have z1 : hiW lo hi ≤ 9223372036854775807 := hok.h1
  have hlen : (xs.take (few50 n)).length = few50 n := ws_len HF.out
  clear hr hok
  generalize xs.take (few50 n) = ya at *
  have HNW : Hid (newW lo hi = runW true (loW lo) (hiW lo hi) (ya.take 0)) := rfl
  have HL := Lib.hid hlen
  clear hlen
  go_enter Try.func11, Try.ntmps11
  go_wp2_with fail
  refine (walive_c _).mono ?_
  rintro e w1 ⟨rfl, t1⟩
  have T1 := Lib.hid t1
  clear t1
  go_wp2_with fail
  refine (few31_c No A n c xs _ h hm (HR.out.tch T1.out)).mono ?_
  rintro e w2 ⟨rfl, rfl⟩
  go_wp2_with fail
  refine (times_c A (few50 n) c ya _ (HF.out.tch T1.out) (by omega)).mono ?_
  rintro e w2 ⟨va, rfl, ov, t2⟩
  have OV := Lib.hid ov
  have T2 := Lib.hid (T1.out.and t2)
  clear ov t2
  go_wp2_with fail
  refine (ends_c lo hi _).mono ?_
  rintro e w3 ⟨rfl, rfl⟩
  go_wp2_with fail
  refine (fam_sn (Fam.nil w2 w2 (Tch.refl No w2)) lo hi).mono ?_
  rintro e w3 ⟨g, rfl, a3⟩
  rw [HNW.out] at a3
  have A3 := Lib.hid a3
  clear a3
  go_wp2_with fail
  go_loopw [11] (fun iv wr => ∃ i : Nat, i ≤ few50 n ∧ iv = .int .i64 i ∧ ∃ v, Fam w2 [⟨g, 81, runW true (loW lo) (hiW lo hi) (ya.take i), v⟩] wr) (fun iv _ => few50 n - (intOf iv).toNat)
  case atStart => exact ⟨0, by omega, rfl, _, A3.out⟩
  case round =>
    obtain ⟨i, hil, rfl, v, ha⟩ := hrel
    clear A3
    by_cases hlt : i < few50 n
    · obtain ⟨q, off, x, hA, hxi, d0, d1, d2⟩ := rd_ws (HF.out.tch (T2.out.and ha.tch)) i hlt
      subst hA
      have hx9 := (HX.out x (List.mem_of_getElem? hxi)).2
      have hst : runW true (loW lo) (hiW lo hi) (ya.take (i + 1)) = stepW (runW true (loW lo) (hiW lo hi) (ya.take i)) x.at_ (!x.f) x.g := by rw [take_succ_of hxi, runW_snoc]; rfl
      have htd := told_isW true (loW lo) (hiW lo hi) z0 (ya.take (i + 1))
      rw [← selW_is true ya i (by have := HL.out; omega), mkW_last, hst] at htd
      have hok := runW_ok true (loW lo) (hiW lo hi) a0 a1 z0 z1 (ya.take i) (by simp; omega) (fun y hy => (HX.out y (List.mem_of_mem_take hy)).2)
      have hln : (runW true (loW lo) (hiW lo hi) (ya.take i)).l.length ≤ 1000 := by
        have := hok.2
        rw [List.length_take] at this
        omega
      have HST := Lib.hid (And.intro hst htd)
      have HOK := Lib.hid hok.1
      have HA := Lib.hid ha
      have OVR := Lib.hid (ha.tch.own OV.out (fun k hk f => f))
      have RD : Hid (∀ w9, Tch No w w9 → w9.cell? ⟨q, off + i * 3, none⟩ = some (.int .i64 x.at_) ∧ w9.cell? ⟨q, off + i * 3 + 1, none⟩ = some (.bool x.f) ∧ w9.cell? ⟨q, off + i * 3 + 2, none⟩ = some (.bool x.g)) := rd_ws2 HF.out i hlt hxi
      clear ha hst htd hok hxi
      have hi1 : (i : Int) < (few50 n : Int) := by omega
      generalize hS : runW true (loW lo) (hiW lo hi) (ya.take i) = s at *
      have HSS := Lib.hid hS
      clear hS
      go_wp2_with fail
      refine (wtold_c _ (few50 n) c ya _ _ i (loW lo) (hiW lo hi) true _ (HF.out.tch (T2.out.and HA.out.tch)) OVR.out hlt (by omega) HX.out a0 a1 z0 z1).mono ?_
      rintro e w3 ⟨rfl, t3⟩
      have e1 : (toldL (loW lo) (hiW lo hi) (timeAt ya i) (selW true ya i (i + 1))).is_ = wasW (stepW s x.at_ (!x.f) x.g) := HST.out.2.1
      have e2 : (toldL (loW lo) (hiW lo hi) (timeAt ya i) (selW true ya i (i + 1))).n = (stepW s x.at_ (!x.f) x.g).l.length := HST.out.2.2
      rw [e1, e2]
      have A4 := Lib.hid (HA.out.no t3)
      obtain ⟨x0, x1, x2⟩ := RD.out w3 (T2.out.and A4.out.tch)
      clear t3 d0 d1 d2 e1 e2
      go_wp2_with fail
      go_region_held3 (fun w' => w'.cell? ⟨q, off + i * 3, none⟩ = some (.int .i64 x.at_) ∧ w'.cell? ⟨q, off + i * 3 + 1, none⟩ = some (.bool x.f) ∧ w'.cell? ⟨q, off + i * 3 + 2, none⟩ = some (.bool x.g)) (go_keep)
        (first
          | (go_at_call 39; refine (fam_s (A4.out.no ((Tch.refl No w3).drewN 1)) x.at_ x.f x.g HOK.out hx9 (by omega)).mono ?_; rintro e w4 ⟨rfl, v4, a4⟩; have A5 := Lib.hid a4; have y01 := RD.out w4 (T2.out.and a4.tch); obtain ⟨y0, y1, y2⟩ := y01; clear a4)
          | (go_at_call 40; go_must (refine (fam_sc A5.out).mono ?_); rintro e w5 ⟨rfl, rfl⟩))
      all_goals
        go_wp2
        exact ⟨⟨i + 1, by omega, by simp, v4, by rw [HST.out.1]; exact A5.out⟩, by simp [intOf]; omega⟩
    · have him : i = few50 n := by omega
      have HA := Lib.hid ha
      clear ha
      rcases Nat.eq_zero_or_pos (few50 n) with h0 | h0
      · have hz : (runW true (loW lo) (hiW lo hi) (ya.take i)).l = [] := by rw [him, h0]; rfl
        have HZ := Lib.hid hz
        have HI := Lib.hid (And.intro h0 him)
        have hm1 : ¬ ((i : Int) < (few50 n : Int)) := by omega
        have hm2 : ¬ (0 < few50 n) := by omega
        have hm3 : decide ((0 : Int) < (few50 n : Int)) = false := by simp; omega
        clear hz h0 him
        go_wp2_with fail
        refine (fam_sc HA.out).mono ?_
        rintro e w4 ⟨rfl, rfl⟩
        rw [HZ.out]
        go_wp2
        go_returns
        exact ⟨rfl, (T2.out.and HA.out.tch).noBelow⟩
      · have hm1 : ¬ ((i : Int) < (few50 n : Int)) := by omega
        have hm3 : decide ((0 : Int) < (few50 n : Int)) = true := by simp; omega
        clear him
        go_wp2_with fail
        go_returns
        exact ⟨rfl, (T2.out.and HA.out.tch).noBelow⟩
end Go.Proofs.Ytppbgkadpomblaa
