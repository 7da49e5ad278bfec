/- WindowAlike: the walk. Conditions: numbers of 64 bits. -/
import Derived.Test.YtppbgkadpomblaaProg
import Derived.Test.YtppbgkadpomblaaC8
import Derived.Tactics
import Derived.Tactics2
import Derived.WalkKit
import Derived.WalkSpells
import Derived.WalkLawsBesides
import Derived.StillTactics
import Derived.StillTailTactics
import Derived.OwnWalk
import Derived.Laws.Pointers
import Derived.Laws.ResultCell
import Derived.Deep.RegionHeld3
import Derived.Deep.RegionWith
import Derived.Deep.RegionLaw
import Derived.Deep.AppendLies
import Derived.Deep.QuietTactic
import Derived.BigQuiet
import Derived.LoopTactic
import Derived.Deep.LoopGhost
import Derived.Deep.DeepCutAuto
import Derived.Deep.DeepFit
import Derived.Maps.AppendAt
import Derived.Below
import Derived.Lib.Hide
import Derived.Handy
import Derived.KernelRfl
import Derived.IntWalk
import Derived.Laws.AppendOwnNone
import Derived.Laws.IdiomStrings
namespace Go.Proofs.Ytppbgkadpomblaa
set_option linter.unusedVariables false
set_option linter.unusedSimpArgs false
open Go.RowKit

theorem run_same (lo hi : Int) (l : List WSt) : runW false lo hi l = l.foldl (fun s x => stepW s x.at_ false x.f) ⟨lo, hi, 0, []⟩ := rfl
theorem was_more (lo hi hj : Int) (h : hi = -1 ∨ 0 ≤ hi) (hh : hj = -1 ∨ (hi ≠ -1 ∧ hi ≤ hj)) (l : List WSt) (hw : wasW (runW false lo hi l) = true) : wasW (runW false lo hj l) = true := by
  rw [was_any false lo hi h] at hw
  rw [was_any false lo hj (by omega)]
  rw [List.any_eq_true] at hw ⊢
  obtain ⟨t, ht, hd⟩ := hw
  refine ⟨t, ?_, hd⟩
  unfold allowW at ht ⊢
  split
  · split at ht
    · exact ht
    · exact (List.mem_filter.1 ht).1
  · rename_i hn
    rw [if_neg (by omega)] at ht
    obtain ⟨h1, h2⟩ := List.mem_filter.1 ht
    refine List.mem_filter.2 ⟨h1, ?_⟩
    simp at h2 ⊢
    omega
def farW (q more : Int) : Int := if q ≠ -1 ∧ q ≤ more then more else -1
set_option maxHeartbeats 6400000 in
set_option maxRecDepth 100000 in
theorem walike_a (lo hi more : Int) (A : Option Addr) (n c : Nat) (w : World) (b0 : -9223372036854775808 ≤ lo) (b1 : lo ≤ 9223372036854775807) (b2 : -9223372036854775808 ≤ hi) (b3 : hi ≤ 9223372036854775807) (b4 : -9223372036854775808 ≤ more) (b5 : more ≤ 9223372036854775807) (h : n ≤ c) (hm : c ≤ 9223372036854775807) (xs : List WSt) (hr : Rd w No 3 A n (xs.flatMap wcells) ∧ ∀ x ∈ xs, Fit x.at_) (hcase : hiW lo hi = -1) :
    Calls Try.prog 12 #[.int .i64 lo, .int .i64 hi, .int .i64 more, .slice A n c] w fun e w' => e = .returned (.bool true) ∧ Below w.heap.size w w' := by
  have HR := Lib.hid hr.1
  have HX : Hid (∀ x ∈ xs.take (few50 n), Fit x.at_) := fun x hx => hr.2 x (List.mem_of_mem_take hx)
  have HF := Lib.hid (few31_rd hr.1)
  have hf := (few50_le n).1
  have hok := new_ok lo hi b1 b3
  have a0 : 0 ≤ loW lo := hok.a0
  have a1 : loW lo ≤ 9223372036854775807 := hok.a1
  have z0 : hiW lo hi = -1 ∨ 0 ≤ hiW lo hi := by have : -1 ≤ hiW lo hi := hok.h0; omega
  have z1 : hiW lo hi ≤ 9223372036854775807 := hok.h1
  have z2 : hiW lo hi = -1 ∨ loW lo ≤ hiW lo hi := by unfold hiW; split <;> omega
  clear hr hok
  generalize xs.take (few50 n) = ya at *
  have HNW : Hid (newW lo hi = runW false (loW lo) (hiW lo hi) (ya.take 0)) := rfl
  generalize hp : loW lo = p at *
  generalize hq : hiW lo hi = q at *
  have HPQ := Lib.hid (And.intro hp hq)
  clear hp hq
  obtain ⟨far, hfar⟩ : ∃ far, -1 = far := ⟨_, rfl⟩
  have hj : far = -1 ∨ (q ≠ -1 ∧ q ≤ far) := by exact .inl hfar.symm
  have hj0 : far = -1 ∨ 0 ≤ far := by omega
  have hj1 : far ≤ 9223372036854775807 := by omega
  have HNG : Hid (newW p far = runW false p far (ya.take 0)) := by
    show newW p far = ⟨p, far, 0, []⟩
    unfold newW hiW loW
    have e1 : max p 0 = p := by omega
    rw [e1]
    congr 1
    split <;> omega
  have WM : Hid (∀ l, wasW (runW false p q l) = true → wasW (runW false p far l) = true) := fun l => was_more p q far z0 hj l
  have RK : Hid (∀ l : List WSt, l.length ≤ 1000 → (∀ x ∈ l, x.at_ ≤ 9223372036854775807) → (runW false p far l).Ok ∧ (runW false p far l).l.length ≤ l.length) := fun l h1 h2 => runW_ok false p far a0 a1 hj0 hj1 l h1 h2
  clear hj0 hj1
  have hqb : (q != -1) = false := by simp [hcase]
  clear hcase
  subst hfar
  clear hj
  go_enter Try.func12, Try.ntmps12
  go_wp2_with fail
  refine (walive_c _).mono ?_
  rintro e w1 ⟨rfl, t1⟩
  have T1 := Lib.hid t1
  clear t1
  go_wp2_with fail
  refine (few31_c No A n c xs _ h hm (HR.out.tch T1.out)).mono ?_
  rintro e w2 ⟨rfl, rfl⟩
  go_wp2_with fail
  refine (fam_on (Fam.nil w w1 T1.out) lo hi).mono ?_
  rintro e w2 ⟨gw, rfl, a1'⟩
  rw [HNW.out] at a1'
  have A1 := Lib.hid a1'
  clear a1'
  go_wp2_with fail
  refine (fam_sn A1.out lo hi).mono ?_
  rintro e w3 ⟨gs, rfl, a2⟩
  rw [HNW.out] at a2
  have A2 := Lib.hid a2.rot
  clear a2 A1
  go_wp2_with fail
  refine (ends_c lo hi _).mono ?_
  rintro e w4 ⟨rfl, rfl⟩
  rw [HPQ.out.1, HPQ.out.2]
  go_wp2_with fail
  refine (fam_on A2.out p (-1)).mono ?_
  rintro e w4 ⟨gg, rfl, a3⟩
  rw [HNG.out] at a3
  have A3 : Hid (Fam w [⟨gw, 80, runW false p q (ya.take 0), .slice none 0 0⟩, ⟨gs, 81, runW false p q (ya.take 0), .slice none 0 0⟩, ⟨gg, 80, runW false p (-1) (ya.take 0), .slice none 0 0⟩] w4) := a3.rot
  clear a3 A2
  go_wp2_with fail
  go_loopw [15] (fun iv wr => ∃ i : Nat, i ≤ few50 n ∧ iv = .int .i64 i ∧ ∃ v1 v2 v3, Fam w [⟨gw, 80, runW false p q (ya.take i), v1⟩, ⟨gs, 81, runW false p q (ya.take i), v2⟩, ⟨gg, 80, runW false p (-1) (ya.take i), v3⟩] wr) (fun iv _ => few50 n - (intOf iv).toNat)
  case atStart => exact ⟨0, by omega, rfl, _, _, _, A3.out⟩
  case round =>
    obtain ⟨i, hil, rfl, v1, v2, v3, ha⟩ := hrel
    clear A3
    by_cases hlt : i < few50 n
    · obtain ⟨r, off, x, hA, hxi, d0, d1, d2⟩ := rd_ws (HF.out.tch ha.tch) i hlt
      subst hA
      have hx9 := (HX.out x (List.mem_of_getElem? hxi)).2
      have hst : ∀ z, runW false p z (ya.take (i + 1)) = stepW (runW false p z (ya.take i)) x.at_ false x.f := fun z => by rw [take_succ_of hxi, runW_snoc]; rfl
      have hwm := WM.out (ya.take (i + 1))
      rw [hst, hst] at hwm
      have hok1 := runW_ok false p q a0 a1 z0 z1 (ya.take i) (by simp; omega) (fun y hy => (HX.out y (List.mem_of_mem_take hy)).2)
      have hok2 := RK.out (ya.take i) (by simp; omega) (fun y hy => (HX.out y (List.mem_of_mem_take hy)).2)
      have hln1 : (runW false p q (ya.take i)).l.length ≤ 1000 := by
        have := hok1.2
        rw [List.length_take] at this
        omega
      have hln2 : (runW false p (-1) (ya.take i)).l.length ≤ 1000 := by
        have := hok2.2
        rw [List.length_take] at this
        omega
      have HST := Lib.hid (And.intro hst hwm)
      have HOK := Lib.hid (And.intro hok1.1 hok2.1)
      have HA := Lib.hid ha
      have RD : Hid (∀ w9, Tch No w w9 → w9.cell? ⟨r, off + i * 3, none⟩ = some (.int .i64 x.at_) ∧ w9.cell? ⟨r, off + i * 3 + 1, none⟩ = some (.bool x.f) ∧ w9.cell? ⟨r, off + i * 3 + 2, none⟩ = some (.bool x.g)) := rd_ws2 HF.out i hlt hxi
      clear ha hst hwm hok1 hok2 hxi
      have hi1 : (i : Int) < (few50 n : Int) := by omega
      generalize hS : runW false p q (ya.take i) = s at *
      generalize hU : runW false p (-1) (ya.take i) = u at *
      have HSS := Lib.hid (And.intro hS hU)
      clear hS hU
      go_wp2_with fail
      go_region_held3 (fun w' => w'.cell? ⟨r, off + i * 3, none⟩ = some (.int .i64 x.at_) ∧ w'.cell? ⟨r, off + i * 3 + 1, none⟩ = some (.bool x.f) ∧ w'.cell? ⟨r, off + i * 3 + 2, none⟩ = some (.bool x.g)) (go_keep)
        (first
          | (go_at_call_of 36 (Value.pointer (some ⟨gw, 0, none⟩)); refine (fam_o (HA.out.no ((Tch.refl No wr).drewN 1)) x.at_ x.f HOK.out.1 hx9 (by omega)).mono ?_; rintro e w5 ⟨rfl, v5, a5⟩; have A5 := Lib.hid a5.rot; have y01 := RD.out w5 a5.tch; obtain ⟨y0, y1, y2⟩ := y01; clear a5)
          | (go_at_call_of 39 (Value.pointer (some ⟨gs, 0, none⟩)); refine (fam_s A5.out x.at_ true x.f HOK.out.1 hx9 (by omega)).mono ?_; rintro e w6 ⟨rfl, v6, a6⟩; have A6 := Lib.hid a6.rot; have y01 := RD.out w6 a6.tch; obtain ⟨z3, z4, z5⟩ := y01; clear a6)
          | (go_at_call_of 36 (Value.pointer (some ⟨gg, 0, none⟩)); go_must (refine (fam_o A6.out x.at_ x.f HOK.out.2 hx9 (by omega)).mono ?_); rintro e w7 ⟨rfl, v7, a7⟩; have A7 := Lib.hid a7.rot; have y01 := RD.out w7 a7.tch; obtain ⟨u0, u1, u2⟩ := y01; clear a7))
      all_goals
        have hwm := HST.out.2
        have A8 : Hid (Fam w [⟨gw, 80, stepW s x.at_ false x.f, v5⟩, ⟨gs, 81, stepW s x.at_ false x.f, v6⟩, ⟨gg, 80, stepW u x.at_ false x.f, v7⟩] w7) := A7.out
        clear A7 A6 A5
        rcases hz : wasW (stepW s x.at_ false x.f) with _ | _
        · go_wp2_with fail
          refine (fam_oc A8.out).mono ?_
          rintro e wa ⟨rfl, rfl⟩
          go_wp2_with fail
          refine (fam_sc A8.out.rot).mono ?_
          rintro e wa ⟨rfl, rfl⟩
          go_wp2
          exact ⟨⟨i + 1, by omega, by simp, v5, v6, v7, by rw [HST.out.1, HST.out.1, HSS.out.1, HSS.out.2]; exact A8.out⟩, by simp [intOf]; omega⟩
        · have hz2 := hwm hz
          rw [hz2]
          go_wp2_with fail
          refine (fam_oc A8.out).mono ?_
          rintro e wa ⟨rfl, rfl⟩
          go_wp2_with fail
          refine (fam_sc A8.out.rot).mono ?_
          rintro e wa ⟨rfl, rfl⟩
          go_wp2
          exact ⟨⟨i + 1, by omega, by simp, v5, v6, v7, by rw [HST.out.1, HST.out.1, HSS.out.1, HSS.out.2]; exact A8.out⟩, by simp [intOf]; omega⟩
    · have HT := Lib.hid ha.tch
      clear ha
      have hm1 : ¬ ((i : Int) < (few50 n : Int)) := by omega
      go_wp2
      go_returns
      exact ⟨rfl, HT.out.noBelow⟩
set_option maxHeartbeats 6400000 in
set_option maxRecDepth 100000 in
theorem walike_b (lo hi more : Int) (A : Option Addr) (n c : Nat) (w : World) (b0 : -9223372036854775808 ≤ lo) (b1 : lo ≤ 9223372036854775807) (b2 : -9223372036854775808 ≤ hi) (b3 : hi ≤ 9223372036854775807) (b4 : -9223372036854775808 ≤ more) (b5 : more ≤ 9223372036854775807) (h : n ≤ c) (hm : c ≤ 9223372036854775807) (xs : List WSt) (hr : Rd w No 3 A n (xs.flatMap wcells) ∧ ∀ x ∈ xs, Fit x.at_) (hcase : hiW lo hi ≠ -1 ∧ ¬ hiW lo hi ≤ more) :
    Calls Try.prog 12 #[.int .i64 lo, .int .i64 hi, .int .i64 more, .slice A n c] w fun e w' => e = .returned (.bool true) ∧ Below w.heap.size w w' := by
  have HR := Lib.hid hr.1
  have HX : Hid (∀ x ∈ xs.take (few50 n), Fit x.at_) := fun x hx => hr.2 x (List.mem_of_mem_take hx)
  have HF := Lib.hid (few31_rd hr.1)
  have hf := (few50_le n).1
  have hok := new_ok lo hi b1 b3
  have a0 : 0 ≤ loW lo := hok.a0
  have a1 : loW lo ≤ 9223372036854775807 := hok.a1
  have z0 : hiW lo hi = -1 ∨ 0 ≤ hiW lo hi := by have : -1 ≤ hiW lo hi := hok.h0; omega
  have z1 : hiW lo hi ≤ 9223372036854775807 := hok.h1
  have z2 : hiW lo hi = -1 ∨ loW lo ≤ hiW lo hi := by unfold hiW; split <;> omega
  clear hr hok
  generalize xs.take (few50 n) = ya at *
  have HNW : Hid (newW lo hi = runW false (loW lo) (hiW lo hi) (ya.take 0)) := rfl
  generalize hp : loW lo = p at *
  generalize hq : hiW lo hi = q at *
  have HPQ := Lib.hid (And.intro hp hq)
  clear hp hq
  obtain ⟨far, hfar⟩ : ∃ far, -1 = far := ⟨_, rfl⟩
  have hj : far = -1 ∨ (q ≠ -1 ∧ q ≤ far) := by exact .inl hfar.symm
  have hj0 : far = -1 ∨ 0 ≤ far := by omega
  have hj1 : far ≤ 9223372036854775807 := by omega
  have HNG : Hid (newW p far = runW false p far (ya.take 0)) := by
    show newW p far = ⟨p, far, 0, []⟩
    unfold newW hiW loW
    have e1 : max p 0 = p := by omega
    rw [e1]
    congr 1
    split <;> omega
  have WM : Hid (∀ l, wasW (runW false p q l) = true → wasW (runW false p far l) = true) := fun l => was_more p q far z0 hj l
  have RK : Hid (∀ l : List WSt, l.length ≤ 1000 → (∀ x ∈ l, x.at_ ≤ 9223372036854775807) → (runW false p far l).Ok ∧ (runW false p far l).l.length ≤ l.length) := fun l h1 h2 => runW_ok false p far a0 a1 hj0 hj1 l h1 h2
  clear hj0 hj1
  have hqb : (q != -1) = true := by simpa using hcase.1
  have hqm := hcase.2
  clear hcase
  subst hfar
  clear hj
  go_enter Try.func12, Try.ntmps12
  go_wp2_with fail
  refine (walive_c _).mono ?_
  rintro e w1 ⟨rfl, t1⟩
  have T1 := Lib.hid t1
  clear t1
  go_wp2_with fail
  refine (few31_c No A n c xs _ h hm (HR.out.tch T1.out)).mono ?_
  rintro e w2 ⟨rfl, rfl⟩
  go_wp2_with fail
  refine (fam_on (Fam.nil w w1 T1.out) lo hi).mono ?_
  rintro e w2 ⟨gw, rfl, a1'⟩
  rw [HNW.out] at a1'
  have A1 := Lib.hid a1'
  clear a1'
  go_wp2_with fail
  refine (fam_sn A1.out lo hi).mono ?_
  rintro e w3 ⟨gs, rfl, a2⟩
  rw [HNW.out] at a2
  have A2 := Lib.hid a2.rot
  clear a2 A1
  go_wp2_with fail
  refine (ends_c lo hi _).mono ?_
  rintro e w4 ⟨rfl, rfl⟩
  rw [HPQ.out.1, HPQ.out.2]
  go_wp2_with fail
  refine (fam_on A2.out p (-1)).mono ?_
  rintro e w4 ⟨gg, rfl, a3⟩
  rw [HNG.out] at a3
  have A3 : Hid (Fam w [⟨gw, 80, runW false p q (ya.take 0), .slice none 0 0⟩, ⟨gs, 81, runW false p q (ya.take 0), .slice none 0 0⟩, ⟨gg, 80, runW false p (-1) (ya.take 0), .slice none 0 0⟩] w4) := a3.rot
  clear a3 A2
  go_wp2_with fail
  go_loopw [15] (fun iv wr => ∃ i : Nat, i ≤ few50 n ∧ iv = .int .i64 i ∧ ∃ v1 v2 v3, Fam w [⟨gw, 80, runW false p q (ya.take i), v1⟩, ⟨gs, 81, runW false p q (ya.take i), v2⟩, ⟨gg, 80, runW false p (-1) (ya.take i), v3⟩] wr) (fun iv _ => few50 n - (intOf iv).toNat)
  case atStart => exact ⟨0, by omega, rfl, _, _, _, A3.out⟩
  case round =>
    obtain ⟨i, hil, rfl, v1, v2, v3, ha⟩ := hrel
    clear A3
    by_cases hlt : i < few50 n
    · obtain ⟨r, off, x, hA, hxi, d0, d1, d2⟩ := rd_ws (HF.out.tch ha.tch) i hlt
      subst hA
      have hx9 := (HX.out x (List.mem_of_getElem? hxi)).2
      have hst : ∀ z, runW false p z (ya.take (i + 1)) = stepW (runW false p z (ya.take i)) x.at_ false x.f := fun z => by rw [take_succ_of hxi, runW_snoc]; rfl
      have hwm := WM.out (ya.take (i + 1))
      rw [hst, hst] at hwm
      have hok1 := runW_ok false p q a0 a1 z0 z1 (ya.take i) (by simp; omega) (fun y hy => (HX.out y (List.mem_of_mem_take hy)).2)
      have hok2 := RK.out (ya.take i) (by simp; omega) (fun y hy => (HX.out y (List.mem_of_mem_take hy)).2)
      have hln1 : (runW false p q (ya.take i)).l.length ≤ 1000 := by
        have := hok1.2
        rw [List.length_take] at this
        omega
      have hln2 : (runW false p (-1) (ya.take i)).l.length ≤ 1000 := by
        have := hok2.2
        rw [List.length_take] at this
        omega
      have HST := Lib.hid (And.intro hst hwm)
      have HOK := Lib.hid (And.intro hok1.1 hok2.1)
      have HA := Lib.hid ha
      have RD : Hid (∀ w9, Tch No w w9 → w9.cell? ⟨r, off + i * 3, none⟩ = some (.int .i64 x.at_) ∧ w9.cell? ⟨r, off + i * 3 + 1, none⟩ = some (.bool x.f) ∧ w9.cell? ⟨r, off + i * 3 + 2, none⟩ = some (.bool x.g)) := rd_ws2 HF.out i hlt hxi
      clear ha hst hwm hok1 hok2 hxi
      have hi1 : (i : Int) < (few50 n : Int) := by omega
      generalize hS : runW false p q (ya.take i) = s at *
      generalize hU : runW false p (-1) (ya.take i) = u at *
      have HSS := Lib.hid (And.intro hS hU)
      clear hS hU
      go_wp2_with fail
      go_region_held3 (fun w' => w'.cell? ⟨r, off + i * 3, none⟩ = some (.int .i64 x.at_) ∧ w'.cell? ⟨r, off + i * 3 + 1, none⟩ = some (.bool x.f) ∧ w'.cell? ⟨r, off + i * 3 + 2, none⟩ = some (.bool x.g)) (go_keep)
        (first
          | (go_at_call_of 36 (Value.pointer (some ⟨gw, 0, none⟩)); refine (fam_o (HA.out.no ((Tch.refl No wr).drewN 1)) x.at_ x.f HOK.out.1 hx9 (by omega)).mono ?_; rintro e w5 ⟨rfl, v5, a5⟩; have A5 := Lib.hid a5.rot; have y01 := RD.out w5 a5.tch; obtain ⟨y0, y1, y2⟩ := y01; clear a5)
          | (go_at_call_of 39 (Value.pointer (some ⟨gs, 0, none⟩)); refine (fam_s A5.out x.at_ true x.f HOK.out.1 hx9 (by omega)).mono ?_; rintro e w6 ⟨rfl, v6, a6⟩; have A6 := Lib.hid a6.rot; have y01 := RD.out w6 a6.tch; obtain ⟨z3, z4, z5⟩ := y01; clear a6)
          | (go_at_call_of 36 (Value.pointer (some ⟨gg, 0, none⟩)); go_must (refine (fam_o A6.out x.at_ x.f HOK.out.2 hx9 (by omega)).mono ?_); rintro e w7 ⟨rfl, v7, a7⟩; have A7 := Lib.hid a7.rot; have y01 := RD.out w7 a7.tch; obtain ⟨u0, u1, u2⟩ := y01; clear a7))
      all_goals
        have hwm := HST.out.2
        have A8 : Hid (Fam w [⟨gw, 80, stepW s x.at_ false x.f, v5⟩, ⟨gs, 81, stepW s x.at_ false x.f, v6⟩, ⟨gg, 80, stepW u x.at_ false x.f, v7⟩] w7) := A7.out
        clear A7 A6 A5
        rcases hz : wasW (stepW s x.at_ false x.f) with _ | _
        · go_wp2_with fail
          refine (fam_oc A8.out).mono ?_
          rintro e wa ⟨rfl, rfl⟩
          go_wp2_with fail
          refine (fam_sc A8.out.rot).mono ?_
          rintro e wa ⟨rfl, rfl⟩
          go_wp2
          exact ⟨⟨i + 1, by omega, by simp, v5, v6, v7, by rw [HST.out.1, HST.out.1, HSS.out.1, HSS.out.2]; exact A8.out⟩, by simp [intOf]; omega⟩
        · have hz2 := hwm hz
          rw [hz2]
          go_wp2_with fail
          refine (fam_oc A8.out).mono ?_
          rintro e wa ⟨rfl, rfl⟩
          go_wp2_with fail
          refine (fam_sc A8.out.rot).mono ?_
          rintro e wa ⟨rfl, rfl⟩
          go_wp2
          exact ⟨⟨i + 1, by omega, by simp, v5, v6, v7, by rw [HST.out.1, HST.out.1, HSS.out.1, HSS.out.2]; exact A8.out⟩, by simp [intOf]; omega⟩
    · have HT := Lib.hid ha.tch
      clear ha
      have hm1 : ¬ ((i : Int) < (few50 n : Int)) := by omega
      go_wp2
      go_returns
      exact ⟨rfl, HT.out.noBelow⟩
set_option maxHeartbeats 6400000 in
set_option maxRecDepth 100000 in
theorem walike_c (lo hi more : Int) (A : Option Addr) (n c : Nat) (w : World) (b0 : -9223372036854775808 ≤ lo) (b1 : lo ≤ 9223372036854775807) (b2 : -9223372036854775808 ≤ hi) (b3 : hi ≤ 9223372036854775807) (b4 : -9223372036854775808 ≤ more) (b5 : more ≤ 9223372036854775807) (h : n ≤ c) (hm : c ≤ 9223372036854775807) (xs : List WSt) (hr : Rd w No 3 A n (xs.flatMap wcells) ∧ ∀ x ∈ xs, Fit x.at_) (hcase : hiW lo hi ≠ -1 ∧ hiW lo hi ≤ more) :
    Calls Try.prog 12 #[.int .i64 lo, .int .i64 hi, .int .i64 more, .slice A n c] w fun e w' => e = .returned (.bool true) ∧ Below w.heap.size w w' := by
  have HR := Lib.hid hr.1
  have HX : Hid (∀ x ∈ xs.take (few50 n), Fit x.at_) := fun x hx => hr.2 x (List.mem_of_mem_take hx)
  have HF := Lib.hid (few31_rd hr.1)
  have hf := (few50_le n).1
  have hok := new_ok lo hi b1 b3
  have a0 : 0 ≤ loW lo := hok.a0
  have a1 : loW lo ≤ 9223372036854775807 := hok.a1
  have z0 : hiW lo hi = -1 ∨ 0 ≤ hiW lo hi := by have : -1 ≤ hiW lo hi := hok.h0; omega
  have z1 : hiW lo hi ≤ 9223372036854775807 := hok.h1
  have z2 : hiW lo hi = -1 ∨ loW lo ≤ hiW lo hi := by unfold hiW; split <;> omega
  clear hr hok
  generalize xs.take (few50 n) = ya at *
  have HNW : Hid (newW lo hi = runW false (loW lo) (hiW lo hi) (ya.take 0)) := rfl
  generalize hp : loW lo = p at *
  generalize hq : hiW lo hi = q at *
  have HPQ := Lib.hid (And.intro hp hq)
  clear hp hq
  obtain ⟨far, hfar⟩ : ∃ far, more = far := ⟨_, rfl⟩
  have hj : far = -1 ∨ (q ≠ -1 ∧ q ≤ far) := by omega
  have hj0 : far = -1 ∨ 0 ≤ far := by omega
  have hj1 : far ≤ 9223372036854775807 := by omega
  have HNG : Hid (newW p far = runW false p far (ya.take 0)) := by
    show newW p far = ⟨p, far, 0, []⟩
    unfold newW hiW loW
    have e1 : max p 0 = p := by omega
    rw [e1]
    congr 1
    split <;> omega
  have WM : Hid (∀ l, wasW (runW false p q l) = true → wasW (runW false p far l) = true) := fun l => was_more p q far z0 hj l
  have RK : Hid (∀ l : List WSt, l.length ≤ 1000 → (∀ x ∈ l, x.at_ ≤ 9223372036854775807) → (runW false p far l).Ok ∧ (runW false p far l).l.length ≤ l.length) := fun l h1 h2 => runW_ok false p far a0 a1 hj0 hj1 l h1 h2
  clear hj0 hj1
  have hqb : (q != -1) = true := by simpa using hcase.1
  have hqm := hcase.2
  clear hcase
  subst hfar
  clear hj
  go_enter Try.func12, Try.ntmps12
  go_wp2_with fail
  refine (walive_c _).mono ?_
  rintro e w1 ⟨rfl, t1⟩
  have T1 := Lib.hid t1
  clear t1
  go_wp2_with fail
  refine (few31_c No A n c xs _ h hm (HR.out.tch T1.out)).mono ?_
  rintro e w2 ⟨rfl, rfl⟩
  go_wp2_with fail
  refine (fam_on (Fam.nil w w1 T1.out) lo hi).mono ?_
  rintro e w2 ⟨gw, rfl, a1'⟩
  rw [HNW.out] at a1'
  have A1 := Lib.hid a1'
  clear a1'
  go_wp2_with fail
  refine (fam_sn A1.out lo hi).mono ?_
  rintro e w3 ⟨gs, rfl, a2⟩
  rw [HNW.out] at a2
  have A2 := Lib.hid a2.rot
  clear a2 A1
  go_wp2_with fail
  refine (ends_c lo hi _).mono ?_
  rintro e w4 ⟨rfl, rfl⟩
  rw [HPQ.out.1, HPQ.out.2]
  go_wp2_with fail
  refine (fam_on A2.out p (more)).mono ?_
  rintro e w4 ⟨gg, rfl, a3⟩
  rw [HNG.out] at a3
  have A3 : Hid (Fam w [⟨gw, 80, runW false p q (ya.take 0), .slice none 0 0⟩, ⟨gs, 81, runW false p q (ya.take 0), .slice none 0 0⟩, ⟨gg, 80, runW false p (more) (ya.take 0), .slice none 0 0⟩] w4) := a3.rot
  clear a3 A2
  go_wp2_with fail
  go_loopw [15] (fun iv wr => ∃ i : Nat, i ≤ few50 n ∧ iv = .int .i64 i ∧ ∃ v1 v2 v3, Fam w [⟨gw, 80, runW false p q (ya.take i), v1⟩, ⟨gs, 81, runW false p q (ya.take i), v2⟩, ⟨gg, 80, runW false p (more) (ya.take i), v3⟩] wr) (fun iv _ => few50 n - (intOf iv).toNat)
  case atStart => exact ⟨0, by omega, rfl, _, _, _, A3.out⟩
  case round =>
    obtain ⟨i, hil, rfl, v1, v2, v3, ha⟩ := hrel
    clear A3
    by_cases hlt : i < few50 n
    · obtain ⟨r, off, x, hA, hxi, d0, d1, d2⟩ := rd_ws (HF.out.tch ha.tch) i hlt
      subst hA
      have hx9 := (HX.out x (List.mem_of_getElem? hxi)).2
      have hst : ∀ z, runW false p z (ya.take (i + 1)) = stepW (runW false p z (ya.take i)) x.at_ false x.f := fun z => by rw [take_succ_of hxi, runW_snoc]; rfl
      have hwm := WM.out (ya.take (i + 1))
      rw [hst, hst] at hwm
      have hok1 := runW_ok false p q a0 a1 z0 z1 (ya.take i) (by simp; omega) (fun y hy => (HX.out y (List.mem_of_mem_take hy)).2)
      have hok2 := RK.out (ya.take i) (by simp; omega) (fun y hy => (HX.out y (List.mem_of_mem_take hy)).2)
      have hln1 : (runW false p q (ya.take i)).l.length ≤ 1000 := by
        have := hok1.2
        rw [List.length_take] at this
        omega
      have hln2 : (runW false p (more) (ya.take i)).l.length ≤ 1000 := by
        have := hok2.2
        rw [List.length_take] at this
        omega
      have HST := Lib.hid (And.intro hst hwm)
      have HOK := Lib.hid (And.intro hok1.1 hok2.1)
      have HA := Lib.hid ha
      have RD : Hid (∀ w9, Tch No w w9 → w9.cell? ⟨r, off + i * 3, none⟩ = some (.int .i64 x.at_) ∧ w9.cell? ⟨r, off + i * 3 + 1, none⟩ = some (.bool x.f) ∧ w9.cell? ⟨r, off + i * 3 + 2, none⟩ = some (.bool x.g)) := rd_ws2 HF.out i hlt hxi
      clear ha hst hwm hok1 hok2 hxi
      have hi1 : (i : Int) < (few50 n : Int) := by omega
      generalize hS : runW false p q (ya.take i) = s at *
      generalize hU : runW false p (more) (ya.take i) = u at *
      have HSS := Lib.hid (And.intro hS hU)
      clear hS hU
      go_wp2_with fail
      go_region_held3 (fun w' => w'.cell? ⟨r, off + i * 3, none⟩ = some (.int .i64 x.at_) ∧ w'.cell? ⟨r, off + i * 3 + 1, none⟩ = some (.bool x.f) ∧ w'.cell? ⟨r, off + i * 3 + 2, none⟩ = some (.bool x.g)) (go_keep)
        (first
          | (go_at_call_of 36 (Value.pointer (some ⟨gw, 0, none⟩)); refine (fam_o (HA.out.no ((Tch.refl No wr).drewN 1)) x.at_ x.f HOK.out.1 hx9 (by omega)).mono ?_; rintro e w5 ⟨rfl, v5, a5⟩; have A5 := Lib.hid a5.rot; have y01 := RD.out w5 a5.tch; obtain ⟨y0, y1, y2⟩ := y01; clear a5)
          | (go_at_call_of 39 (Value.pointer (some ⟨gs, 0, none⟩)); refine (fam_s A5.out x.at_ true x.f HOK.out.1 hx9 (by omega)).mono ?_; rintro e w6 ⟨rfl, v6, a6⟩; have A6 := Lib.hid a6.rot; have y01 := RD.out w6 a6.tch; obtain ⟨z3, z4, z5⟩ := y01; clear a6)
          | (go_at_call_of 36 (Value.pointer (some ⟨gg, 0, none⟩)); go_must (refine (fam_o A6.out x.at_ x.f HOK.out.2 hx9 (by omega)).mono ?_); rintro e w7 ⟨rfl, v7, a7⟩; have A7 := Lib.hid a7.rot; have y01 := RD.out w7 a7.tch; obtain ⟨u0, u1, u2⟩ := y01; clear a7))
      all_goals
        have hwm := HST.out.2
        have A8 : Hid (Fam w [⟨gw, 80, stepW s x.at_ false x.f, v5⟩, ⟨gs, 81, stepW s x.at_ false x.f, v6⟩, ⟨gg, 80, stepW u x.at_ false x.f, v7⟩] w7) := A7.out
        clear A7 A6 A5
        rcases hz : wasW (stepW s x.at_ false x.f) with _ | _
        · go_wp2_with fail
          refine (fam_oc A8.out).mono ?_
          rintro e wa ⟨rfl, rfl⟩
          go_wp2_with fail
          refine (fam_sc A8.out.rot).mono ?_
          rintro e wa ⟨rfl, rfl⟩
          go_wp2
          exact ⟨⟨i + 1, by omega, by simp, v5, v6, v7, by rw [HST.out.1, HST.out.1, HSS.out.1, HSS.out.2]; exact A8.out⟩, by simp [intOf]; omega⟩
        · have hz2 := hwm hz
          rw [hz2]
          go_wp2_with fail
          refine (fam_oc A8.out).mono ?_
          rintro e wa ⟨rfl, rfl⟩
          go_wp2_with fail
          refine (fam_sc A8.out.rot).mono ?_
          rintro e wa ⟨rfl, rfl⟩
          go_wp2
          exact ⟨⟨i + 1, by omega, by simp, v5, v6, v7, by rw [HST.out.1, HST.out.1, HSS.out.1, HSS.out.2]; exact A8.out⟩, by simp [intOf]; omega⟩
    · have HT := Lib.hid ha.tch
      clear ha
      have hm1 : ¬ ((i : Int) < (few50 n : Int)) := by omega
      go_wp2
      go_returns
      exact ⟨rfl, HT.out.noBelow⟩
theorem walike_walk (lo hi more : Int) (A : Option Addr) (n c : Nat) (w : World) (b0 : -9223372036854775808 ≤ lo) (b1 : lo ≤ 9223372036854775807) (b2 : -9223372036854775808 ≤ hi) (b3 : hi ≤ 9223372036854775807) (b4 : -9223372036854775808 ≤ more) (b5 : more ≤ 9223372036854775807) (h : n ≤ c) (hm : c ≤ 9223372036854775807) (xs : List WSt) (hr : Rd w No 3 A n (xs.flatMap wcells) ∧ ∀ x ∈ xs, Fit x.at_) :
    Calls Try.prog 12 #[.int .i64 lo, .int .i64 hi, .int .i64 more, .slice A n c] w fun e w' => e = .returned (.bool true) ∧ Below w.heap.size w w' := by
  by_cases h1 : hiW lo hi = -1
  · exact walike_a lo hi more A n c w b0 b1 b2 b3 b4 b5 h hm xs hr h1
  · by_cases h2 : hiW lo hi ≤ more
    · exact walike_c lo hi more A n c w b0 b1 b2 b3 b4 b5 h hm xs hr ⟨h1, h2⟩
    · exact walike_b lo hi more A n c w b0 b1 b2 b3 b4 b5 h hm xs hr ⟨h1, h2⟩
end Go.Proofs.Ytppbgkadpomblaa
