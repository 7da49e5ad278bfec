/- WindowClones: the walk. Conditions: numbers of 64 bits. -/
import Derived.Test.YtppbgkadpomblaaProg
import Derived.Test.YtppbgkadpomblaaC4
import Derived.Tactics
import Derived.Tactics2
import Derived.WalkKit
import Derived.WalkSpells
import Derived.WalkLawsBesides
import Derived.StillTactics
import Derived.StillTailTactics
import Derived.OwnWalk
import Derived.Laws.Pointers
import Derived.Laws.ResultCell
import Derived.Deep.RegionHeld3
import Derived.Deep.RegionWith
import Derived.Deep.RegionLaw
import Derived.Deep.AppendLies
import Derived.Deep.QuietTactic
import Derived.BigQuiet
import Derived.LoopTactic
import Derived.Deep.LoopGhost
import Derived.Deep.DeepCutAuto
import Derived.Deep.DeepFit
import Derived.Maps.AppendAt
import Derived.Below
import Derived.Lib.Hide
import Derived.Handy
import Derived.KernelRfl
import Derived.IntWalk
import Derived.Laws.AppendOwnNone
import Derived.Laws.IdiomStrings
namespace Go.Proofs.Ytppbgkadpomblaa
set_option linter.unusedVariables false
set_option linter.unusedSimpArgs false
open Go.RowKit

theorem step_ok {s : Wn} (h : s.Ok) {m : Int} (ht : m ≤ 9223372036854775807) (c p : Bool) (hn : s.l.length + 1 ≤ 800000) : (stepW s m c p).Ok ∧ (stepW s m c p).l.length ≤ s.l.length + 1 := by
  have a1 := clr_ok (come_ok h ht) c
  have a2 := come_len s m
  have a3 := clr_len (comeW s m) c
  unfold stepW
  cases p
  · rw [if_neg (by decide)]
    exact ⟨a1, by omega⟩
  · rw [if_pos rfl]
    have a4 := put_len _ a1.c
    exact ⟨put_ok a1 (by omega), by omega⟩
set_option maxHeartbeats 6400000 in
set_option maxRecDepth 100000 in
theorem wclones_walk (lo hi : Int) (A : Option Addr) (n c : Nat) (A' : Option Addr) (n' c' : Nat) (w : World) (b0 : -9223372036854775808 ≤ lo) (b1 : lo ≤ 9223372036854775807) (b2 : -9223372036854775808 ≤ hi) (b3 : hi ≤ 9223372036854775807) (h : n ≤ c) (hm : c ≤ 9223372036854775807) (xs : List WSt) (hr : Rd w No 3 A n (xs.flatMap wcells) ∧ ∀ x ∈ xs, Fit x.at_)
    (h' : n' ≤ c') (hm' : c' ≤ 9223372036854775807) (xs' : List WSt) (hr' : Rd w No 3 A' n' (xs'.flatMap wcells) ∧ ∀ x ∈ xs', Fit x.at_) :
    Calls Try.prog 13 #[.int .i64 lo, .int .i64 hi, .slice A n c, .slice A' n' c'] w fun e w' => e = .returned (.bool true) ∧ Below w.heap.size w w' := by
  have HR := Lib.hid hr.1
  have HX : Hid (∀ x ∈ xs.take (few50 n), Fit x.at_) := fun x hx => hr.2 x (List.mem_of_mem_take hx)
  have HF := Lib.hid (few31_rd hr.1)
  have HR' := Lib.hid hr'.1
  have HX' : Hid (∀ x ∈ xs'.take (few50 n'), Fit x.at_) := fun x hx => hr'.2 x (List.mem_of_mem_take hx)
  have HF' := Lib.hid (few31_rd hr'.1)
  have hf := (few50_le n).1
  have hf' := (few50_le n').1
  have HN := Lib.hid (new_ok lo hi b1 b3)
  clear hr hr'
  generalize xs.take (few50 n) = ya at *
  generalize xs'.take (few50 n') = yb at *
  go_enter Try.func13, Try.ntmps13
  go_wp2_with fail
  refine (walive_c _).mono ?_
  rintro e w1 ⟨rfl, t1⟩
  have T1 := Lib.hid t1
  clear t1
  go_wp2_with fail
  refine (few31_c No A n c xs _ h hm (HR.out.tch T1.out)).mono ?_
  rintro e w2 ⟨rfl, rfl⟩
  go_wp2_with fail
  refine (few31_c No A' n' c' xs' _ h' hm' (HR'.out.tch T1.out)).mono ?_
  rintro e w2 ⟨rfl, rfl⟩
  go_wp2_with fail
  refine (fam_on (Fam.nil w w1 T1.out) lo hi).mono ?_
  rintro e w2 ⟨gw, rfl, a1⟩
  have A1 := Lib.hid a1
  clear a1
  go_wp2_with fail
  refine (fam_sn A1.out lo hi).mono ?_
  rintro e w3 ⟨gs, rfl, a2⟩
  have A2 := Lib.hid a2
  clear a2 A1
  go_wp2_with fail
  refine (fam_on A2.out lo hi).mono ?_
  rintro e w4 ⟨gx, rfl, a3⟩
  have A3 := Lib.hid a3.rot.rot
  clear a3 A2
  go_wp2_with fail
  refine (fam_sn A3.out lo hi).mono ?_
  rintro e w5 ⟨gy, rfl, a4⟩
  have A4 : Hid (Fam w [⟨gw, 80, newW lo hi, .slice none 0 0⟩, ⟨gx, 80, newW lo hi, .slice none 0 0⟩, ⟨gs, 81, newW lo hi, .slice none 0 0⟩, ⟨gy, 81, newW lo hi, .slice none 0 0⟩] w5) := a4.rot
  clear a4 A3
  go_wp2_with fail
  go_loopw [13] (fun iv wr => ∃ i : Nat, i ≤ few50 n ∧ iv = .int .i64 i ∧ ∃ s1 s2 v1 v2 v3 v4, s1.Ok ∧ s2.Ok ∧ s1.l.length ≤ i ∧ s2.l.length ≤ i ∧ Fam w [⟨gw, 80, s1, v1⟩, ⟨gx, 80, s1, v2⟩, ⟨gs, 81, s2, v3⟩, ⟨gy, 81, s2, v4⟩] wr) (fun iv _ => few50 n - (intOf iv).toNat)
  case atStart => exact ⟨0, by omega, rfl, _, _, _, _, _, _, HN.out, HN.out, Nat.le_refl _, Nat.le_refl _, A4.out⟩
  case round =>
    obtain ⟨i, hil, rfl, s1, s2, v1, v2, v3, v4, ok1, ok2, ln1, ln2, ha⟩ := hrel
    clear A4
    by_cases hlt : i < few50 n
    · obtain ⟨q, off, x, hA, hxi, d0, d1, d2⟩ := rd_ws (HF.out.tch ha.tch) i hlt
      subst hA
      have hx9 := (HX.out x (List.mem_of_getElem? hxi)).2
      have O1 := Lib.hid (step_ok ok1 hx9 false x.f (by omega))
      have O2 := Lib.hid (step_ok ok2 hx9 (!x.f) x.g (by omega))
      have OK1 := Lib.hid (And.intro ok1 ok2)
      have HA := Lib.hid ha
      have RD : Hid (∀ w9, Tch No w w9 → w9.cell? ⟨q, off + i * 3, none⟩ = some (.int .i64 x.at_) ∧ w9.cell? ⟨q, off + i * 3 + 1, none⟩ = some (.bool x.f) ∧ w9.cell? ⟨q, off + i * 3 + 2, none⟩ = some (.bool x.g)) := rd_ws2 HF.out i hlt hxi
      clear ha ok1 ok2 hxi
      have hi1 : (i : Int) < (few50 n : Int) := by omega
      go_wp2_with fail
      go_region_held3 (fun w' => w'.cell? ⟨q, off + i * 3, none⟩ = some (.int .i64 x.at_) ∧ w'.cell? ⟨q, off + i * 3 + 1, none⟩ = some (.bool x.f) ∧ w'.cell? ⟨q, off + i * 3 + 2, none⟩ = some (.bool x.g)) (go_keep)
        (first
          | (go_at_call_of 36 (Value.pointer (some ⟨gw, 0, none⟩)); go_must (refine (fam_o (HA.out.no ((Tch.refl No wr).drewN 1)) x.at_ x.f OK1.out.1 hx9 (by omega)).mono ?_); rintro e w6 ⟨rfl, v6, a6⟩; have A6 := Lib.hid a6.rot; have y01 := RD.out w6 a6.tch; obtain ⟨y0, y1, y2⟩ := y01; clear a6))
      all_goals
        go_wp2_with fail
        go_region_held3 (fun w' => w'.cell? ⟨q, off + i * 3, none⟩ = some (.int .i64 x.at_) ∧ w'.cell? ⟨q, off + i * 3 + 1, none⟩ = some (.bool x.f) ∧ w'.cell? ⟨q, off + i * 3 + 2, none⟩ = some (.bool x.g)) (go_keep)
          (first
            | (go_at_call_of 36 (Value.pointer (some ⟨gx, 0, none⟩)); go_must (refine (fam_o (A6.out.no ((Tch.refl No w6).drewN 1)) x.at_ x.f OK1.out.1 hx9 (by omega)).mono ?_); rintro e w7 ⟨rfl, v7, a7⟩; have A7 := Lib.hid a7.rot; have y01 := RD.out w7 a7.tch; obtain ⟨z0, z1, z2⟩ := y01; clear a7))
        all_goals
          go_wp2_with fail
          go_region_held3 (fun w' => w'.cell? ⟨q, off + i * 3, none⟩ = some (.int .i64 x.at_) ∧ w'.cell? ⟨q, off + i * 3 + 1, none⟩ = some (.bool x.f) ∧ w'.cell? ⟨q, off + i * 3 + 2, none⟩ = some (.bool x.g)) (go_keep)
            (first
              | (go_at_call_of 39 (Value.pointer (some ⟨gs, 0, none⟩)); go_must (refine (fam_s (A7.out.no ((Tch.refl No w7).drewN 1)) x.at_ x.f x.g OK1.out.2 hx9 (by omega)).mono ?_); rintro e w8 ⟨rfl, v8, a8⟩; have A8 := Lib.hid a8.rot; have y01 := RD.out w8 a8.tch; obtain ⟨u0, u1, u2⟩ := y01; clear a8))
          all_goals
            go_wp2_with fail
            go_region_held3 (fun w' => w'.cell? ⟨q, off + i * 3, none⟩ = some (.int .i64 x.at_) ∧ w'.cell? ⟨q, off + i * 3 + 1, none⟩ = some (.bool x.f) ∧ w'.cell? ⟨q, off + i * 3 + 2, none⟩ = some (.bool x.g)) (go_keep)
              (first
                | (go_at_call_of 39 (Value.pointer (some ⟨gy, 0, none⟩)); go_must (refine (fam_s (A8.out.no ((Tch.refl No w8).drewN 1)) x.at_ x.f x.g OK1.out.2 hx9 (by omega)).mono ?_); rintro e w9 ⟨rfl, v9, a9⟩; have A9 := Lib.hid a9.rot; have y01 := RD.out w9 a9.tch; obtain ⟨m0, m1, m2⟩ := y01; clear a9))
            all_goals
              go_wp2
              exact ⟨⟨i + 1, by omega, by simp, stepW s1 x.at_ false x.f, stepW s2 x.at_ (!x.f) x.g, v6, v7, v8, v9, O1.out.1, O2.out.1, by have := O1.out.2; omega, by have := O2.out.2; omega, A9.out⟩, by simp [intOf]; omega⟩
    · have him : i = few50 n := by omega
      have HA := Lib.hid ha
      have OK1 := Lib.hid (And.intro ok1 ok2)
      clear ha ok1 ok2
      go_wp2_with fail
      refine (fam_ol HA.out (by omega)).mono ?_
      rintro e w2 ⟨gc, vc, rfl, a2⟩
      have A2 := Lib.hid a2.rot.rot.rot
      clear a2
      go_wp2_with fail
      refine (fam_sl A2.out (by omega)).mono ?_
      rintro e w3 ⟨gd, vd, rfl, a3⟩
      have A3 : Hid (Fam w [⟨gw, 80, s1, v1⟩, ⟨gx, 80, s1, v2⟩, ⟨gd, 81, s2, vd⟩, ⟨gs, 81, s2, v3⟩, ⟨gy, 81, s2, v4⟩, ⟨gc, 80, s1, vc⟩] w3) := a3.rot.rot.rot.rot
      clear a3 A2
      go_wp2_with fail
      go_loopw [16] (fun iv wr => ∃ j : Nat, j ≤ few50 n' ∧ iv = .int .i64 j ∧ ∃ s1 s2 s3 s4 v1 v2 v3 v4 v5 v6, s1.Ok ∧ s2.Ok ∧ s3.Ok ∧ s4.Ok ∧ (s1.l.length ≤ 50 + j ∧ s2.l.length ≤ 50 + j ∧ s3.l.length ≤ 50 + j ∧ s4.l.length ≤ 50 + j) ∧ Fam w [⟨gw, 80, s3, v1⟩, ⟨gx, 80, s1, v2⟩, ⟨gd, 81, s2, v3⟩, ⟨gs, 81, s4, v4⟩, ⟨gy, 81, s2, v5⟩, ⟨gc, 80, s1, v6⟩] wr) (fun iv _ => few50 n' - (intOf iv).toNat)
      case atStart => exact ⟨0, by omega, rfl, _, _, _, _, _, _, _, _, _, _, OK1.out.1, OK1.out.2, OK1.out.1, OK1.out.2, ⟨by omega, by omega, by omega, by omega⟩, A3.out⟩
      case round =>
        obtain ⟨j, hjl, rfl, s1, s2, s3, s4, v1, v2, v3, v4, v5, v6, ok1, ok2, ok3, ok4, ⟨ln1, ln2, ln3, ln4⟩, ha⟩ := hrel
        clear A3
        by_cases hlt2 : j < few50 n'
        · obtain ⟨q, off, x, hA, hxi, d0, d1, d2⟩ := rd_ws (HF'.out.tch ha.tch) j hlt2
          subst hA
          have hx9 := (HX'.out x (List.mem_of_getElem? hxi)).2
          have O1 := Lib.hid (step_ok ok1 hx9 false x.f (by omega))
          have O2 := Lib.hid (step_ok ok2 hx9 (!x.f) x.g (by omega))
          have O3 := Lib.hid (step_ok ok3 hx9 false (!x.f) (by omega))
          have O4 := Lib.hid (step_ok ok4 hx9 (!!x.f) (!x.g) (by omega))
          have OK := Lib.hid (And.intro (And.intro ok1 ok2) (And.intro ok3 ok4))
          have HA := Lib.hid ha
          have RD : Hid (∀ w9, Tch No w w9 → w9.cell? ⟨q, off + j * 3, none⟩ = some (.int .i64 x.at_) ∧ w9.cell? ⟨q, off + j * 3 + 1, none⟩ = some (.bool x.f) ∧ w9.cell? ⟨q, off + j * 3 + 2, none⟩ = some (.bool x.g)) := rd_ws2 HF'.out j hlt2 hxi
          clear ha ok1 ok2 ok3 ok4 hxi
          have hi1 : (j : Int) < (few50 n' : Int) := by omega
          go_wp2_with fail
          go_region_held3 (fun w' => w'.cell? ⟨q, off + j * 3, none⟩ = some (.int .i64 x.at_) ∧ w'.cell? ⟨q, off + j * 3 + 1, none⟩ = some (.bool x.f) ∧ w'.cell? ⟨q, off + j * 3 + 2, none⟩ = some (.bool x.g)) (go_keep)
            (first
              | (go_at_call_of 36 (Value.pointer (some ⟨gw, 0, none⟩)); go_must (refine (fam_o (HA.out.no ((Tch.refl No wr).drewN 1)) x.at_ (!x.f) OK.out.2.1 hx9 (by omega)).mono ?_); rintro e w4 ⟨rfl, k4, a4⟩; have A4 := Lib.hid a4.rot.rot.rot; have y01 := RD.out w4 a4.tch; obtain ⟨y0, y1, y2⟩ := y01; clear a4))
          all_goals
            go_wp2_with fail
            go_region_held3 (fun w' => w'.cell? ⟨q, off + j * 3, none⟩ = some (.int .i64 x.at_) ∧ w'.cell? ⟨q, off + j * 3 + 1, none⟩ = some (.bool x.f) ∧ w'.cell? ⟨q, off + j * 3 + 2, none⟩ = some (.bool x.g)) (go_keep)
              (first
                | (go_at_call_of 39 (Value.pointer (some ⟨gs, 0, none⟩)); go_must (refine (fam_s (A4.out.no ((Tch.refl No w4).drewN 1)) x.at_ (!x.f) (!x.g) OK.out.2.2 hx9 (by omega)).mono ?_); rintro e w5 ⟨rfl, k5, a5⟩; have A5 := Lib.hid a5.rot.rot; have y01 := RD.out w5 a5.tch; obtain ⟨z0, z1, z2⟩ := y01; clear a5))
            all_goals
              go_wp2_with fail
              go_region_held3 (fun w' => w'.cell? ⟨q, off + j * 3, none⟩ = some (.int .i64 x.at_) ∧ w'.cell? ⟨q, off + j * 3 + 1, none⟩ = some (.bool x.f) ∧ w'.cell? ⟨q, off + j * 3 + 2, none⟩ = some (.bool x.g)) (go_keep)
                (first
                  | (go_at_call_of 36 (Value.pointer (some ⟨gc, 0, none⟩)); go_must (refine (fam_o (A5.out.no ((Tch.refl No w5).drewN 1)) x.at_ x.f OK.out.1.1 hx9 (by omega)).mono ?_); rintro e w6 ⟨rfl, k6, a6⟩; have A6 := Lib.hid a6.rot.rot; have y01 := RD.out w6 a6.tch; obtain ⟨u0, u1, u2⟩ := y01; clear a6)
                  | (go_at_call_of 36 (Value.pointer (some ⟨gx, 0, none⟩)); go_must (refine (fam_o A6.out x.at_ x.f OK.out.1.1 hx9 (by omega)).mono ?_); rintro e w7 ⟨rfl, k7, a7⟩; have A7 := Lib.hid a7.rot; have y01 := RD.out w7 a7.tch; obtain ⟨p0, p1, p2⟩ := y01; clear a7))
              all_goals
                go_wp2_with fail
                go_region_held3 (fun w' => w'.cell? ⟨q, off + j * 3, none⟩ = some (.int .i64 x.at_) ∧ w'.cell? ⟨q, off + j * 3 + 1, none⟩ = some (.bool x.f) ∧ w'.cell? ⟨q, off + j * 3 + 2, none⟩ = some (.bool x.g)) (go_keep)
                  (first
                    | (go_at_call_of 39 (Value.pointer (some ⟨gd, 0, none⟩)); go_must (refine (fam_s (A7.out.no ((Tch.refl No w7).drewN 1)) x.at_ x.f x.g OK.out.1.2 hx9 (by omega)).mono ?_); rintro e w8 ⟨rfl, k8, a8⟩; have A8 := Lib.hid a8.rot.rot; have y01 := RD.out w8 a8.tch; obtain ⟨r0, r1, r2⟩ := y01; clear a8)
                    | (go_at_call_of 39 (Value.pointer (some ⟨gy, 0, none⟩)); go_must (refine (fam_s A8.out x.at_ x.f x.g OK.out.1.2 hx9 (by omega)).mono ?_); rintro e w9 ⟨rfl, k9, a9⟩; have A9 := Lib.hid a9; have y01 := RD.out w9 a9.tch; obtain ⟨m0, m1, m2⟩ := y01; clear a9))
                all_goals
                  go_wp2_with fail
                  refine (fam_oc A9.out.rot).mono ?_
                  rintro e wa ⟨rfl, rfl⟩
                  go_wp2_with fail
                  refine (fam_oc A9.out.rot.rot.rot).mono ?_
                  rintro e wa ⟨rfl, rfl⟩
                  go_wp2_with fail
                  refine (fam_sc A9.out.rot.rot.rot.rot).mono ?_
                  rintro e wa ⟨rfl, rfl⟩
                  go_wp2_with fail
                  refine (fam_sc A9.out).mono ?_
                  rintro e wa ⟨rfl, rfl⟩
                  go_wp2
                  exact ⟨⟨j + 1, by omega, by simp, stepW s1 x.at_ false x.f, stepW s2 x.at_ (!x.f) x.g, stepW s3 x.at_ false (!x.f), stepW s4 x.at_ (!!x.f) (!x.g), k4, k7, k8, k5, k9, k6, O1.out.1, O2.out.1, O3.out.1, O4.out.1, ⟨by have := O1.out.2; omega, by have := O2.out.2; omega, by have := O3.out.2; omega, by have := O4.out.2; omega⟩, A9.out.rot.rot⟩, by simp [intOf]; omega⟩
        · have HT := Lib.hid ha.tch
          clear ha
          have hm1 : ¬ ((j : Int) < (few50 n' : Int)) := by omega
          go_wp2
          go_returns
          exact ⟨rfl, HT.out.noBelow⟩
end Go.Proofs.Ytppbgkadpomblaa
