/- OutlineRights, one of its four ways. Conditions: how great the right is. -/
import Derived.Test.YtmoiehbhhplckaaProg
import Derived.Test.YtmoiehbhhplckaaX15
import Derived.Tactics
import Derived.Tactics2
import Derived.WalkKit
import Derived.WalkSpells
import Derived.WalkLawsBesides
import Derived.StillTactics
import Derived.StillTailTactics
import Derived.OwnWalk
import Derived.Laws.Pointers
import Derived.Laws.ResultCell
import Derived.Deep.RegionHeld3
import Derived.Deep.RegionWith
import Derived.Deep.RegionLaw
import Derived.Deep.AppendLies
import Derived.Deep.QuietTactic
import Derived.BigQuiet
import Derived.LoopTactic
import Derived.Deep.LoopGhost
import Derived.Deep.DeepCutAuto
import Derived.Deep.DeepFit
import Derived.Maps.AppendAt
import Derived.Below
import Derived.Lib.Hide
import Derived.Handy
import Derived.KernelRfl
import Derived.IntWalk
import Derived.Laws.AppendOwnNone
import Derived.Laws.IdiomStrings
namespace Go.Proofs.Ytmoiehbhhplckaa
set_option linter.unusedVariables false
set_option linter.unusedSimpArgs false
open Go.RowKit

set_option maxHeartbeats 64000000 in
set_option maxRecDepth 100000 in
theorem orights_tf (name : ByteArray) (k : Int) (nm : ByteArray) (n lo hi : Int) (A : Option Addr) (c : Nat) (kids : Fo) (k' : Int) (nm' : ByteArray) (n' lo' hi' : Int) (A' : Option Addr) (c' : Nat) (kids' : Fo)
    (A3 : Option Addr) (n3 c3 : Nat) (A4 : Option Addr) (n4 c4 : Nat) (A5 : Option Addr) (n5 c5 : Nat) (A6 : Option Addr) (n6 c6 : Nat) (w : World)
    (hp : XIn w k nm n lo hi A kids) (hq : XIn w k' nm' n' lo' hi' A' kids') (hf : n3 ≤ 9223372036854775807 ∧ n4 ≤ 9223372036854775807 ∧ n5 ≤ 9223372036854775807 ∧ n6 ≤ 9223372036854775807)
    (htp : (decide (k = 2) && decide (n = 1)) = true) (htq : (decide (k' = 2) && decide (n' = 1)) = false) :
    Calls Try.prog 10 #[ragg ⟨name, ⟨k, nm, n, lo, hi, A, kids.len, c⟩, ⟨k', nm', n', lo', hi', A', kids'.len, c'⟩, A3, n3, c3, A4, n4, c4, A5, n5, c5, A6, n6, c6⟩] w (YesB w) := by
  have HP := Lib.hid hp
  have HQ := Lib.hid hq
  have hl1 := len_wF kids
  have hl2 := len_wF kids'
  have hw1 := hp.w_
  have hw2 := hq.w_
  obtain ⟨r, hr⟩ : ∃ r : Rv, r = ⟨name, ⟨k, nm, n, lo, hi, A, kids.len, c⟩, ⟨k', nm', n', lo', hi', A', kids'.len, c'⟩, A3, n3, c3, A4, n4, c4, A5, n5, c5, A6, n6, c6⟩ := ⟨_, rfl⟩
  have HF : Hid (RFit r) := by subst hr; exact hf
  have CP := Lib.hid (fun w' (t : Tch No w w') => check_c ⟨k, nm, n, lo, hi, kids⟩ A c w' (hp.ka.tch t) hp.nm_ hp.w_)
  have CQ := Lib.hid (fun w' (t : Tch No w w') => check_c ⟨k', nm', n', lo', hi', kids'⟩ A' c' w' (hq.ka.tch t) hq.nm_ hq.w_)
  have TP := Lib.hid (fun w' => truth_c k nm n lo hi A kids.len c w')
  have TQ := Lib.hid (fun w' => truth_c k' nm' n' lo' hi' A' kids'.len c' w')
  have OP : Hid (checkV ⟨k, nm, n, lo, hi, kids⟩ = 0 → ∀ w', Tch No w w' → Calls Try.prog 36 #[xagg k nm n lo hi A kids.len c] w' (Str1 (prX k nm n lo hi (prs kids)) w')) := fun h w' t =>
    rr_c k nm n lo hi kids hp.nm_ hp.w_ hp.n_ hp.lo_ hp.hi_ hp.f_ (check_ok h).1 (check_ok h).2 A c w w' t hp.ka
  have OQ : Hid (checkV ⟨k', nm', n', lo', hi', kids'⟩ = 0 → ∀ w', Tch No w w' → Calls Try.prog 36 #[xagg k' nm' n' lo' hi' A' kids'.len c'] w' (Str1 (prX k' nm' n' lo' hi' (prs kids')) w')) := fun h w' t =>
    rr_c k' nm' n' lo' hi' kids' hq.nm_ hq.w_ hq.n_ hq.lo_ hq.hi_ hq.f_ (check_ok h).1 (check_ok h).2 A' c' w w' t hq.ka
  have RR : Hid (∀ w', Tch No w w' → Calls Try.prog 39 #[ragg r] w' (RightP (rightL r (askT k n wPre (prX k nm n lo hi (prs kids))) (askT k' n' wOn (prX k' nm' n' lo' hi' (prs kids')))) w')) := fun w' t =>
    right_c r _ _ w' HF.out (by subst hr; exact hp.ask c wPre t) (by subst hr; exact hq.ask c' wOn t)
  have hX := hp.len
  have hY := hq.len
  have HT1 : Hid (∀ X, ((decide (k = 2) && decide (n = 1)) = true → askT k n wPre X = []) ∧ ((decide (k = 2) && decide (n = 1)) = false → askT k n wPre X = [(wPre ++ [32]) ++ X])) := by
    intro X
    constructor
    · intro h; simp at h; unfold askT; rw [if_pos h]
    · intro h; unfold askT; rw [if_neg]; intro h2; simp [h2] at h
  have HT2 : Hid (∀ X, ((decide (k' = 2) && decide (n' = 1)) = true → askT k' n' wOn X = []) ∧ ((decide (k' = 2) && decide (n' = 1)) = false → askT k' n' wOn X = [(wOn ++ [32]) ++ X])) := by
    intro X
    constructor
    · intro h; simp at h; unfold askT; rw [if_pos h]
    · intro h; unfold askT; rw [if_neg]; intro h2; simp [h2] at h
  generalize prX k nm n lo hi (prs kids) = X at *
  generalize prX k' nm' n' lo' hi' (prs kids') = Y at *
  generalize checkV ⟨k, nm, n, lo, hi, kids⟩ = cp at *
  generalize checkV ⟨k', nm', n', lo', hi', kids'⟩ = cq at *
  generalize (decide (k = 2) && decide (n = 1)) = tp at *
  generalize (decide (k' = 2) && decide (n' = 1)) = tq at *
  subst htp htq
  have hE1 := Lib.hid ((HT1.out X).1 rfl)
  have hE2 := Lib.hid ((HT2.out Y).2 rfl)
  clear HT1 HT2
  have HR1 : Hid (ragg r = ragg ⟨name, ⟨k, nm, n, lo, hi, A, kids.len, c⟩, ⟨k', nm', n', lo', hi', A', kids'.len, c'⟩, A3, n3, c3, A4, n4, c4, A5, n5, c5, A6, n6, c6⟩) := by rw [hr]; exact rfl
  have HR2 : Hid (rcells r = rcells ⟨name, ⟨k, nm, n, lo, hi, A, kids.len, c⟩, ⟨k', nm', n', lo', hi', A', kids'.len, c'⟩, A3, n3, c3, A4, n4, c4, A5, n5, c5, A6, n6, c6⟩) := by rw [hr]; exact rfl
  have HRL : Hid (∀ T1 T2, rightL r T1 T2 = ((((([name.data.toList] ++ T1) ++ T2) ++ cntL wBefore n3) ++ cntL wDuring n4) ++ cntL wAfter n5) ++ cntL wDuties n6) := fun T1 T2 => by rw [hr]; rfl
  have HRr : Hid (∀ w', RC w' w.heap.size r → RC w' w.heap.size ⟨name, ⟨k, nm, n, lo, hi, A, kids.len, c⟩, ⟨k', nm', n', lo', hi', A', kids'.len, c'⟩, A3, n3, c3, A4, n4, c4, A5, n5, c5, A6, n6, c6⟩) := fun w' h => by rw [← hr]; exact h
  generalize hwb : w.alloc (.cells (rcells ⟨name, ⟨k, nm, n, lo, hi, A, kids.len, c⟩, ⟨k', nm', n', lo', hi', A', kids'.len, c'⟩, A3, n3, c3, A4, n4, c4, A5, n5, c5, A6, n6, c6⟩) 55) = wb
  have TB : Hid (Tch No w wb) := by subst hwb; exact (Tch.refl No w).alloc _
  have BX : Hid (Blk wb w.heap.size 55 (rcells r)) := by rw [HR2.out]; subst hwb; exact Blk.new w 55 _
  clear hr hp hq
  unfold ragg
  unfold rcells at hwb ⊢
  unfold xagg at *
  obtain ⟨q0, q1, q2, q3, q4, q5, q6, q7, q8, q9, q10, q11, q12, q13, q14, q15, q16⟩ := HRr.out _ (rc_of BX.out)
  go_enter Try.func10, Try.ntmps10
  go_wp2_with fail
  refine (oalive_c _).mono ?_
  rintro e w1 ⟨rfl, t1⟩
  have T1 := Lib.hid (TB.out.and t1)
  have B1 := Lib.hid (t1.blk BX.out (fun f => f))
  clear q0 q1 q2 q3 q4 q5 q6 q7 q8 q9 q10 q11 q12 q13 q14 q15 q16
  clear t1 hwb
  obtain ⟨q0, q1, q2, q3, q4, q5, q6, q7, q8, q9, q10, q11, q12, q13, q14, q15, q16⟩ := HRr.out _ (rc_of B1.out)
  go_wp2_with fail
  refine (CP.out _ T1.out).mono ?_
  rintro e w2 ⟨rfl, t2⟩
  have T2 := Lib.hid (T1.out.and t2)
  have B2 := Lib.hid (t2.blk B1.out (fun f => f))
  clear q0 q1 q2 q3 q4 q5 q6 q7 q8 q9 q10 q11 q12 q13 q14 q15 q16
  clear t2
  by_cases hcp : cp = 0
  · subst hcp
    have OP2 := Lib.hid (OP.out rfl)
    clear OP
    obtain ⟨q0, q1, q2, q3, q4, q5, q6, q7, q8, q9, q10, q11, q12, q13, q14, q15, q16⟩ := HRr.out _ (rc_of B2.out)
    go_wp2_with fail
    refine (CQ.out _ T2.out).mono ?_
    rintro e w3 ⟨rfl, t3⟩
    have T3 := Lib.hid (T2.out.and t3)
    have B3 := Lib.hid (t3.blk B2.out (fun f => f))
    clear q0 q1 q2 q3 q4 q5 q6 q7 q8 q9 q10 q11 q12 q13 q14 q15 q16
    clear t3
    by_cases hcq : cq = 0
    · subst hcq
      have OQ2 := Lib.hid (OQ.out rfl)
      clear OQ
      have hb3 := B3.out.lt
      have hb4 : ¬ w3.heap.size = w.heap.size := by omega
      obtain ⟨q0, q1, q2, q3, q4, q5, q6, q7, q8, q9, q10, q11, q12, q13, q14, q15, q16⟩ := HRr.out _ (rc_of B3.out)
      go_wp2_with fail
      obtain ⟨i0, hi0, hz0, hz1, hz2⟩ := info_parts Try.info9
      have K0 : Hid (WK w r [name.data.toList] (.slice (some ⟨w3.heap.size, 0, none⟩) 1 1) (w3.alloc (.cells #[.string name] 9))) :=
        ⟨own_str1 w3 w.heap.size (Nat.le_of_lt hb3) name.data.toList, B3.out.alloc _, T3.out.alloc _⟩
      refine (TP.out _).mono ?_
      rintro e w4 ⟨rfl, t4⟩
      have K4 := Lib.hid (K0.out.no t4)
      clear q0 q1 q2 q3 q4 q5 q6 q7 q8 q9 q10 q11 q12 q13 q14 q15 q16
      clear t4
      have XS : Hid (Value.string ((⟨#[112, 114, 101, 32]⟩ : ByteArray) ++ ⟨X.toArray⟩) = .string ⟨((wPre ++ [32]) ++ X).toArray⟩) := by rw [← bapp]; exact rfl
      have YS : Hid (Value.string ((⟨#[111, 110, 32]⟩ : ByteArray) ++ ⟨Y.toArray⟩) = .string ⟨((wOn ++ [32]) ++ Y).toArray⟩) := by rw [← bapp]; exact rfl
      have RX : Hid (∀ w', Tch No w w' → Calls Try.prog 39 #[ragg ⟨name, ⟨k, nm, n, lo, hi, A, kids.len, c⟩, ⟨k', nm', n', lo', hi', A', kids'.len, c'⟩, A3, n3, c3, A4, n4, c4, A5, n5, c5, A6, n6, c6⟩] w' (RightP (rightL r (askT k n wPre X) (askT k' n' wOn Y)) w')) := fun w' t => by
        have h := RR.out w' t
        rw [HR1.out] at h
        exact h
      unfold ragg rcells at RX
      have c3l := cnt_len wBefore (n3 : Int)
      have c4l := cnt_len wDuring (n4 : Int)
      have c5l := cnt_len wAfter (n5 : Int)
      have c6l := cnt_len wDuties (n6 : Int)
      have LN : Hid ((cntL wBefore n3).length ≤ 1 ∧ (cntL wDuring n4).length ≤ 1 ∧ (cntL wAfter n5).length ≤ 1 ∧ (cntL wDuties n6).length ≤ 1) := ⟨c3l, c4l, c5l, c6l⟩
      have HN := Lib.hid hf
      have m1 : ¬ (9223372036854775807 < 4 + X.length) := by omega
      have m2 : ¬ (9223372036854775807 < 3 + Y.length) := by omega
      clear c3l c4l c5l c6l hf hX hY RR
      obtain ⟨L1, EL1'⟩ : ∃ L1, Hid (L1 = [name.data.toList]) := ⟨_, Lib.hid rfl⟩
      have K4' : Hid (WK w r L1 (.slice (some ⟨w3.heap.size, 0, none⟩) 1 1) w4) := by rw [EL1'.out]; exact K4
      have EL1 : Hid (∀ T2, rightL r (askT k n wPre X) T2 = ((((L1 ++ T2) ++ cntL wBefore n3) ++ cntL wDuring n4) ++ cntL wAfter n5) ++ cntL wDuties n6) := by
        intro T2; rw [HRL.out, hE1.out, EL1'.out, List.append_nil]
      have ll1 : L1.length ≤ 1 := by rw [EL1'.out]; exact Nat.le_refl _
      clear K4
      obtain ⟨q0, q1, q2, q3, q4, q5, q6, q7, q8, q9, q10, q11, q12, q13, q14, q15, q16⟩ := HRr.out _ (rc_of K4'.out.box)
      go_wp2_with fail
      refine (TQ.out _).mono ?_
      rintro e w8 ⟨rfl, t8⟩
      have K8 := Lib.hid (K4'.out.no t8)
      clear q0 q1 q2 q3 q4 q5 q6 q7 q8 q9 q10 q11 q12 q13 q14 q15 q16
      clear t8
      obtain ⟨L2, EL2⟩ : ∃ L2, Hid (L2 = L1 ++ [(wOn ++ [32]) ++ Y]) := ⟨_, Lib.hid rfl⟩
      have HEQ : Hid (rightL r (askT k n wPre X) (askT k' n' wOn Y) = (((L2 ++ cntL wBefore n3) ++ cntL wDuring n4) ++ cntL wAfter n5) ++ cntL wDuties n6) := by rw [hE2.out, EL1.out, EL2.out]; exact rfl
      have ll2 : L2.length ≤ 2 := by rw [EL2.out, List.length_append]; simp only [List.length_cons, List.length_nil]; omega
      have hk1 : L1.length + 1 ≤ maxLen := by unfold maxLen; omega
      have hk2 : (L1.length + 1) * 16 ≤ 140737488355328 := by omega
      have SS : Hid (strs L2 = strs L1 ++ [.string ⟨((wOn ++ [32]) ++ Y).toArray⟩] ∧ L2.length = L1.length + 1) := by rw [EL2.out]; exact ⟨by simp [strs], by simp⟩
      obtain ⟨q0, q1, q2, q3, q4, q5, q6, q7, q8, q9, q10, q11, q12, q13, q14, q15, q16⟩ := HRr.out _ (rc_of K8.out.box)
      go_wp2_with (first
        | (at_builtin; go_must (refine wpList_append_own_at _ rfl (.tmp 34) (.tmp 39) _ rfl w.heap.size 9 i0 _ 1 16 Try.underlying57 hi0 hz0 hz1 hz2 rfl (by decide) _ L1.length _ rfl (K9.out.own.alloc _) ⟨w9.heap.size, 0, none⟩ 1 1 [_] rfl rfl (str_new w9 _) (by simp [Value.oneCell']) hk1 hk2 (le_alloc K9.out.tch.size _) ?_; intro v10 w10 ho10 hg10 hn10 ha10; have O10 := Lib.hid ho10; have G10 := Lib.hid hg10; clear ho10 hg10 hn10 ha10; have K10 : Hid (WK w r L2 v10 w10) := (K9.out.grow _ (by rw [SS.out.2, SS.out.1, ← YS.out]; exact O10.out) G10.out); obtain ⟨q0, q1, q2, q3, q4, q5, q6, q7, q8, q9, q10, q11, q12, q13, q14, q15, q16⟩ := HRr.out _ (rc_of K10.out.box)))
        | (go_at_call 36; go_must (refine (OQ2.out _ K8.out.tch).mono ?_; rintro e w9 ⟨rfl, t9⟩; have K9 := Lib.hid (K8.out.no t9); clear q0 q1 q2 q3 q4 q5 q6 q7 q8 q9 q10 q11 q12 q13 q14 q15 q16; clear t9))
        | fail)
      refine (counted_c w r wBefore n3 _ L2 _ K10 (nat_fit HN.out.1) (by decide) (by omega)).mono ?_
      rintro e wa0 ⟨va0, rfl, ka0⟩
      obtain ⟨M0, E0, lm0, Ka0⟩ : ∃ M, Hid (M = L2 ++ cntL wBefore n3) ∧ M.length ≤ 3 ∧ Hid (WK w r M va0 wa0) := ⟨_, rfl, by have h7 := cnt_len wBefore (n3 : Int); rw [List.length_append]; omega, ka0⟩
      clear ka0
      clear q0 q1 q2 q3 q4 q5 q6 q7 q8 q9 q10 q11 q12 q13 q14 q15 q16
      obtain ⟨q0, q1, q2, q3, q4, q5, q6, q7, q8, q9, q10, q11, q12, q13, q14, q15, q16⟩ := HRr.out _ (rc_of Ka0.out.box)
      go_wp2_with fail
      refine (counted_c w r wDuring n4 _ M0 _ Ka0 (nat_fit HN.out.2.1) (by decide) (by omega)).mono ?_
      rintro e wa1 ⟨va1, rfl, ka1⟩
      obtain ⟨M1, E1, lm1, Ka1⟩ : ∃ M, Hid (M = M0 ++ cntL wDuring n4) ∧ M.length ≤ 4 ∧ Hid (WK w r M va1 wa1) := ⟨_, rfl, by have h7 := cnt_len wDuring (n4 : Int); rw [List.length_append]; omega, ka1⟩
      clear ka1
      clear q0 q1 q2 q3 q4 q5 q6 q7 q8 q9 q10 q11 q12 q13 q14 q15 q16
      obtain ⟨q0, q1, q2, q3, q4, q5, q6, q7, q8, q9, q10, q11, q12, q13, q14, q15, q16⟩ := HRr.out _ (rc_of Ka1.out.box)
      go_wp2_with fail
      refine (counted_c w r wAfter n5 _ M1 _ Ka1 (nat_fit HN.out.2.2.1) (by decide) (by omega)).mono ?_
      rintro e wa2 ⟨va2, rfl, ka2⟩
      obtain ⟨M2, E2, lm2, Ka2⟩ : ∃ M, Hid (M = M1 ++ cntL wAfter n5) ∧ M.length ≤ 5 ∧ Hid (WK w r M va2 wa2) := ⟨_, rfl, by have h7 := cnt_len wAfter (n5 : Int); rw [List.length_append]; omega, ka2⟩
      clear ka2
      clear q0 q1 q2 q3 q4 q5 q6 q7 q8 q9 q10 q11 q12 q13 q14 q15 q16
      obtain ⟨q0, q1, q2, q3, q4, q5, q6, q7, q8, q9, q10, q11, q12, q13, q14, q15, q16⟩ := HRr.out _ (rc_of Ka2.out.box)
      go_wp2_with fail
      refine (counted_c w r wDuties n6 _ M2 _ Ka2 (nat_fit HN.out.2.2.2) (by decide) (by omega)).mono ?_
      rintro e wa3 ⟨va3, rfl, ka3⟩
      obtain ⟨M3, E3, lm3, Ka3⟩ : ∃ M, Hid (M = M2 ++ cntL wDuties n6) ∧ M.length ≤ 6 ∧ Hid (WK w r M va3 wa3) := ⟨_, rfl, by have h7 := cnt_len wDuties (n6 : Int); rw [List.length_append]; omega, ka3⟩
      clear ka3
      clear q0 q1 q2 q3 q4 q5 q6 q7 q8 q9 q10 q11 q12 q13 q14 q15 q16
      obtain ⟨q0, q1, q2, q3, q4, q5, q6, q7, q8, q9, q10, q11, q12, q13, q14, q15, q16⟩ := HRr.out _ (rc_of Ka3.out.box)
      go_wp2_with fail
      refine (RX.out _ Ka3.out.tch).mono ?_
      rintro e wz ⟨v2, rfl, ho2, tz⟩
      have KZ := Lib.hid (Ka3.out.no tz)
      rw [show rightL r (askT k n wPre X) (askT k' n' wOn Y) = M3 by rw [HEQ.out, E3.out, E2.out, E1.out, E0.out]] at ho2
      obtain ⟨A2, c2, rfl⟩ := own_slice ho2
      obtain ⟨A9, c9, rfl⟩ := own_slice KZ.out.own
      have R2 := Lib.hid (own_rd1 ho2)
      have R9 := Lib.hid (own_rd1 KZ.out.own)
      clear q0 q1 q2 q3 q4 q5 q6 q7 q8 q9 q10 q11 q12 q13 q14 q15 q16
      clear tz ho2 Ka0 Ka1 Ka2 Ka3 E0 E1 E2 E3
      have TX := Lib.hid (texts_c A2 A9 M3.length c2 c9 M3 wz R2.out R9.out (by omega))
      go_wp2_with fail
      refine TX.out.mono ?_
      rintro e wf ⟨rfl, kk, rfl⟩
      go_wp2
      go_returns
      exact ⟨rfl, (KZ.out.tch.drewN kk).noBelow⟩
    · have hcb : (cq != 0) = true := by simp [hcq]
      clear hcq
      go_wp2
      go_returns
      exact ⟨rfl, T3.out.noBelow⟩
  · have hcb : (cp != 0) = true := by simp [hcp]
    clear hcp
    go_wp2
    go_returns
    exact ⟨rfl, T2.out.noBelow⟩
end Go.Proofs.Ytmoiehbhhplckaa
