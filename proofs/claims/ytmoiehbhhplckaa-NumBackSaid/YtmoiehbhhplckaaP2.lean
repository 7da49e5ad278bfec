/- Contracts. -/
import Derived.Test.YtmoiehbhhplckaaProg
import Derived.Test.YtmoiehbhhplckaaP1
import Derived.Tactics
import Derived.Tactics2
import Derived.WalkKit
import Derived.WalkSpells
import Derived.WalkLawsBesides
import Derived.StillTactics
import Derived.StillTailTactics
import Derived.OwnWalk
import Derived.Laws.Pointers
import Derived.Laws.ResultCell
import Derived.Deep.RegionHeld3
import Derived.Deep.RegionWith
import Derived.Deep.RegionLaw
import Derived.Deep.AppendLies
import Derived.Deep.QuietTactic
import Derived.BigQuiet
import Derived.LoopTactic
import Derived.Deep.LoopGhost
import Derived.Deep.DeepCutAuto
import Derived.Deep.DeepFit
import Derived.Maps.AppendAt
import Derived.Below
import Derived.Lib.Hide
import Derived.Handy
import Derived.KernelRfl
import Derived.IntWalk
import Derived.Laws.AppendOwnNone
import Derived.Laws.IdiomStrings
namespace Go.Proofs.Ytmoiehbhhplckaa
set_option linter.unusedVariables false
set_option linter.unusedSimpArgs false
open Go.RowKit

theorem parse_true {l : List UInt8} {v : Int} (h : parseV l = (v, true)) : 0 ≤ v ∧ decL v = l := by
  unfold parseV at h
  split at h
  · rename_i hh
    injection h with h1 _
    subst h1
    refine ⟨by omega, ?_⟩
    rw [dec_nat]
    exact hh.1.symm
  · injection h with _ h2
    cases h2
theorem parse_dec {n : Int} (h0 : 0 ≤ n) (h1 : n ≤ 9223372036854775807) : parseV (decL n) = (n, true) := by
  obtain ⟨k, rfl⟩ := Int.eq_ofNat_of_zero_le h0
  rw [dec_nat]
  have := parse_yes (l := digs k) (by rw [valL_digs]) (by rw [valL_digs]; omega)
  rw [valL_digs] at this
  exact this
theorem parse_neg {n : Int} (h0 : n < 0) : parseV (decL n) = (0, false) := by
  have e : decL n = 45 :: digs n.natAbs := if_pos h0
  rw [e]
  exact parse_bad (i := 0) (c := 45) rfl (by unfold isD; decide)

theorem dec_len {n : Int} (h : Fit n) : (decL n).length ≤ 20 := by
  have hb := natAbs_le h
  have := digs_len n.natAbs 18 (by omega)
  unfold decL
  split
  · simp; omega
  · omega

set_option maxHeartbeats 3200000 in
set_option maxRecDepth 100000 in
theorem back_walk (n : Int) (s : ByteArray) (w : World) (h0 : -9223372036854775808 ≤ n) (h1 : n ≤ 9223372036854775807) (hs : s.size ≤ 140737488351232) :
    Calls Try.prog 6 #[.int .i64 n, .string s] w fun e w' => e = .returned (.bool true) ∧ Below w.heap.size w w' := by
  have HN := Lib.hid (fit_of h0 h1)
  obtain ⟨v, ok, hv⟩ : ∃ v ok, parseV s.data.toList = (v, ok) := ⟨_, _, rfl⟩
  have hvf : Fit v := by have := parse_fit s.data.toList; rw [hv] at this; exact this
  have HV := Lib.hid (And.intro hv hvf)
  clear hv hvf
  obtain ⟨t, ht⟩ : ∃ t : ByteArray, (⟨(decL n).toArray⟩ : ByteArray) = t := ⟨_, rfl⟩
  have htl : t.data.toList = decL n := by rw [← ht]
  have htz : t.size = (decL n).length := by rw [← ht]; simp [ByteArray.size]
  have hdl := dec_len HN.out
  have hts : t.size ≤ 20 := by omega
  have HT := Lib.hid ht
  have HTL := Lib.hid htl
  clear ht htl hdl
  have hvs : ok = true → (⟨(decL v).toArray⟩ : ByteArray) = s := fun h => by
    have := parse_true (l := s.data.toList) (v := v) (by rw [HV.out.1, h])
    rw [this.2]
  have HVS0 := Lib.hid hvs
  clear hvs
  rcases (by omega : 0 ≤ n ∨ n < 0) with hn | hn
  · have hp : parseV t.data.toList = (n, true) := by rw [HTL.out]; exact parse_dec hn h1
    have HP := Lib.hid hp
    clear hp
    cases ok
    · clear HVS0
      go_enter Try.func6, Try.ntmps6
      go_wp2_with fail
      refine (alive_c _).mono ?_
      rintro e w1 ⟨rfl, t1⟩
      have T1 := Lib.hid t1
      clear t1
      go_wp2_with fail
      refine (parse_c s _ (by omega)).mono ?_
      rintro e w2 ⟨rfl, t2⟩
      have T2 := Lib.hid (T1.out.and t2)
      clear t2
      rw [HV.out.1]
      go_wp2_with fail
      refine (decimal_c n _ HN.out).mono ?_
      rintro e w4 ⟨rfl, t4⟩
      have T4 := Lib.hid (T2.out.and t4)
      clear t4
      rw [HT.out]
      go_wp2_with fail
      refine (parse_c t _ (by omega)).mono ?_
      rintro e w5 ⟨rfl, t5⟩
      have T5 := Lib.hid (T4.out.and t5)
      clear t5
      rw [HP.out]
      go_wp2_with fail
      go_returns
      exact ⟨rfl, T5.out.noBelow⟩
    · have HVS := Lib.hid (HVS0.out rfl)
      clear HVS0
      go_enter Try.func6, Try.ntmps6
      go_wp2_with fail
      refine (alive_c _).mono ?_
      rintro e w1 ⟨rfl, t1⟩
      have T1 := Lib.hid t1
      clear t1
      go_wp2_with fail
      refine (parse_c s _ (by omega)).mono ?_
      rintro e w2 ⟨rfl, t2⟩
      have T2 := Lib.hid (T1.out.and t2)
      clear t2
      rw [HV.out.1]
      go_wp2_with fail
      refine (decimal_c v _ HV.out.2).mono ?_
      rintro e w3 ⟨rfl, t3⟩
      have T3 := Lib.hid (T2.out.and t3)
      clear t3 T2
      rw [HVS.out]
      go_wp2_with fail
      refine (decimal_c n _ HN.out).mono ?_
      rintro e w4 ⟨rfl, t4⟩
      have T4 := Lib.hid (T3.out.and t4)
      clear t4
      rw [HT.out]
      go_wp2_with fail
      refine (parse_c t _ (by omega)).mono ?_
      rintro e w5 ⟨rfl, t5⟩
      have T5 := Lib.hid (T4.out.and t5)
      clear t5
      rw [HP.out]
      go_wp2_with fail
      go_returns
      exact ⟨rfl, T5.out.noBelow⟩
  · have hp : parseV t.data.toList = (0, false) := by rw [HTL.out]; exact parse_neg hn
    have HP := Lib.hid hp
    have hdl : decL n = 45 :: digs n.natAbs := if_pos hn
    have hne := List.length_pos_iff.2 (digs_ne n.natAbs)
    have hts1 : (1 : Int) < (t.size : Int) := by rw [htz, hdl, List.length_cons]; omega
    have hts2 : (t.size : Int) ≤ 20 := by omega
    have hts3 : (1 : Int) ≤ (t.size : Int) := by omega
    have hts4 : 1 ≤ t.size := by omega
    have hp0 : 0 < t.size := by omega
    have ht0 : t[0] = 45 := by
      have := byte_at t 0 hp0
      rw [HTL.out, hdl] at this
      simpa using this.symm
    have htx : (t.extract 1 t.size).data.toList = digs n.natAbs := by
      rw [Lib.extract_data, HTL.out, hdl]
      have : t.size - 1 = (digs n.natAbs).length := by rw [htz, hdl]; simp
      simp [this]
    have HTX := Lib.hid htx
    have hneg : negV n = (-n, true) ∨ negV n = (0, false) := by unfold negV; split <;> simp
    have hne2 : negV n = (-n, true) → decL (-n) = digs n.natAbs := fun _ => by
      unfold decL
      rw [if_neg (by omega)]
      congr 1
      omega
    have hfn : Fit (negV n).1 := by unfold negV; split <;> first | assumption | (unfold Fit; omega)
    have HFN := Lib.hid hfn
    have HNE := Lib.hid hne2
    have hq : (digs n.natAbs == (t.extract 1 t.size).toList) = true := by rw [Lib.toList_data, HTX.out]; simp
    have ht0b : ((t[0].toNat : Int) == 45) = true := by rw [ht0]; rfl
    clear hp hdl hne htx hne2 hfn htz ht0
    rcases hneg with hneg | hneg
    · have HG := Lib.hid hneg
      have hf2 : Fit (-n) := by have := HFN.out; rw [hneg] at this; exact this
      have HFN2 := Lib.hid hf2
      clear hneg hf2
      cases ok
      · clear HVS0
        go_enter Try.func6, Try.ntmps6
        go_wp2_with fail
        refine (alive_c _).mono ?_
        rintro e w1 ⟨rfl, t1⟩
        have T1 := Lib.hid t1
        clear t1
        go_wp2_with fail
        refine (parse_c s _ (by omega)).mono ?_
        rintro e w2 ⟨rfl, t2⟩
        have T2 := Lib.hid (T1.out.and t2)
        clear t2
        rw [HV.out.1]
        go_wp2_with fail
        refine (decimal_c n _ HN.out).mono ?_
        rintro e w4 ⟨rfl, t4⟩
        have T4 := Lib.hid (T2.out.and t4)
        clear t4
        rw [HT.out]
        go_wp2_with fail
        refine (parse_c t _ (by omega)).mono ?_
        rintro e w5 ⟨rfl, t5⟩
        have T5 := Lib.hid (T4.out.and t5)
        clear t5
        rw [HP.out]
        go_wp2_with fail
        refine (neg_c n _ HN.out).mono ?_
        rintro e w6 ⟨rfl, rfl⟩
        rw [HG.out]
        go_wp2_with fail
        go_region_held3 (fun w' => True) (trivial) (first | (go_at_call 22; go_must (refine (decimal_c (-n) _ HFN2.out).mono ?_); rintro e w7 ⟨rfl, t7⟩; rw [HNE.out HG.out]))
        all_goals
          go_wp2
          go_returns
          exact ⟨rfl, (T5.out.and t7.undrewN).noBelow⟩
      · have HVS := Lib.hid (HVS0.out rfl)
        clear HVS0
        go_enter Try.func6, Try.ntmps6
        go_wp2_with fail
        refine (alive_c _).mono ?_
        rintro e w1 ⟨rfl, t1⟩
        have T1 := Lib.hid t1
        clear t1
        go_wp2_with fail
        refine (parse_c s _ (by omega)).mono ?_
        rintro e w2 ⟨rfl, t2⟩
        have T2 := Lib.hid (T1.out.and t2)
        clear t2
        rw [HV.out.1]
        go_wp2_with fail
        refine (decimal_c v _ HV.out.2).mono ?_
        rintro e w3 ⟨rfl, t3⟩
        have T3 := Lib.hid (T2.out.and t3)
        clear t3 T2
        rw [HVS.out]
        go_wp2_with fail
        refine (decimal_c n _ HN.out).mono ?_
        rintro e w4 ⟨rfl, t4⟩
        have T4 := Lib.hid (T3.out.and t4)
        clear t4
        rw [HT.out]
        go_wp2_with fail
        refine (parse_c t _ (by omega)).mono ?_
        rintro e w5 ⟨rfl, t5⟩
        have T5 := Lib.hid (T4.out.and t5)
        clear t5
        rw [HP.out]
        go_wp2_with fail
        refine (neg_c n _ HN.out).mono ?_
        rintro e w6 ⟨rfl, rfl⟩
        rw [HG.out]
        go_wp2_with fail
        go_region_held3 (fun w' => True) (trivial) (first | (go_at_call 22; go_must (refine (decimal_c (-n) _ HFN2.out).mono ?_); rintro e w7 ⟨rfl, t7⟩; rw [HNE.out HG.out]))
        all_goals
          go_wp2
          go_returns
          exact ⟨rfl, (T5.out.and t7.undrewN).noBelow⟩
    · have HG := Lib.hid hneg
      clear hneg
      cases ok
      · clear HVS0
        go_enter Try.func6, Try.ntmps6
        go_wp2_with fail
        refine (alive_c _).mono ?_
        rintro e w1 ⟨rfl, t1⟩
        have T1 := Lib.hid t1
        clear t1
        go_wp2_with fail
        refine (parse_c s _ (by omega)).mono ?_
        rintro e w2 ⟨rfl, t2⟩
        have T2 := Lib.hid (T1.out.and t2)
        clear t2
        rw [HV.out.1]
        go_wp2_with fail
        refine (decimal_c n _ HN.out).mono ?_
        rintro e w4 ⟨rfl, t4⟩
        have T4 := Lib.hid (T2.out.and t4)
        clear t4
        rw [HT.out]
        go_wp2_with fail
        refine (parse_c t _ (by omega)).mono ?_
        rintro e w5 ⟨rfl, t5⟩
        have T5 := Lib.hid (T4.out.and t5)
        clear t5
        rw [HP.out]
        go_wp2_with fail
        refine (neg_c n _ HN.out).mono ?_
        rintro e w6 ⟨rfl, rfl⟩
        rw [HG.out]
        go_wp2_with fail
        go_quiet (fail)
        go_wp2
        go_returns
        exact ⟨rfl, (T5.out.drewN _).noBelow⟩
      · have HVS := Lib.hid (HVS0.out rfl)
        clear HVS0
        go_enter Try.func6, Try.ntmps6
        go_wp2_with fail
        refine (alive_c _).mono ?_
        rintro e w1 ⟨rfl, t1⟩
        have T1 := Lib.hid t1
        clear t1
        go_wp2_with fail
        refine (parse_c s _ (by omega)).mono ?_
        rintro e w2 ⟨rfl, t2⟩
        have T2 := Lib.hid (T1.out.and t2)
        clear t2
        rw [HV.out.1]
        go_wp2_with fail
        refine (decimal_c v _ HV.out.2).mono ?_
        rintro e w3 ⟨rfl, t3⟩
        have T3 := Lib.hid (T2.out.and t3)
        clear t3 T2
        rw [HVS.out]
        go_wp2_with fail
        refine (decimal_c n _ HN.out).mono ?_
        rintro e w4 ⟨rfl, t4⟩
        have T4 := Lib.hid (T3.out.and t4)
        clear t4
        rw [HT.out]
        go_wp2_with fail
        refine (parse_c t _ (by omega)).mono ?_
        rintro e w5 ⟨rfl, t5⟩
        have T5 := Lib.hid (T4.out.and t5)
        clear t5
        rw [HP.out]
        go_wp2_with fail
        refine (neg_c n _ HN.out).mono ?_
        rintro e w6 ⟨rfl, rfl⟩
        rw [HG.out]
        go_wp2_with fail
        go_quiet (fail)
        go_wp2
        go_returns
        exact ⟨rfl, (T5.out.drewN _).noBelow⟩
end Go.Proofs.Ytmoiehbhhplckaa
