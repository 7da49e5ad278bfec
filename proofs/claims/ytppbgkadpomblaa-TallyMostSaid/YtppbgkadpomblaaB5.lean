/- The law TallyMost: its walk. Conditions: none. -/
import Derived.Test.YtppbgkadpomblaaProg
import Derived.Test.YtppbgkadpomblaaB3
import Derived.Tactics
import Derived.Tactics2
import Derived.WalkKit
import Derived.WalkSpells
import Derived.WalkLawsBesides
import Derived.StillTactics
import Derived.StillTailTactics
import Derived.OwnWalk
import Derived.Laws.Pointers
import Derived.Laws.ResultCell
import Derived.Deep.RegionHeld3
import Derived.Deep.RegionWith
import Derived.Deep.RegionLaw
import Derived.Deep.AppendLies
import Derived.Deep.QuietTactic
import Derived.BigQuiet
import Derived.LoopTactic
import Derived.Deep.LoopGhost
import Derived.Deep.DeepCutAuto
import Derived.Deep.DeepFit
import Derived.Maps.AppendAt
import Derived.Below
import Derived.Lib.Hide
import Derived.Handy
import Derived.KernelRfl
import Derived.IntWalk
import Derived.Laws.AppendOwnNone
import Derived.Laws.IdiomStrings
namespace Go.Proofs.Ytppbgkadpomblaa
set_option linter.unusedVariables false
set_option linter.unusedSimpArgs false
open Go.RowKit

def mostS (t : Int) (i : Nat) : Ty := if i = 0 then ⟨9, 0, []⟩ else ⟨9, t, [⟨t, min (i : Int) 32768⟩]⟩
theorem most_step (t : Int) (ht : 0 ≤ t) (i : Nat) : stepT (mostS t i) t true = mostS t (i + 1) := by
  unfold mostS
  by_cases h : i = 0
  · subst h
    unfold stepT
    simp only [if_pos]
    rw [if_neg (by omega), show max 0 t = t by omega]
    rfl
  · rw [if_neg h, if_neg (by omega)]
    unfold stepT
    simp only [if_pos]
    rw [show max t t = t by omega]
    have hp : pruneL [(⟨t, min (i : Int) 32768⟩ : Cl)] (t - 9) = [⟨t, min (i : Int) 32768⟩] := by
      unfold pruneL cutN
      rw [List.takeWhile_cons_of_neg (by simp; omega)]
      rfl
    rw [hp]
    have := (push_same [] ⟨t, min (i : Int) 32768⟩ t rfl).1
    rw [List.nil_append, List.nil_append] at this
    rw [this]
    rw [show min (min (i : Int) 32768 + 1) 32768 = min (((i + 1 : Nat) : Int)) 32768 by omega]
theorem most_sum (t : Int) (i : Nat) : sumL (mostS t (i + 1)).l = min ((i : Int) + 1) 32768 := by
  unfold mostS
  rw [if_neg (by omega)]
  have e : ∀ a : Int, sumL [(⟨t, a⟩ : Cl)] = a := fun a => by simp [sumL]
  rw [e, show (((i + 1 : Nat)) : Int) = (i : Int) + 1 from Int.natCast_add i 1]
theorem most_ok (t : Int) (h0 : 0 ≤ t) (h1 : t ≤ 9223372036854775807) (i : Nat) : (mostS t i).Ok ∧ (mostS t i).l.length ≤ 1 := by
  unfold mostS
  by_cases h : i = 0
  · rw [if_pos h]; exact ⟨⟨by simp only; omega, by simp only; omega, by simp only; omega, by simp only; omega, fun x hx => (by cases hx), by simp⟩, by simp⟩
  · rw [if_neg h]
    refine ⟨⟨by simp only; omega, by simp only; omega, h0, h1, fun x hx => ?_, by simp⟩, by simp⟩
    simp at hx; subst hx; simp only; omega
theorem most_next (t : Int) (ht : 0 ≤ t) (i : Nat) (hi : 0 < i) : (stepT (mostS t i) (t + 1) true).l = [⟨t, min (i : Int) 32768⟩, ⟨t + 1, 1⟩] := by
  unfold mostS
  rw [if_neg (by omega)]
  unfold stepT
  simp only [if_pos]
  rw [show max t (t + 1) = t + 1 by omega]
  have hp : pruneL [(⟨t, min (i : Int) 32768⟩ : Cl)] (t + 1 - 9) = [⟨t, min (i : Int) 32768⟩] := by
    unfold pruneL cutN
    rw [List.takeWhile_cons_of_neg (by simp; omega)]
    rfl
  rw [hp]
  have := (push_more [] ⟨t, min (i : Int) 32768⟩ (t + 1) (by simp only; omega)).1
  rw [List.nil_append] at this
  rw [this]
  rfl

set_option maxHeartbeats 6400000 in
set_option maxRecDepth 100000 in
theorem tmost_ax (n at_ : Int) (w : World) (h2 : -9223372036854775808 ≤ n) (h3 : n ≤ 9223372036854775807) (h0 : -9223372036854775808 ≤ at_) (h1 : at_ ≤ 9223372036854775807) (hn : n < 1) (ha : at_ < 0) :
    Calls Try.prog 8 #[.int .i64 n, .int .i64 at_] w fun e w' => e = .returned (.bool true) ∧ Below w.heap.size w w' := by
  · go_enter Try.func8, Try.ntmps8
    go_wp2_with fail
    refine (talive_c _).mono ?_
    rintro e w1 ⟨rfl, t1⟩
    have T1 := Lib.hid t1
    clear t1
    go_wp2_with fail
    refine (tnew_c 9 9 _ rfl).mono ?_
    rintro e w2 ⟨rfl, rfl⟩
    have A0 := Lib.hid (aftert_new w w1 ⟨9, 0, []⟩ T1.out rfl)
    go_wp2_with fail
    go_loopw [6] (fun iv wr => ∃ i : Nat, (i : Int) ≤ 1 ∧ iv = .int .i64 i ∧ ∃ v, AfterT w w1.heap.size (mostS 0 i) v wr) (fun iv _ => (1 - intOf iv).toNat)
    case atStart => exact ⟨0, by omega, rfl, _, A0.out⟩
    case round =>
      obtain ⟨i, hi, rfl, v, ha⟩ := hrel
      have HA := Lib.hid ha
      obtain ⟨hok, hlen⟩ := most_ok 0 (by omega) (by omega) i
      have HOK := Lib.hid hok
      clear ha hok
      by_cases hlt : (i : Int) < 1
      · have HS := Lib.hid (And.intro (most_step 0 (by omega) i) (most_sum 0 i))
        rcases (by omega : (i : Int) + 1 ≤ 32768 ∨ 32768 < (i : Int) + 1) with hm | hm
        · have e1 : min ((i : Int) + 1) 32768 = (i : Int) + 1 := by omega
          have HE := Lib.hid e1
          clear e1
          go_wp2_with fail
          refine (tstep_n HA.out 0 true HOK.out (by omega) (by omega)).mono ?_
          rintro e w2 ⟨rfl, v2, a2⟩
          rw [HS.out.1] at a2
          rw [HS.out.1, HS.out.2, HE.out]
          have A2 := Lib.hid a2
          clear a2
          go_wp2_with fail
          exact ⟨⟨i + 1, by omega, by simp, v2, A2.out⟩, by simp [intOf]; omega⟩
        · exact absurd hm (by omega)
      · have hiN : (i : Int) = 1 := by omega
        have HI := Lib.hid hiN
        have hnx := most_next 0 (by omega) i (by omega)
        have hv : min (i : Int) 32768 = 1 := by omega
        rw [hv] at hnx
        have hsum : sumL [(⟨0, 1⟩ : Cl), ⟨0 + 1, 1⟩] = 1 + 1 := by simp [sumL]
        have HNX := Lib.hid (And.intro hnx hsum)
        clear hnx hv hsum 
        go_wp2_with fail
        refine (tstep_n HA.out (1) true HOK.out (by omega) (by omega)).mono ?_
        rintro e w2 ⟨rfl, v2, a2⟩
        have A2 := Lib.hid a2
        clear a2
        have hs1 : (stepT (mostS 0 i) (1) true).l = [(⟨0, 1⟩ : Cl), ⟨0 + 1, 1⟩] := HNX.out.1
        have HS1 := Lib.hid hs1
        clear hs1
        rw [HS1.out, HNX.out.2]
        go_wp2_with fail
        refine (tcells_c _ _ v2 _ _ A2.out.tl).mono ?_
        rintro e w3 ⟨rfl, rfl⟩
        rw [HS1.out]
        go_wp2
        go_returns
        exact ⟨rfl, A2.out.tch.noBelow⟩

set_option maxHeartbeats 6400000 in
set_option maxRecDepth 100000 in
theorem tmost_ay (n at_ : Int) (w : World) (h2 : -9223372036854775808 ≤ n) (h3 : n ≤ 9223372036854775807) (h0 : -9223372036854775808 ≤ at_) (h1 : at_ ≤ 9223372036854775807) (hn : n < 1) (ha : 0 ≤ at_) :
    Calls Try.prog 8 #[.int .i64 n, .int .i64 at_] w fun e w' => e = .returned (.bool true) ∧ Below w.heap.size w w' := by
  · go_enter Try.func8, Try.ntmps8
    go_wp2_with fail
    refine (talive_c _).mono ?_
    rintro e w1 ⟨rfl, t1⟩
    have T1 := Lib.hid t1
    clear t1
    go_wp2_with fail
    refine (tnew_c 9 9 _ rfl).mono ?_
    rintro e w2 ⟨rfl, rfl⟩
    have A0 := Lib.hid (aftert_new w w1 ⟨9, 0, []⟩ T1.out rfl)
    go_wp2_with fail
    go_loopw [6] (fun iv wr => ∃ i : Nat, (i : Int) ≤ 1 ∧ iv = .int .i64 i ∧ ∃ v, AfterT w w1.heap.size (mostS at_ i) v wr) (fun iv _ => (1 - intOf iv).toNat)
    case atStart => exact ⟨0, by omega, rfl, _, A0.out⟩
    case round =>
      obtain ⟨i, hi, rfl, v, ha⟩ := hrel
      have HA := Lib.hid ha
      obtain ⟨hok, hlen⟩ := most_ok at_ (by omega) (by omega) i
      have HOK := Lib.hid hok
      clear ha hok
      by_cases hlt : (i : Int) < 1
      · have HS := Lib.hid (And.intro (most_step at_ (by omega) i) (most_sum at_ i))
        rcases (by omega : (i : Int) + 1 ≤ 32768 ∨ 32768 < (i : Int) + 1) with hm | hm
        · have e1 : min ((i : Int) + 1) 32768 = (i : Int) + 1 := by omega
          have HE := Lib.hid e1
          clear e1
          go_wp2_with fail
          refine (tstep_n HA.out at_ true HOK.out (by omega) (by omega)).mono ?_
          rintro e w2 ⟨rfl, v2, a2⟩
          rw [HS.out.1] at a2
          rw [HS.out.1, HS.out.2, HE.out]
          have A2 := Lib.hid a2
          clear a2
          go_wp2_with fail
          exact ⟨⟨i + 1, by omega, by simp, v2, A2.out⟩, by simp [intOf]; omega⟩
        · exact absurd hm (by omega)
      · have hiN : (i : Int) = 1 := by omega
        have HI := Lib.hid hiN
        by_cases hq : at_ = 9223372036854775807
        · have hqb : (at_ == 9223372036854775807) = true := by simpa using hq
          have hl1 : (mostS at_ i).l.length = 1 := by unfold mostS; rw [if_neg (by omega)]; rfl
          have HL1 := Lib.hid hl1
          clear hq hl1
          go_wp2_with fail
          refine (tcells_c _ _ v _ _ HA.out.tl).mono ?_
          rintro e w3 ⟨rfl, rfl⟩
          rw [HL1.out]
          go_wp2
          go_returns
          exact ⟨rfl, HA.out.tch.noBelow⟩
        · have hqb : (at_ == 9223372036854775807) = false := by simpa using hq
          have ht9 : at_ + 1 ≤ 9223372036854775807 := by omega
          have hnx := most_next at_ (by omega) i (by omega)
          have hv : min (i : Int) 32768 = 1 := by omega
          rw [hv] at hnx
          have hsum : sumL [(⟨at_, 1⟩ : Cl), ⟨at_ + 1, 1⟩] = 1 + 1 := by simp [sumL]
          have HNX := Lib.hid (And.intro hnx hsum)
          clear hnx hv hsum hq
          go_wp2_with fail
          refine (tstep_n HA.out (at_ + 1) true HOK.out (by omega) (by omega)).mono ?_
          rintro e w2 ⟨rfl, v2, a2⟩
          have A2 := Lib.hid a2
          clear a2
          have hs1 : (stepT (mostS at_ i) (at_ + 1) true).l = [(⟨at_, 1⟩ : Cl), ⟨at_ + 1, 1⟩] := HNX.out.1
          have HS1 := Lib.hid hs1
          clear hs1
          rw [HS1.out, HNX.out.2]
          go_wp2_with fail
          refine (tcells_c _ _ v2 _ _ A2.out.tl).mono ?_
          rintro e w3 ⟨rfl, rfl⟩
          rw [HS1.out]
          go_wp2
          go_returns
          exact ⟨rfl, A2.out.tch.noBelow⟩

set_option maxHeartbeats 6400000 in
set_option maxRecDepth 100000 in
theorem tmost_bx (n at_ : Int) (w : World) (h2 : -9223372036854775808 ≤ n) (h3 : n ≤ 9223372036854775807) (h0 : -9223372036854775808 ≤ at_) (h1 : at_ ≤ 9223372036854775807) (hn : 1 ≤ n) (hn' : n ≤ 33000) (ha : at_ < 0) :
    Calls Try.prog 8 #[.int .i64 n, .int .i64 at_] w fun e w' => e = .returned (.bool true) ∧ Below w.heap.size w w' := by
  · go_enter Try.func8, Try.ntmps8
    go_wp2_with fail
    refine (talive_c _).mono ?_
    rintro e w1 ⟨rfl, t1⟩
    have T1 := Lib.hid t1
    clear t1
    go_wp2_with fail
    refine (tnew_c 9 9 _ rfl).mono ?_
    rintro e w2 ⟨rfl, rfl⟩
    have A0 := Lib.hid (aftert_new w w1 ⟨9, 0, []⟩ T1.out rfl)
    go_wp2_with fail
    go_loopw [6] (fun iv wr => ∃ i : Nat, (i : Int) ≤ n ∧ iv = .int .i64 i ∧ ∃ v, AfterT w w1.heap.size (mostS 0 i) v wr) (fun iv _ => (n - intOf iv).toNat)
    case atStart => exact ⟨0, by omega, rfl, _, A0.out⟩
    case round =>
      obtain ⟨i, hi, rfl, v, ha⟩ := hrel
      have HA := Lib.hid ha
      obtain ⟨hok, hlen⟩ := most_ok 0 (by omega) (by omega) i
      have HOK := Lib.hid hok
      clear ha hok
      by_cases hlt : (i : Int) < n
      · have HS := Lib.hid (And.intro (most_step 0 (by omega) i) (most_sum 0 i))
        rcases (by omega : (i : Int) + 1 ≤ 32768 ∨ 32768 < (i : Int) + 1) with hm | hm
        · have e1 : min ((i : Int) + 1) 32768 = (i : Int) + 1 := by omega
          have HE := Lib.hid e1
          clear e1
          go_wp2_with fail
          refine (tstep_n HA.out 0 true HOK.out (by omega) (by omega)).mono ?_
          rintro e w2 ⟨rfl, v2, a2⟩
          rw [HS.out.1] at a2
          rw [HS.out.1, HS.out.2, HE.out]
          have A2 := Lib.hid a2
          clear a2
          go_wp2_with fail
          exact ⟨⟨i + 1, by omega, by simp, v2, A2.out⟩, by simp [intOf]; omega⟩
        · have e1 : min ((i : Int) + 1) 32768 = 32768 := by omega
          have HE := Lib.hid e1
          clear e1
          go_wp2_with fail
          refine (tstep_n HA.out 0 true HOK.out (by omega) (by omega)).mono ?_
          rintro e w2 ⟨rfl, v2, a2⟩
          rw [HS.out.1] at a2
          rw [HS.out.1, HS.out.2, HE.out]
          have A2 := Lib.hid a2
          clear a2
          go_wp2_with fail
          exact ⟨⟨i + 1, by omega, by simp, v2, A2.out⟩, by simp [intOf]; omega⟩
      · have hiN : (i : Int) = n := by omega
        have HI := Lib.hid hiN
        rcases (by omega : n ≤ 32768 ∨ 32768 < n) with hm | hm
        · skip
          have hnx := most_next 0 (by omega) i (by omega)
          have hv : min (i : Int) 32768 = n := by omega
          rw [hv] at hnx
          have hsum : sumL [(⟨0, n⟩ : Cl), ⟨0 + 1, 1⟩] = n + 1 := by simp [sumL]
          have HNX := Lib.hid (And.intro hnx hsum)
          clear hnx hv hsum 
          go_wp2_with fail
          refine (tstep_n HA.out (1) true HOK.out (by omega) (by omega)).mono ?_
          rintro e w2 ⟨rfl, v2, a2⟩
          have A2 := Lib.hid a2
          clear a2
          have hs1 : (stepT (mostS 0 i) (1) true).l = [(⟨0, n⟩ : Cl), ⟨0 + 1, 1⟩] := HNX.out.1
          have HS1 := Lib.hid hs1
          clear hs1
          rw [HS1.out, HNX.out.2]
          go_wp2_with fail
          refine (tcells_c _ _ v2 _ _ A2.out.tl).mono ?_
          rintro e w3 ⟨rfl, rfl⟩
          rw [HS1.out]
          go_wp2
          go_returns
          exact ⟨rfl, A2.out.tch.noBelow⟩
        · skip
          have hnx := most_next 0 (by omega) i (by omega)
          have hv : min (i : Int) 32768 = 32768 := by omega
          rw [hv] at hnx
          have hsum : sumL [(⟨0, 32768⟩ : Cl), ⟨0 + 1, 1⟩] = 32768 + 1 := by simp [sumL]
          have HNX := Lib.hid (And.intro hnx hsum)
          clear hnx hv hsum 
          go_wp2_with fail
          refine (tstep_n HA.out (1) true HOK.out (by omega) (by omega)).mono ?_
          rintro e w2 ⟨rfl, v2, a2⟩
          have A2 := Lib.hid a2
          clear a2
          have hs1 : (stepT (mostS 0 i) (1) true).l = [(⟨0, 32768⟩ : Cl), ⟨0 + 1, 1⟩] := HNX.out.1
          have HS1 := Lib.hid hs1
          clear hs1
          rw [HS1.out, HNX.out.2]
          go_wp2_with fail
          refine (tcells_c _ _ v2 _ _ A2.out.tl).mono ?_
          rintro e w3 ⟨rfl, rfl⟩
          rw [HS1.out]
          go_wp2
          go_returns
          exact ⟨rfl, A2.out.tch.noBelow⟩

set_option maxHeartbeats 6400000 in
set_option maxRecDepth 100000 in
theorem tmost_by (n at_ : Int) (w : World) (h2 : -9223372036854775808 ≤ n) (h3 : n ≤ 9223372036854775807) (h0 : -9223372036854775808 ≤ at_) (h1 : at_ ≤ 9223372036854775807) (hn : 1 ≤ n) (hn' : n ≤ 33000) (ha : 0 ≤ at_) :
    Calls Try.prog 8 #[.int .i64 n, .int .i64 at_] w fun e w' => e = .returned (.bool true) ∧ Below w.heap.size w w' := by
  · go_enter Try.func8, Try.ntmps8
    go_wp2_with fail
    refine (talive_c _).mono ?_
    rintro e w1 ⟨rfl, t1⟩
    have T1 := Lib.hid t1
    clear t1
    go_wp2_with fail
    refine (tnew_c 9 9 _ rfl).mono ?_
    rintro e w2 ⟨rfl, rfl⟩
    have A0 := Lib.hid (aftert_new w w1 ⟨9, 0, []⟩ T1.out rfl)
    go_wp2_with fail
    go_loopw [6] (fun iv wr => ∃ i : Nat, (i : Int) ≤ n ∧ iv = .int .i64 i ∧ ∃ v, AfterT w w1.heap.size (mostS at_ i) v wr) (fun iv _ => (n - intOf iv).toNat)
    case atStart => exact ⟨0, by omega, rfl, _, A0.out⟩
    case round =>
      obtain ⟨i, hi, rfl, v, ha⟩ := hrel
      have HA := Lib.hid ha
      obtain ⟨hok, hlen⟩ := most_ok at_ (by omega) (by omega) i
      have HOK := Lib.hid hok
      clear ha hok
      by_cases hlt : (i : Int) < n
      · have HS := Lib.hid (And.intro (most_step at_ (by omega) i) (most_sum at_ i))
        rcases (by omega : (i : Int) + 1 ≤ 32768 ∨ 32768 < (i : Int) + 1) with hm | hm
        · have e1 : min ((i : Int) + 1) 32768 = (i : Int) + 1 := by omega
          have HE := Lib.hid e1
          clear e1
          go_wp2_with fail
          refine (tstep_n HA.out at_ true HOK.out (by omega) (by omega)).mono ?_
          rintro e w2 ⟨rfl, v2, a2⟩
          rw [HS.out.1] at a2
          rw [HS.out.1, HS.out.2, HE.out]
          have A2 := Lib.hid a2
          clear a2
          go_wp2_with fail
          exact ⟨⟨i + 1, by omega, by simp, v2, A2.out⟩, by simp [intOf]; omega⟩
        · have e1 : min ((i : Int) + 1) 32768 = 32768 := by omega
          have HE := Lib.hid e1
          clear e1
          go_wp2_with fail
          refine (tstep_n HA.out at_ true HOK.out (by omega) (by omega)).mono ?_
          rintro e w2 ⟨rfl, v2, a2⟩
          rw [HS.out.1] at a2
          rw [HS.out.1, HS.out.2, HE.out]
          have A2 := Lib.hid a2
          clear a2
          go_wp2_with fail
          exact ⟨⟨i + 1, by omega, by simp, v2, A2.out⟩, by simp [intOf]; omega⟩
      · have hiN : (i : Int) = n := by omega
        have HI := Lib.hid hiN
        rcases (by omega : n ≤ 32768 ∨ 32768 < n) with hm | hm
        · skip
          by_cases hq : at_ = 9223372036854775807
          · have hqb : (at_ == 9223372036854775807) = true := by simpa using hq
            have hl1 : (mostS at_ i).l.length = 1 := by unfold mostS; rw [if_neg (by omega)]; rfl
            have HL1 := Lib.hid hl1
            clear hq hl1
            go_wp2_with fail
            refine (tcells_c _ _ v _ _ HA.out.tl).mono ?_
            rintro e w3 ⟨rfl, rfl⟩
            rw [HL1.out]
            go_wp2
            go_returns
            exact ⟨rfl, HA.out.tch.noBelow⟩
          · have hqb : (at_ == 9223372036854775807) = false := by simpa using hq
            have ht9 : at_ + 1 ≤ 9223372036854775807 := by omega
            have hnx := most_next at_ (by omega) i (by omega)
            have hv : min (i : Int) 32768 = n := by omega
            rw [hv] at hnx
            have hsum : sumL [(⟨at_, n⟩ : Cl), ⟨at_ + 1, 1⟩] = n + 1 := by simp [sumL]
            have HNX := Lib.hid (And.intro hnx hsum)
            clear hnx hv hsum hq
            go_wp2_with fail
            refine (tstep_n HA.out (at_ + 1) true HOK.out (by omega) (by omega)).mono ?_
            rintro e w2 ⟨rfl, v2, a2⟩
            have A2 := Lib.hid a2
            clear a2
            have hs1 : (stepT (mostS at_ i) (at_ + 1) true).l = [(⟨at_, n⟩ : Cl), ⟨at_ + 1, 1⟩] := HNX.out.1
            have HS1 := Lib.hid hs1
            clear hs1
            rw [HS1.out, HNX.out.2]
            go_wp2_with fail
            refine (tcells_c _ _ v2 _ _ A2.out.tl).mono ?_
            rintro e w3 ⟨rfl, rfl⟩
            rw [HS1.out]
            go_wp2
            go_returns
            exact ⟨rfl, A2.out.tch.noBelow⟩
        · skip
          by_cases hq : at_ = 9223372036854775807
          · have hqb : (at_ == 9223372036854775807) = true := by simpa using hq
            have hl1 : (mostS at_ i).l.length = 1 := by unfold mostS; rw [if_neg (by omega)]; rfl
            have HL1 := Lib.hid hl1
            clear hq hl1
            go_wp2_with fail
            refine (tcells_c _ _ v _ _ HA.out.tl).mono ?_
            rintro e w3 ⟨rfl, rfl⟩
            rw [HL1.out]
            go_wp2
            go_returns
            exact ⟨rfl, HA.out.tch.noBelow⟩
          · have hqb : (at_ == 9223372036854775807) = false := by simpa using hq
            have ht9 : at_ + 1 ≤ 9223372036854775807 := by omega
            have hnx := most_next at_ (by omega) i (by omega)
            have hv : min (i : Int) 32768 = 32768 := by omega
            rw [hv] at hnx
            have hsum : sumL [(⟨at_, 32768⟩ : Cl), ⟨at_ + 1, 1⟩] = 32768 + 1 := by simp [sumL]
            have HNX := Lib.hid (And.intro hnx hsum)
            clear hnx hv hsum hq
            go_wp2_with fail
            refine (tstep_n HA.out (at_ + 1) true HOK.out (by omega) (by omega)).mono ?_
            rintro e w2 ⟨rfl, v2, a2⟩
            have A2 := Lib.hid a2
            clear a2
            have hs1 : (stepT (mostS at_ i) (at_ + 1) true).l = [(⟨at_, 32768⟩ : Cl), ⟨at_ + 1, 1⟩] := HNX.out.1
            have HS1 := Lib.hid hs1
            clear hs1
            rw [HS1.out, HNX.out.2]
            go_wp2_with fail
            refine (tcells_c _ _ v2 _ _ A2.out.tl).mono ?_
            rintro e w3 ⟨rfl, rfl⟩
            rw [HS1.out]
            go_wp2
            go_returns
            exact ⟨rfl, A2.out.tch.noBelow⟩

set_option maxHeartbeats 6400000 in
set_option maxRecDepth 100000 in
theorem tmost_cx (n at_ : Int) (w : World) (h2 : -9223372036854775808 ≤ n) (h3 : n ≤ 9223372036854775807) (h0 : -9223372036854775808 ≤ at_) (h1 : at_ ≤ 9223372036854775807) (hn : 33000 < n) (ha : at_ < 0) :
    Calls Try.prog 8 #[.int .i64 n, .int .i64 at_] w fun e w' => e = .returned (.bool true) ∧ Below w.heap.size w w' := by
  · go_enter Try.func8, Try.ntmps8
    go_wp2_with fail
    refine (talive_c _).mono ?_
    rintro e w1 ⟨rfl, t1⟩
    have T1 := Lib.hid t1
    clear t1
    go_wp2_with fail
    refine (tnew_c 9 9 _ rfl).mono ?_
    rintro e w2 ⟨rfl, rfl⟩
    have A0 := Lib.hid (aftert_new w w1 ⟨9, 0, []⟩ T1.out rfl)
    go_wp2_with fail
    go_loopw [6] (fun iv wr => ∃ i : Nat, (i : Int) ≤ 33000 ∧ iv = .int .i64 i ∧ ∃ v, AfterT w w1.heap.size (mostS 0 i) v wr) (fun iv _ => (33000 - intOf iv).toNat)
    case atStart => exact ⟨0, by omega, rfl, _, A0.out⟩
    case round =>
      obtain ⟨i, hi, rfl, v, ha⟩ := hrel
      have HA := Lib.hid ha
      obtain ⟨hok, hlen⟩ := most_ok 0 (by omega) (by omega) i
      have HOK := Lib.hid hok
      clear ha hok
      by_cases hlt : (i : Int) < 33000
      · have HS := Lib.hid (And.intro (most_step 0 (by omega) i) (most_sum 0 i))
        rcases (by omega : (i : Int) + 1 ≤ 32768 ∨ 32768 < (i : Int) + 1) with hm | hm
        · have e1 : min ((i : Int) + 1) 32768 = (i : Int) + 1 := by omega
          have HE := Lib.hid e1
          clear e1
          go_wp2_with fail
          refine (tstep_n HA.out 0 true HOK.out (by omega) (by omega)).mono ?_
          rintro e w2 ⟨rfl, v2, a2⟩
          rw [HS.out.1] at a2
          rw [HS.out.1, HS.out.2, HE.out]
          have A2 := Lib.hid a2
          clear a2
          go_wp2_with fail
          exact ⟨⟨i + 1, by omega, by simp, v2, A2.out⟩, by simp [intOf]; omega⟩
        · have e1 : min ((i : Int) + 1) 32768 = 32768 := by omega
          have HE := Lib.hid e1
          clear e1
          go_wp2_with fail
          refine (tstep_n HA.out 0 true HOK.out (by omega) (by omega)).mono ?_
          rintro e w2 ⟨rfl, v2, a2⟩
          rw [HS.out.1] at a2
          rw [HS.out.1, HS.out.2, HE.out]
          have A2 := Lib.hid a2
          clear a2
          go_wp2_with fail
          exact ⟨⟨i + 1, by omega, by simp, v2, A2.out⟩, by simp [intOf]; omega⟩
      · have hiN : (i : Int) = 33000 := by omega
        have HI := Lib.hid hiN
        have hnx := most_next 0 (by omega) i (by omega)
        have hv : min (i : Int) 32768 = 32768 := by omega
        rw [hv] at hnx
        have hsum : sumL [(⟨0, 32768⟩ : Cl), ⟨0 + 1, 1⟩] = 32768 + 1 := by simp [sumL]
        have HNX := Lib.hid (And.intro hnx hsum)
        clear hnx hv hsum 
        go_wp2_with fail
        refine (tstep_n HA.out (1) true HOK.out (by omega) (by omega)).mono ?_
        rintro e w2 ⟨rfl, v2, a2⟩
        have A2 := Lib.hid a2
        clear a2
        have hs1 : (stepT (mostS 0 i) (1) true).l = [(⟨0, 32768⟩ : Cl), ⟨0 + 1, 1⟩] := HNX.out.1
        have HS1 := Lib.hid hs1
        clear hs1
        rw [HS1.out, HNX.out.2]
        go_wp2_with fail
        refine (tcells_c _ _ v2 _ _ A2.out.tl).mono ?_
        rintro e w3 ⟨rfl, rfl⟩
        rw [HS1.out]
        go_wp2
        go_returns
        exact ⟨rfl, A2.out.tch.noBelow⟩

set_option maxHeartbeats 6400000 in
set_option maxRecDepth 100000 in
theorem tmost_cy (n at_ : Int) (w : World) (h2 : -9223372036854775808 ≤ n) (h3 : n ≤ 9223372036854775807) (h0 : -9223372036854775808 ≤ at_) (h1 : at_ ≤ 9223372036854775807) (hn : 33000 < n) (ha : 0 ≤ at_) :
    Calls Try.prog 8 #[.int .i64 n, .int .i64 at_] w fun e w' => e = .returned (.bool true) ∧ Below w.heap.size w w' := by
  · go_enter Try.func8, Try.ntmps8
    go_wp2_with fail
    refine (talive_c _).mono ?_
    rintro e w1 ⟨rfl, t1⟩
    have T1 := Lib.hid t1
    clear t1
    go_wp2_with fail
    refine (tnew_c 9 9 _ rfl).mono ?_
    rintro e w2 ⟨rfl, rfl⟩
    have A0 := Lib.hid (aftert_new w w1 ⟨9, 0, []⟩ T1.out rfl)
    go_wp2_with fail
    go_loopw [6] (fun iv wr => ∃ i : Nat, (i : Int) ≤ 33000 ∧ iv = .int .i64 i ∧ ∃ v, AfterT w w1.heap.size (mostS at_ i) v wr) (fun iv _ => (33000 - intOf iv).toNat)
    case atStart => exact ⟨0, by omega, rfl, _, A0.out⟩
    case round =>
      obtain ⟨i, hi, rfl, v, ha⟩ := hrel
      have HA := Lib.hid ha
      obtain ⟨hok, hlen⟩ := most_ok at_ (by omega) (by omega) i
      have HOK := Lib.hid hok
      clear ha hok
      by_cases hlt : (i : Int) < 33000
      · have HS := Lib.hid (And.intro (most_step at_ (by omega) i) (most_sum at_ i))
        rcases (by omega : (i : Int) + 1 ≤ 32768 ∨ 32768 < (i : Int) + 1) with hm | hm
        · have e1 : min ((i : Int) + 1) 32768 = (i : Int) + 1 := by omega
          have HE := Lib.hid e1
          clear e1
          go_wp2_with fail
          refine (tstep_n HA.out at_ true HOK.out (by omega) (by omega)).mono ?_
          rintro e w2 ⟨rfl, v2, a2⟩
          rw [HS.out.1] at a2
          rw [HS.out.1, HS.out.2, HE.out]
          have A2 := Lib.hid a2
          clear a2
          go_wp2_with fail
          exact ⟨⟨i + 1, by omega, by simp, v2, A2.out⟩, by simp [intOf]; omega⟩
        · have e1 : min ((i : Int) + 1) 32768 = 32768 := by omega
          have HE := Lib.hid e1
          clear e1
          go_wp2_with fail
          refine (tstep_n HA.out at_ true HOK.out (by omega) (by omega)).mono ?_
          rintro e w2 ⟨rfl, v2, a2⟩
          rw [HS.out.1] at a2
          rw [HS.out.1, HS.out.2, HE.out]
          have A2 := Lib.hid a2
          clear a2
          go_wp2_with fail
          exact ⟨⟨i + 1, by omega, by simp, v2, A2.out⟩, by simp [intOf]; omega⟩
      · have hiN : (i : Int) = 33000 := by omega
        have HI := Lib.hid hiN
        by_cases hq : at_ = 9223372036854775807
        · have hqb : (at_ == 9223372036854775807) = true := by simpa using hq
          have hl1 : (mostS at_ i).l.length = 1 := by unfold mostS; rw [if_neg (by omega)]; rfl
          have HL1 := Lib.hid hl1
          clear hq hl1
          go_wp2_with fail
          refine (tcells_c _ _ v _ _ HA.out.tl).mono ?_
          rintro e w3 ⟨rfl, rfl⟩
          rw [HL1.out]
          go_wp2
          go_returns
          exact ⟨rfl, HA.out.tch.noBelow⟩
        · have hqb : (at_ == 9223372036854775807) = false := by simpa using hq
          have ht9 : at_ + 1 ≤ 9223372036854775807 := by omega
          have hnx := most_next at_ (by omega) i (by omega)
          have hv : min (i : Int) 32768 = 32768 := by omega
          rw [hv] at hnx
          have hsum : sumL [(⟨at_, 32768⟩ : Cl), ⟨at_ + 1, 1⟩] = 32768 + 1 := by simp [sumL]
          have HNX := Lib.hid (And.intro hnx hsum)
          clear hnx hv hsum hq
          go_wp2_with fail
          refine (tstep_n HA.out (at_ + 1) true HOK.out (by omega) (by omega)).mono ?_
          rintro e w2 ⟨rfl, v2, a2⟩
          have A2 := Lib.hid a2
          clear a2
          have hs1 : (stepT (mostS at_ i) (at_ + 1) true).l = [(⟨at_, 32768⟩ : Cl), ⟨at_ + 1, 1⟩] := HNX.out.1
          have HS1 := Lib.hid hs1
          clear hs1
          rw [HS1.out, HNX.out.2]
          go_wp2_with fail
          refine (tcells_c _ _ v2 _ _ A2.out.tl).mono ?_
          rintro e w3 ⟨rfl, rfl⟩
          rw [HS1.out]
          go_wp2
          go_returns
          exact ⟨rfl, A2.out.tch.noBelow⟩

theorem tmost_walk (n at_ : Int) (w : World) (h2 : -9223372036854775808 ≤ n) (h3 : n ≤ 9223372036854775807) (h0 : -9223372036854775808 ≤ at_) (h1 : at_ ≤ 9223372036854775807) :
    Calls Try.prog 8 #[.int .i64 n, .int .i64 at_] w fun e w' => e = .returned (.bool true) ∧ Below w.heap.size w w' := by
  rcases (by omega : n < 1 ∨ (1 ≤ n ∧ n ≤ 33000) ∨ 33000 < n) with hn | ⟨hn, hn'⟩ | hn <;> rcases (by omega : at_ < 0 ∨ 0 ≤ at_) with ha | ha
  · exact tmost_ax n at_ w h2 h3 h0 h1 hn ha
  · exact tmost_ay n at_ w h2 h3 h0 h1 hn ha
  · exact tmost_bx n at_ w h2 h3 h0 h1 hn hn' ha
  · exact tmost_by n at_ w h2 h3 h0 h1 hn hn' ha
  · exact tmost_cx n at_ w h2 h3 h0 h1 hn ha
  · exact tmost_cy n at_ w h2 h3 h0 h1 hn ha
end Go.Proofs.Ytppbgkadpomblaa
