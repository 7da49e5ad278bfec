/- Contracts. -/
import Derived.Test.YtmoiehbhhplckaaProg
import Derived.Test.YtmoiehbhhplckaaN5
import Derived.Test.YtmoiehbhhplckaaP0
import Derived.Tactics
import Derived.Tactics2
import Derived.WalkKit
import Derived.WalkSpells
import Derived.WalkLawsBesides
import Derived.StillTactics
import Derived.StillTailTactics
import Derived.OwnWalk
import Derived.Laws.Pointers
import Derived.Laws.ResultCell
import Derived.Deep.RegionHeld3
import Derived.Deep.RegionWith
import Derived.Deep.RegionLaw
import Derived.Deep.AppendLies
import Derived.Deep.QuietTactic
import Derived.BigQuiet
import Derived.LoopTactic
import Derived.Deep.LoopGhost
import Derived.Deep.DeepCutAuto
import Derived.Deep.DeepFit
import Derived.Maps.AppendAt
import Derived.Below
import Derived.Lib.Hide
import Derived.Handy
import Derived.KernelRfl
import Derived.IntWalk
import Derived.Laws.AppendOwnNone
import Derived.Laws.IdiomStrings
namespace Go.Proofs.Ytmoiehbhhplckaa
set_option linter.unusedVariables false
set_option linter.unusedSimpArgs false
open Go.RowKit

def PairT (v : Int × Bool) (w : World) (e : Ending) (w' : World) : Prop := e = .returned (.tuple #[.int .i64 v.1, .bool v.2]) ∧ Tch No w w'
theorem byte_at (s : ByteArray) (k : Nat) (h : k < s.size) : s.data.toList[k]? = some s[k] := by
  have h1 : k < s.data.toList.length := by simpa using h
  rw [List.getElem?_eq_getElem h1]
  rfl
theorem take_succ_of {α : Type} {l : List α} {i : Nat} {x : α} (h : l[i]? = some x) : l.take (i + 1) = l.take i ++ [x] := by
  obtain ⟨hi, hx⟩ := List.getElem?_eq_some_iff.1 h
  rw [List.take_succ_eq_append_getElem hi, hx]
theorem valL_take_succ {l : List UInt8} {k : Nat} {c : UInt8} (h : l[k]? = some c) : valL (l.take (k + 1)) = valL (l.take k) * 10 + (c.toNat - 48) := by
  rw [take_succ_of h, valL_snoc]
theorem dec_nat (n : Nat) : decL (n : Int) = digs n := by
  unfold decL
  rw [if_neg (by omega)]
  simp

set_option maxHeartbeats 3200000 in
set_option maxRecDepth 100000 in
theorem parse_c (s : ByteArray) (w : World) (hs : s.size ≤ 9223372036854775807) : Calls Try.prog 20 #[.string s] w (PairT (parseV s.data.toList) w) := by
  go_enter Try.func20, Try.ntmps20
  go_wp2_with fail
  go_loop [4, 12] (fun nv iv => ∃ k : Nat, k ≤ s.size ∧ iv = .int .i64 k ∧ nv = .int .i64 (valL (s.data.toList.take k) : Nat) ∧ valL (s.data.toList.take k) ≤ 9223372036854775807) (fun _ iv => s.size - (intOf iv).toNat)
  case atStart => exact ⟨0, by omega, rfl, rfl, by simp [valL]⟩
  case round =>
    obtain ⟨k, hk, rfl, rfl, hv⟩ := hrel
    by_cases hlt : k < s.size
    · have hc := byte_at s k hlt
      have hvs := valL_take_succ hc
      have hb1 : (s[k].toNat : Int) < 256 := by have := UInt8.toNat_lt s[k]; omega
      have HC := Lib.hid hc
      have HVS := Lib.hid hvs
      clear hc hvs
      by_cases hd : isD s[k]
      · have hd1 : (48 : Int) ≤ (s[k].toNat : Int) := by unfold isD at hd; omega
        have hd2 : (s[k].toNat : Int) ≤ 57 := by unfold isD at hd; omega
        have hkd : (s[k].toNat : Int) - 48 = ((s[k].toNat - 48 : Nat) : Int) := by omega
        have HKD := Lib.hid hkd
        clear hd hkd
        generalize hV : valL (s.data.toList.take k) = V at *
        have HV := Lib.hid hV
        clear hV
        have hFV : Fit (V : Int) := by unfold Fit; omega
        have HFV := Lib.hid hFV
        have hFd : Fit ((s[k].toNat : Int) - 48) := by unfold Fit; omega
        have HFd := Lib.hid hFd
        clear hFV hFd
        by_cases h1 : (V : Int) * 10 ≤ 9223372036854775807
        · have hm : mulV (V : Int) 10 = ((V : Int) * 10, true) := if_pos (by unfold Fit; omega)
          have HM := Lib.hid hm
          have hFm : Fit ((V : Int) * 10) := by unfold Fit; omega
          have HFm := Lib.hid hFm
          clear hm hFm
          by_cases h2 : (V : Int) * 10 + ((s[k].toNat : Int) - 48) ≤ 9223372036854775807
          · have ha : addV ((V : Int) * 10) ((s[k].toNat : Int) - 48) = ((V : Int) * 10 + ((s[k].toNat : Int) - 48), true) := if_pos (by unfold Fit; omega)
            have HAd := Lib.hid ha
            clear ha
            go_wp2_with fail
            refine (mul_c (V : Int) 10 _ HFV.out (fit_of (by decide) (by decide))).mono ?_
            rintro e w' ⟨rfl, rfl⟩
            rw [HM.out]
            go_wp2_with fail
            refine (add_c ((V : Int) * 10) ((s[k].toNat : Int) - 48) _ HFm.out HFd.out).mono ?_
            rintro e w' ⟨rfl, rfl⟩
            rw [HAd.out]
            go_wp2_with fail
            have hfin : (V : Int) * 10 + ((s[k].toNat : Int) - 48) = ((valL (s.data.toList.take (k + 1)) : Nat) : Int) := by rw [HVS.out]; omega
            exact ⟨⟨k + 1, by omega, by simp, by rw [hfin], by omega⟩, by simp [intOf]; omega⟩
          · have ha : addV ((V : Int) * 10) ((s[k].toNat : Int) - 48) = (0, false) := if_neg (by unfold Fit; omega)
            have HAd := Lib.hid ha
            have hno := Lib.hid (parse_big (l := s.data.toList) (i := k + 1) (by rw [HVS.out]; omega))
            clear ha h2
            go_wp2_with fail
            refine (mul_c (V : Int) 10 _ HFV.out (fit_of (by decide) (by decide))).mono ?_
            rintro e w' ⟨rfl, rfl⟩
            rw [HM.out]
            go_wp2_with fail
            refine (add_c ((V : Int) * 10) ((s[k].toNat : Int) - 48) _ HFm.out HFd.out).mono ?_
            rintro e w' ⟨rfl, rfl⟩
            rw [HAd.out]
            go_wp2_with fail
            go_returns
            exact ⟨by rw [hno.out]; rfl, Tch.refl _ _⟩
        · have hm : mulV (V : Int) 10 = (0, false) := if_neg (by unfold Fit; omega)
          have HM := Lib.hid hm
          have hno := Lib.hid (parse_big (l := s.data.toList) (i := k + 1) (by rw [HVS.out]; omega))
          clear hm h1
          go_wp2_with fail
          refine (mul_c (V : Int) 10 _ HFV.out (fit_of (by decide) (by decide))).mono ?_
          rintro e w' ⟨rfl, rfl⟩
          rw [HM.out]
          go_wp2_with fail
          refine (add_c 0 ((s[k].toNat : Int) - 48) _ (fit_of (by decide) (by decide)) HFd.out).mono ?_
          rintro e w' ⟨rfl, rfl⟩
          generalize addV 0 ((s[k].toNat : Int) - 48) = q
          go_wp2_with fail
          go_returns
          exact ⟨by rw [hno.out]; rfl, Tch.refl _ _⟩
      · have hno := Lib.hid (parse_bad HC.out hd)
        have hd2 : (s[k].toNat : Int) < 48 ∨ (57 : Int) < (s[k].toNat : Int) := by unfold isD at hd; omega
        clear hd
        rcases hd2 with hd2 | hd2
        all_goals
          go_wp2
          go_returns
          exact ⟨by rw [hno.out]; rfl, Tch.refl _ _⟩
    · have hks : k = s.size := by omega
      subst hks
      have e0 : s.data.toList.take s.size = s.data.toList := List.take_of_length_le (by simp)
      rw [e0] at hv
      rw [e0]
      generalize hV : valL s.data.toList = V at *
      have HV := Lib.hid hV
      clear e0 hV
      by_cases hq : (digs V).toArray = s.data
      · have hy : parseV s.data.toList = ((V : Int), true) := by
          have := parse_yes (l := s.data.toList) (by rw [HV.out, ← hq]) (by rw [HV.out]; exact hv)
          rw [HV.out] at this
          exact this
        have HY := Lib.hid hy
        have HQ := Lib.hid hq
        clear hy hq
        go_wp2_with fail
        refine (decimal_c (V : Int) _ (by unfold Fit; omega)).mono ?_
        rintro e w2 ⟨rfl, t2⟩
        rw [dec_nat, HQ.out]
        go_wp2_with fail
        go_returns
        exact ⟨by rw [HY.out]; rfl, t2⟩
      · have hy : parseV s.data.toList = (0, false) := parse_no (by
          rw [HV.out]
          rintro ⟨e, _⟩
          exact hq (by rw [← e]))
        have HY := Lib.hid hy
        have hneq : (digs V == s.toList) = false := by
          rw [beq_eq_false_iff_ne, Lib.toList_data]
          intro e
          exact hq (by rw [e])
        clear hy hq
        go_wp2_with fail
        refine (decimal_c (V : Int) _ (by unfold Fit; omega)).mono ?_
        rintro e w2 ⟨rfl, t2⟩
        rw [dec_nat]
        go_wp2_with fail
        go_returns
        exact ⟨by rw [HY.out]; rfl, t2⟩

/-- The first k octets are digits. -/
def DigT (s : ByteArray) (k : Nat) : Prop := ∀ c ∈ s.data.toList.take k, isD c
theorem digT_succ {s : ByteArray} {k : Nat} {c : UInt8} (h : DigT s k) (hc : s.data.toList[k]? = some c) (hd : isD c) : DigT s (k + 1) := by
  intro x hx
  rw [take_succ_of hc] at hx
  rcases List.mem_append.1 hx with hx | hx
  · exact h x hx
  · simp at hx; subst hx; exact hd
theorem lead_no (s : ByteArray) (hp : 0 < s.size) (h3 : 1 < s.size) (h4 : s[0].toNat = 48) : parseV s.data.toList = (0, false) := by
  have h := byte_at s 0 hp
  cases hl : s.data.toList with
  | nil => rw [hl] at h; simp at h
  | cons c r =>
    rw [hl] at h
    simp at h
    subst h
    refine parse_lead rfl (fun e => ?_) h4
    subst e
    have := congrArg List.length hl
    simp at this
    omega
def maxB : ByteArray := ⟨#[57, 50, 50, 51, 51, 55, 50, 48, 51, 54, 56, 53, 52, 55, 55, 53, 56, 48, 55]⟩
theorem maxB_list : maxB.toList = [57, 50, 50, 51, 51, 55, 50, 48, 51, 54, 56, 53, 52, 55, 55, 53, 56, 48, 55] := by rw [Lib.toList_data]; rfl
theorem maxB_val : valL maxB.toList = 9223372036854775807 := by rw [maxB_list]; decide +kernel

def gtB (s : ByteArray) : Bool := !(Op.bytesLess s.toList maxB.toList || s.toList == maxB.toList)
theorem maxB_d : ∀ c ∈ maxB.toList, isD c := by rw [maxB_list]; decide
theorem gt_val (s : ByteArray) (h : s.size = 19) (hd : ∀ c ∈ s.data.toList, isD c) : gtB s = true ↔ 9223372036854775807 < valL s.data.toList := by
  rw [← Lib.toList_data] at hd ⊢
  obtain ⟨h1, h2⟩ := less_val s.toList maxB.toList (by rw [maxB_list, Lib.toList_data]; simpa using h) hd maxB_d
  rw [maxB_val] at h1 h2
  unfold gtB
  rcases Nat.lt_trichotomy (valL s.toList) 9223372036854775807 with hv | hv | hv
  · rw [h1.2 hv]
    constructor
    · intro h; cases h
    · intro h; omega
  · rw [h2.2 hv, Bool.or_true]
    constructor
    · intro h; cases h
    · intro h; omega
  · have e1 : Op.bytesLess s.toList maxB.toList = false := by
      cases hx : Op.bytesLess s.toList maxB.toList
      · rfl
      · have := h1.1 hx; omega
    have e2 : (s.toList == maxB.toList) = false := by
      cases hx : (s.toList == maxB.toList)
      · rfl
      · have := h2.1 hx; omega
    rw [e1, e2]
    exact ⟨fun _ => hv, fun _ => rfl⟩
theorem gt_parts (s : ByteArray) : (gtB s = true → Op.bytesLess s.toList [57, 50, 50, 51, 51, 55, 50, 48, 51, 54, 56, 53, 52, 55, 55, 53, 56, 48, 55] = false ∧ (s.toList == [57, 50, 50, 51, 51, 55, 50, 48, 51, 54, 56, 53, 52, 55, 55, 53, 56, 48, 55]) = false) ∧ (gtB s = false → Op.bytesLess s.toList [57, 50, 50, 51, 51, 55, 50, 48, 51, 54, 56, 53, 52, 55, 55, 53, 56, 48, 55] = true ∨ (Op.bytesLess s.toList [57, 50, 50, 51, 51, 55, 50, 48, 51, 54, 56, 53, 52, 55, 55, 53, 56, 48, 55] = false ∧ (s.toList == [57, 50, 50, 51, 51, 55, 50, 48, 51, 54, 56, 53, 52, 55, 55, 53, 56, 48, 55]) = true)) := by
  unfold gtB
  rw [maxB_list]
  cases Op.bytesLess s.toList [57, 50, 50, 51, 51, 55, 50, 48, 51, 54, 56, 53, 52, 55, 55, 53, 56, 48, 55] <;> cases (s.toList == [57, 50, 50, 51, 51, 55, 50, 48, 51, 54, 56, 53, 52, 55, 55, 53, 56, 48, 55]) <;> simp
theorem gt_no (s : ByteArray) (h : s.size = 19) (hg : gtB s = true) : parseV s.data.toList = (0, false) := by
  by_cases hd : ∀ c ∈ s.data.toList, isD c
  · have hv := (gt_val s h hd).1 hg
    exact parse_no fun hh => absurd hv (Nat.not_lt.2 hh.2)
  · refine parse_no fun ⟨e, _⟩ => hd ?_
    rw [e]
    exact digs_all _
theorem bound_ok (s : ByteArray) (h1 : s.size ≤ 19) (h2 : ¬ (s.size = 19 ∧ gtB s = true)) (k : Nat) (hk : k ≤ s.size) (hd : ∀ c ∈ s.data.toList.take k, isD c) : valL (s.data.toList.take k) ≤ 9223372036854775807 := by
  have hl := valL_lt _ hd
  by_cases h18 : k ≤ 18
  · have : (s.data.toList.take k).length ≤ 18 := by simp; omega
    have := Nat.pow_le_pow_right (show 0 < 10 by omega) this
    omega
  · have hk19 : k = s.size := by omega
    have h19 : s.size = 19 := by omega
    have e0 : s.data.toList.take k = s.data.toList := List.take_of_length_le (by simp; omega)
    rw [e0] at hd ⊢
    rcases Nat.lt_or_ge 9223372036854775807 (valL s.data.toList) with h | h
    · exact absurd ⟨h19, (gt_val s h19 hd).2 h⟩ h2
    · exact h
theorem end_ok (s : ByteArray) (h0 : 0 < s.size) (h1 : s.size ≤ 19) (h2 : ¬ (s.size = 19 ∧ gtB s = true)) (h3 : ¬ (1 < s.size ∧ s[0].toNat = 48)) (hd : ∀ c ∈ s.data.toList, isD c) : parseV s.data.toList = ((valL s.data.toList : Int), true) := by
  have hb := bound_ok s h1 h2 s.size (Nat.le_refl _) (by rw [List.take_of_length_le (by simp)]; exact hd)
  rw [List.take_of_length_le (by simp)] at hb
  refine parse_yes (digs_valL _ hd (fun e => ?_) ?_) hb
  · have h9 : s.data.toList.length = s.size := by simp
    rw [e] at h9
    have : (0 : Nat) = s.size := h9
    omega
  · rcases (by omega : s.size = 1 ∨ 1 < s.size) with h | h
    · left; simpa using h
    · right
      intro c r e hc
      refine h3 ⟨h, ?_⟩
      have := byte_at s 0 h0
      rw [e] at this
      simp at this
      rw [← this]; exact hc

set_option maxHeartbeats 3200000 in
set_option maxRecDepth 100000 in
theorem rparse_c (s : ByteArray) (w : World) : Calls Try.prog 21 #[.string s] w (PairT (parseV s.data.toList) w) := by
  by_cases h1 : s.size = 0
  · have hl : s.data.toList = [] := List.eq_nil_of_length_eq_zero (by simpa using h1)
    have h2 : parseV s.data.toList = (0, false) := by rw [hl]; exact parse_no (fun ⟨e, _⟩ => digs_ne _ e.symm)
    have he : s.toList.isEmpty = true := by rw [Lib.toList_data, hl]; rfl
    have H2 := Lib.hid h2
    clear h1 hl h2
    go_enter Try.func21, Try.ntmps21
    go_wp2
    go_returns
    exact ⟨by rw [H2.out]; rfl, Tch.refl _ _⟩
  · have he : s.toList.isEmpty = false := by
      rw [Lib.toList_data]
      cases hl : s.data.toList with
      | nil => exact absurd (by simpa using congrArg List.length hl) h1
      | cons _ _ => rfl
    have hp : 0 < s.size := by omega
    clear h1
    by_cases h2 : 19 < s.size
    · have h3 := Lib.hid (parse_long (l := s.data.toList) (by simpa using h2))
      go_enter Try.func21, Try.ntmps21
      go_wp2
      go_returns
      exact ⟨by rw [h3.out]; rfl, Tch.refl _ _⟩
    · have hc0 := byte_at s 0 hp
      by_cases h3 : 1 < s.size ∧ s[0].toNat = 48
      · obtain ⟨h3, h4⟩ := h3
        have h5 := Lib.hid (lead_no s hp h3 h4)
        have h6 : ((s[0].toNat : Int) == 48) = true := by simp; omega
        clear h4 hc0
        go_enter Try.func21, Try.ntmps21
        go_wp2
        go_returns
        exact ⟨by rw [h5.out]; rfl, Tch.refl _ _⟩
      · by_cases h4 : s.size = 19 ∧ gtB s = true
        · obtain ⟨h4, h5⟩ := h4
          have h6 := Lib.hid (gt_no s h4 h5)
          have h7 : ((s.size : Int) == 19) = true := by simp; omega
          have h8 : ((s[0].toNat : Int) == 48) = false := by simp; omega
          obtain ⟨hb1, hb2⟩ := (gt_parts s).1 h5
          have hs1 : (1 : Int) < (s.size : Int) := by omega
          have hs2 : (s.size : Int) ≤ 19 := by omega
          have hs3 : decide ((19 : Int) < (s.size : Int)) = false := by simp; omega
          clear h2 h3 h4 h5 hc0
          go_enter Try.func21, Try.ntmps21
          go_wp2_with fail
          go_returns
          exact ⟨by rw [h6.out]; rfl, Tch.refl _ _⟩
        · have hBD : ∀ k, k ≤ s.size → DigT s k → valL (s.data.toList.take k) ≤ 9223372036854775807 := fun k hk hd => bound_ok s (by omega) h4 k hk hd
          have hEN : (∀ c ∈ s.data.toList, isD c) → parseV s.data.toList = ((valL s.data.toList : Int), true) := fun hd => end_ok s hp (by omega) h4 h3 hd
          have hs2 : (s.size : Int) ≤ 19 := by omega
          have hs3 : decide ((19 : Int) < (s.size : Int)) = false := by simp; omega
          rcases (by omega : s.size = 1 ∨ 1 < s.size) with h5 | h5
          · have hs4 : ¬ (1 : Int) < (s.size : Int) := by omega
            have hs5 : ((s.size : Int) == 19) = false := by simp; omega
            have hs6 : decide ((1 : Int) < (s.size : Int)) = false := by simp; omega
            clear h2 h3 h4 h5 hc0
            have HE := Lib.hid (And.intro hBD hEN)
            clear hBD hEN
            go_enter Try.func21, Try.ntmps21
            go_wp2_with fail
            go_loop [4, 5] (fun nv iv => ∃ k : Nat, k ≤ s.size ∧ iv = .int .i64 k ∧ nv = .int .i64 (valL (s.data.toList.take k) : Nat) ∧ valL (s.data.toList.take k) ≤ 9223372036854775807 ∧ DigT s k) (fun _ iv => s.size - (intOf iv).toNat)
            case atStart => exact ⟨0, by omega, rfl, rfl, by simp [valL], fun c hc => by simp at hc⟩
            case round =>
              obtain ⟨k, hk, rfl, rfl, hv, hdt⟩ := hrel
              have HDT := Lib.hid hdt
              clear hdt
              by_cases hlt : k < s.size
              · have hc := byte_at s k hlt
                have hvs := valL_take_succ hc
                have hb1 : (s[k].toNat : Int) < 256 := by have := UInt8.toNat_lt s[k]; omega
                have HC := Lib.hid hc
                have HVS := Lib.hid hvs
                by_cases hd : isD s[k]
                · have hdt2 := digT_succ HDT.out hc hd
                  have hbd := HE.out.1 (k + 1) (by omega) hdt2
                  rw [hvs] at hbd
                  have HDT2 := Lib.hid hdt2
                  have hd1 : (48 : Int) ≤ (s[k].toNat : Int) := by unfold isD at hd; omega
                  have hd2 : (s[k].toNat : Int) ≤ 57 := by unfold isD at hd; omega
                  have hbd2 : (valL (s.data.toList.take k) : Int) * 10 + ((s[k].toNat : Int) - 48) ≤ 9223372036854775807 := by omega
                  clear hd hc hvs hdt2 hbd
                  generalize hV : valL (s.data.toList.take k) = V at *
                  have HV := Lib.hid hV
                  clear hV
                  go_wp2_with fail
                  have hfin : (V : Int) * 10 + ((s[k].toNat : Int) - 48) = ((valL (s.data.toList.take (k + 1)) : Nat) : Int) := by rw [HVS.out]; omega
                  exact ⟨⟨k + 1, by omega, by simp, by rw [hfin], by omega, HDT2.out⟩, by simp [intOf]; omega⟩
                · have hno := Lib.hid (parse_bad HC.out hd)
                  have hd2 : (s[k].toNat : Int) < 48 ∨ (57 : Int) < (s[k].toNat : Int) := by unfold isD at hd; omega
                  clear hd hc hvs
                  rcases hd2 with hd2 | hd2
                  all_goals
                    go_wp2_with fail
                    go_returns
                    exact ⟨by rw [hno.out]; rfl, Tch.refl _ _⟩
              · have hks : k = s.size := by omega
                subst hks
                have e0 : s.data.toList.take s.size = s.data.toList := List.take_of_length_le (by simp)
                have hy := HE.out.2 (fun c hc => HDT.out c (by rw [e0]; exact hc))
                rw [e0] at hv
                rw [e0]
                have HY := Lib.hid hy
                clear e0 hy
                go_wp2_with fail
                go_returns
                exact ⟨by rw [HY.out]; rfl, Tch.refl _ _⟩
          · have hs4 : (1 : Int) < (s.size : Int) := by omega
            have hs6 : decide ((1 : Int) < (s.size : Int)) = true := by simp; omega
            have h8 : ((s[0].toNat : Int) == 48) = false := by simp; omega
            by_cases h6 : s.size = 19
            · have h7 : gtB s = false := by
                cases hx : gtB s
                · rfl
                · exact absurd ⟨h6, hx⟩ h4
              have hs5 : ((s.size : Int) == 19) = true := by simp; omega
              have hpp := (gt_parts s).2 h7
              clear h2 h3 h4 h5 h6 h7 hc0
              rcases hpp with hb1 | ⟨hb1, hb2⟩
              · skip
                have HE := Lib.hid (And.intro hBD hEN)
                clear hBD hEN
                go_enter Try.func21, Try.ntmps21
                go_wp2_with fail
                go_loop [4, 5] (fun nv iv => ∃ k : Nat, k ≤ s.size ∧ iv = .int .i64 k ∧ nv = .int .i64 (valL (s.data.toList.take k) : Nat) ∧ valL (s.data.toList.take k) ≤ 9223372036854775807 ∧ DigT s k) (fun _ iv => s.size - (intOf iv).toNat)
                case atStart => exact ⟨0, by omega, rfl, rfl, by simp [valL], fun c hc => by simp at hc⟩
                case round =>
                  obtain ⟨k, hk, rfl, rfl, hv, hdt⟩ := hrel
                  have HDT := Lib.hid hdt
                  clear hdt
                  by_cases hlt : k < s.size
                  · have hc := byte_at s k hlt
                    have hvs := valL_take_succ hc
                    have hb1 : (s[k].toNat : Int) < 256 := by have := UInt8.toNat_lt s[k]; omega
                    have HC := Lib.hid hc
                    have HVS := Lib.hid hvs
                    by_cases hd : isD s[k]
                    · have hdt2 := digT_succ HDT.out hc hd
                      have hbd := HE.out.1 (k + 1) (by omega) hdt2
                      rw [hvs] at hbd
                      have HDT2 := Lib.hid hdt2
                      have hd1 : (48 : Int) ≤ (s[k].toNat : Int) := by unfold isD at hd; omega
                      have hd2 : (s[k].toNat : Int) ≤ 57 := by unfold isD at hd; omega
                      have hbd2 : (valL (s.data.toList.take k) : Int) * 10 + ((s[k].toNat : Int) - 48) ≤ 9223372036854775807 := by omega
                      clear hd hc hvs hdt2 hbd
                      generalize hV : valL (s.data.toList.take k) = V at *
                      have HV := Lib.hid hV
                      clear hV
                      go_wp2_with fail
                      have hfin : (V : Int) * 10 + ((s[k].toNat : Int) - 48) = ((valL (s.data.toList.take (k + 1)) : Nat) : Int) := by rw [HVS.out]; omega
                      exact ⟨⟨k + 1, by omega, by simp, by rw [hfin], by omega, HDT2.out⟩, by simp [intOf]; omega⟩
                    · have hno := Lib.hid (parse_bad HC.out hd)
                      have hd2 : (s[k].toNat : Int) < 48 ∨ (57 : Int) < (s[k].toNat : Int) := by unfold isD at hd; omega
                      clear hd hc hvs
                      rcases hd2 with hd2 | hd2
                      all_goals
                        go_wp2_with fail
                        go_returns
                        exact ⟨by rw [hno.out]; rfl, Tch.refl _ _⟩
                  · have hks : k = s.size := by omega
                    subst hks
                    have e0 : s.data.toList.take s.size = s.data.toList := List.take_of_length_le (by simp)
                    have hy := HE.out.2 (fun c hc => HDT.out c (by rw [e0]; exact hc))
                    rw [e0] at hv
                    rw [e0]
                    have HY := Lib.hid hy
                    clear e0 hy
                    go_wp2_with fail
                    go_returns
                    exact ⟨by rw [HY.out]; rfl, Tch.refl _ _⟩
              · skip
                have HE := Lib.hid (And.intro hBD hEN)
                clear hBD hEN
                go_enter Try.func21, Try.ntmps21
                go_wp2_with fail
                go_loop [4, 5] (fun nv iv => ∃ k : Nat, k ≤ s.size ∧ iv = .int .i64 k ∧ nv = .int .i64 (valL (s.data.toList.take k) : Nat) ∧ valL (s.data.toList.take k) ≤ 9223372036854775807 ∧ DigT s k) (fun _ iv => s.size - (intOf iv).toNat)
                case atStart => exact ⟨0, by omega, rfl, rfl, by simp [valL], fun c hc => by simp at hc⟩
                case round =>
                  obtain ⟨k, hk, rfl, rfl, hv, hdt⟩ := hrel
                  have HDT := Lib.hid hdt
                  clear hdt
                  by_cases hlt : k < s.size
                  · have hc := byte_at s k hlt
                    have hvs := valL_take_succ hc
                    have hb1 : (s[k].toNat : Int) < 256 := by have := UInt8.toNat_lt s[k]; omega
                    have HC := Lib.hid hc
                    have HVS := Lib.hid hvs
                    by_cases hd : isD s[k]
                    · have hdt2 := digT_succ HDT.out hc hd
                      have hbd := HE.out.1 (k + 1) (by omega) hdt2
                      rw [hvs] at hbd
                      have HDT2 := Lib.hid hdt2
                      have hd1 : (48 : Int) ≤ (s[k].toNat : Int) := by unfold isD at hd; omega
                      have hd2 : (s[k].toNat : Int) ≤ 57 := by unfold isD at hd; omega
                      have hbd2 : (valL (s.data.toList.take k) : Int) * 10 + ((s[k].toNat : Int) - 48) ≤ 9223372036854775807 := by omega
                      clear hd hc hvs hdt2 hbd
                      generalize hV : valL (s.data.toList.take k) = V at *
                      have HV := Lib.hid hV
                      clear hV
                      go_wp2_with fail
                      have hfin : (V : Int) * 10 + ((s[k].toNat : Int) - 48) = ((valL (s.data.toList.take (k + 1)) : Nat) : Int) := by rw [HVS.out]; omega
                      exact ⟨⟨k + 1, by omega, by simp, by rw [hfin], by omega, HDT2.out⟩, by simp [intOf]; omega⟩
                    · have hno := Lib.hid (parse_bad HC.out hd)
                      have hd2 : (s[k].toNat : Int) < 48 ∨ (57 : Int) < (s[k].toNat : Int) := by unfold isD at hd; omega
                      clear hd hc hvs
                      rcases hd2 with hd2 | hd2
                      all_goals
                        go_wp2_with fail
                        go_returns
                        exact ⟨by rw [hno.out]; rfl, Tch.refl _ _⟩
                  · have hks : k = s.size := by omega
                    subst hks
                    have e0 : s.data.toList.take s.size = s.data.toList := List.take_of_length_le (by simp)
                    have hy := HE.out.2 (fun c hc => HDT.out c (by rw [e0]; exact hc))
                    rw [e0] at hv
                    rw [e0]
                    have HY := Lib.hid hy
                    clear e0 hy
                    go_wp2_with fail
                    go_returns
                    exact ⟨by rw [HY.out]; rfl, Tch.refl _ _⟩
            · have hs5 : ((s.size : Int) == 19) = false := by simp; omega
              clear h2 h3 h4 h5 h6 hc0
              have HE := Lib.hid (And.intro hBD hEN)
              clear hBD hEN
              go_enter Try.func21, Try.ntmps21
              go_wp2_with fail
              go_loop [4, 5] (fun nv iv => ∃ k : Nat, k ≤ s.size ∧ iv = .int .i64 k ∧ nv = .int .i64 (valL (s.data.toList.take k) : Nat) ∧ valL (s.data.toList.take k) ≤ 9223372036854775807 ∧ DigT s k) (fun _ iv => s.size - (intOf iv).toNat)
              case atStart => exact ⟨0, by omega, rfl, rfl, by simp [valL], fun c hc => by simp at hc⟩
              case round =>
                obtain ⟨k, hk, rfl, rfl, hv, hdt⟩ := hrel
                have HDT := Lib.hid hdt
                clear hdt
                by_cases hlt : k < s.size
                · have hc := byte_at s k hlt
                  have hvs := valL_take_succ hc
                  have hb1 : (s[k].toNat : Int) < 256 := by have := UInt8.toNat_lt s[k]; omega
                  have HC := Lib.hid hc
                  have HVS := Lib.hid hvs
                  by_cases hd : isD s[k]
                  · have hdt2 := digT_succ HDT.out hc hd
                    have hbd := HE.out.1 (k + 1) (by omega) hdt2
                    rw [hvs] at hbd
                    have HDT2 := Lib.hid hdt2
                    have hd1 : (48 : Int) ≤ (s[k].toNat : Int) := by unfold isD at hd; omega
                    have hd2 : (s[k].toNat : Int) ≤ 57 := by unfold isD at hd; omega
                    have hbd2 : (valL (s.data.toList.take k) : Int) * 10 + ((s[k].toNat : Int) - 48) ≤ 9223372036854775807 := by omega
                    clear hd hc hvs hdt2 hbd
                    generalize hV : valL (s.data.toList.take k) = V at *
                    have HV := Lib.hid hV
                    clear hV
                    go_wp2_with fail
                    have hfin : (V : Int) * 10 + ((s[k].toNat : Int) - 48) = ((valL (s.data.toList.take (k + 1)) : Nat) : Int) := by rw [HVS.out]; omega
                    exact ⟨⟨k + 1, by omega, by simp, by rw [hfin], by omega, HDT2.out⟩, by simp [intOf]; omega⟩
                  · have hno := Lib.hid (parse_bad HC.out hd)
                    have hd2 : (s[k].toNat : Int) < 48 ∨ (57 : Int) < (s[k].toNat : Int) := by unfold isD at hd; omega
                    clear hd hc hvs
                    rcases hd2 with hd2 | hd2
                    all_goals
                      go_wp2_with fail
                      go_returns
                      exact ⟨by rw [hno.out]; rfl, Tch.refl _ _⟩
                · have hks : k = s.size := by omega
                  subst hks
                  have e0 : s.data.toList.take s.size = s.data.toList := List.take_of_length_le (by simp)
                  have hy := HE.out.2 (fun c hc => HDT.out c (by rw [e0]; exact hc))
                  rw [e0] at hv
                  rw [e0]
                  have HY := Lib.hid hy
                  clear e0 hy
                  go_wp2_with fail
                  go_returns
                  exact ⟨by rw [HY.out]; rfl, Tch.refl _ _⟩

/-! ## what the two laws ask -/
set_option maxHeartbeats 1600000 in
set_option maxRecDepth 100000 in
theorem reads_walk (n : Int) (s : ByteArray) (w : World) (h0 : -9223372036854775808 ≤ n) (h1 : n ≤ 9223372036854775807) (hs : s.size ≤ 140737488351232) :
    Calls Try.prog 5 #[.int .i64 n, .string s] w fun e w' => e = .returned (.bool true) ∧ Below w.heap.size w w' := by
  have HN := Lib.hid (fit_of h0 h1)
  go_enter Try.func5, Try.ntmps5
  go_wp2_with fail
  refine (alive_c _).mono ?_
  rintro e w1 ⟨rfl, t1⟩
  have T1 := Lib.hid t1
  clear t1
  go_wp2_with fail
  refine (parse_c s _ (by omega)).mono ?_
  rintro e w2 ⟨rfl, t2⟩
  have T2 := Lib.hid (T1.out.and t2)
  clear t2
  go_wp2_with fail
  refine (rparse_c s _).mono ?_
  rintro e w3 ⟨rfl, t3⟩
  have T3 := Lib.hid (T2.out.and t3)
  clear t3
  generalize parseV s.data.toList = v
  go_wp2_with fail
  refine (decimal_c n _ HN.out).mono ?_
  rintro e w4 ⟨rfl, t4⟩
  have T4 := Lib.hid (T3.out.and t4)
  clear t4
  go_wp2_with fail
  refine (rdecimal_c n _ HN.out).mono ?_
  rintro e w5 ⟨rfl, t5⟩
  have T5 := Lib.hid (T4.out.and t5)
  clear t5
  generalize decL n = d
  go_wp2
  go_returns
  exact ⟨rfl, T5.out.noBelow⟩
end Go.Proofs.Ytmoiehbhhplckaa
