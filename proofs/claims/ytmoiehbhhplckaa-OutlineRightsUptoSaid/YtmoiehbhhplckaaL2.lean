/- The lexer: names and texts. Conditions: none. -/
import Derived.Test.YtmoiehbhhplckaaProg
import Derived.Test.YtmoiehbhhplckaaL1
import Derived.Lib.IndexAny
import Derived.Lib.IndexLaws
import Derived.Tactics
import Derived.Tactics2
import Derived.WalkKit
import Derived.WalkSpells
import Derived.WalkLawsBesides
import Derived.StillTactics
import Derived.StillTailTactics
import Derived.OwnWalk
import Derived.Laws.Pointers
import Derived.Laws.ResultCell
import Derived.Deep.RegionHeld3
import Derived.Deep.RegionWith
import Derived.Deep.RegionLaw
import Derived.Deep.AppendLies
import Derived.Deep.QuietTactic
import Derived.BigQuiet
import Derived.LoopTactic
import Derived.Deep.LoopGhost
import Derived.Deep.DeepCutAuto
import Derived.Deep.DeepFit
import Derived.Maps.AppendAt
import Derived.Below
import Derived.Lib.Hide
import Derived.Handy
import Derived.KernelRfl
import Derived.IntWalk
import Derived.Laws.AppendOwnNone
import Derived.Laws.IdiomStrings
namespace Go.Proofs.Ytmoiehbhhplckaa
set_option linter.unusedVariables false
set_option linter.unusedSimpArgs false
open Go.RowKit

def okP : List UInt8 → Bool
  | [] => true
  | c :: t => isL c && t.all isT
theorem okP_succ {l : List UInt8} {k : Nat} {c : UInt8} (h : l[k]? = some c) : okP (l.take (k + 1)) = (okP (l.take k) && (isL c || (decide (k ≠ 0) && isG c))) := by
  cases l with
  | nil => simp at h
  | cons a t =>
    cases k with
    | zero =>
      simp at h
      subst h
      simp [okP]
    | succ m =>
      rw [List.getElem?_cons_succ] at h
      rw [List.take_succ_cons, List.take_succ_cons, take_succ_of h]
      simp [okP, isT, Bool.and_assoc]
theorem okP_bad {l : List UInt8} {j : Nat} (h : okP (l.take j) = false) : okP l = false := by
  cases l with
  | nil => simp at h; exact h
  | cons a t =>
    cases j with
    | zero => simp [okP] at h
    | succ m =>
      rw [List.take_succ_cons] at h
      change (isL a && (t.take m).all isT) = false at h
      show (isL a && t.all isT) = false
      cases ha : isL a
      · rfl
      · rw [ha, Bool.true_and, List.all_eq_false] at h
        obtain ⟨x, hx, hn⟩ := h
        rw [Bool.true_and, List.all_eq_false]
        exact ⟨x, List.mem_of_mem_take hx, hn⟩
def nameB (l : List UInt8) : Bool := okP l && (!l.isEmpty && decide (l.length ≤ 16))
def Same (b : Bool) (w : World) (e : Ending) (w' : World) : Prop := e = .returned (.bool b) ∧ w = w'
set_option maxHeartbeats 1600000 in
theorem name_c (s : ByteArray) (w : World) (hs : s.size ≤ 9223372036854775807) : Calls Try.prog 25 #[.string s] w (Same (nameB s.data.toList) w) := by
  go_enter Try.func25, Try.ntmps25
  go_wp2_with fail
  go_loop [6] (fun iv => ∃ k : Nat, k ≤ s.size ∧ iv = .int .i64 k ∧ okP (s.data.toList.take k) = true) (fun iv => s.size - (intOf iv).toNat)
  case atStart => exact ⟨0, by omega, rfl, rfl⟩
  case round =>
    obtain ⟨k, hk, rfl, hv⟩ := hrel
    by_cases hlt : k < s.size
    · have hc := byte_at s k hlt
      have hsu := okP_succ hc
      rw [hv, Bool.true_and] at hsu
      have HB : Hid (okP (s.data.toList.take (k + 1)) = false → nameB s.data.toList = false) := fun h => by unfold nameB; rw [okP_bad h]; rfl
      have HC := Lib.hid hc
      have HSU := Lib.hid hsu
      clear hc hsu hv
      cases hl : isL s[k]
      · have HL := Lib.hid hl
        clear hl
        by_cases hk0 : k = 0
        · have hkz : (k == 0) = true := by simpa using hk0
          have hbad := HB.out (by rw [HSU.out, HL.out]; simp [hk0])
          have HBAD := Lib.hid hbad
          have HK0 := Lib.hid hk0
          clear hbad hk0
          go_wp2_with fail
          refine (letter_c _ _).mono ?_
          rintro e w1 ⟨rfl, rfl⟩
          rw [HL.out]
          go_wp2_with fail
          go_returns
          exact ⟨by rw [HBAD.out]; rfl, rfl⟩
        · have hkz : (k == 0) = false := by simpa using hk0
          have HK0 := Lib.hid hk0
          clear hk0
          cases hg : isG s[k]
          · have HG := Lib.hid hg
            have hbad := HB.out (by rw [HSU.out, HL.out, HG.out, Bool.and_false]; rfl)
            have HBAD := Lib.hid hbad
            clear hbad hg
            go_wp2_with fail
            refine (letter_c _ _).mono ?_
            rintro e w1 ⟨rfl, rfl⟩
            rw [HL.out]
            go_wp2_with fail
            refine (digit_c _ _).mono ?_
            rintro e w1 ⟨rfl, rfl⟩
            rw [HG.out]
            go_wp2_with fail
            go_returns
            exact ⟨by rw [HBAD.out]; rfl, rfl⟩
          · have HG := Lib.hid hg
            clear hg
            go_wp2_with fail
            refine (letter_c _ _).mono ?_
            rintro e w1 ⟨rfl, rfl⟩
            rw [HL.out]
            go_wp2_with fail
            refine (digit_c _ _).mono ?_
            rintro e w1 ⟨rfl, rfl⟩
            rw [HG.out]
            go_wp2_with fail
            exact ⟨⟨k + 1, by omega, by simp, by rw [HSU.out, HL.out, HG.out]; simp [HK0.out]⟩, by simp [intOf]; omega⟩
      · have HL := Lib.hid hl
        clear hl
        go_wp2_with fail
        refine (letter_c _ _).mono ?_
        rintro e w1 ⟨rfl, rfl⟩
        rw [HL.out]
        go_wp2_with fail
        exact ⟨⟨k + 1, by omega, by simp, by rw [HSU.out, HL.out]; rfl⟩, by simp [intOf]; omega⟩
    · have hks : k = s.size := by omega
      subst hks
      have e0 : s.data.toList.take s.size = s.data.toList := List.take_of_length_le (by simp)
      rw [e0] at hv
      have HV := Lib.hid hv
      clear e0 hv hlt
      have hm1 : ¬ ((s.size : Int) < (s.size : Int)) := by omega
      by_cases hz : s.size = 0
      · have hE : nameB s.data.toList = false := by
          have : s.data.toList = [] := List.eq_nil_of_length_eq_zero (by simpa using hz)
          rw [this]; rfl
        have hsb : s.toList.isEmpty = true := by
          rw [Lib.toList_data, List.isEmpty_iff]
          exact List.eq_nil_of_length_eq_zero (by simpa using hz)
        have HE := Lib.hid hE
        clear hE hz
        go_wp2
        go_returns
        exact ⟨by rw [HE.out]; rfl, rfl⟩
      · have hsb : s.toList.isEmpty = false := by
          rw [Lib.toList_data, List.isEmpty_eq_false_iff]
          intro e
          have : s.data.toList.length = 0 := by rw [e]; rfl
          rw [Array.length_toList] at this
          exact hz this
        have hE : nameB s.data.toList = decide ((s.size : Int) ≤ 16) := by
          unfold nameB
          rw [HV.out, ← Lib.toList_data, hsb]
          rw [Bool.eq_iff_iff]
          simp [Lib.toList_data]
          omega
        have HE := Lib.hid hE
        clear hE hz
        go_wp2
        go_returns
        exact ⟨by rw [HE.out]; rfl, rfl⟩
def plainB (l : List UInt8) : Bool := decide (l.length ≤ 32) && (!(l.contains 34) && !(l.contains 10))
theorem contains_snoc {l : List UInt8} {k : Nat} {c x : UInt8} (h : l[k]? = some c) : (l.take (k + 1)).contains x = ((l.take k).contains x || c == x) := by
  rw [take_succ_of h, Bool.eq_iff_iff]
  simp
  constructor
  · rintro (h | h)
    · exact .inl h
    · exact .inr h.symm
  · rintro (h | h)
    · exact .inl h
    · exact .inr h.symm
theorem contains_take {l : List UInt8} {k : Nat} {x : UInt8} (h : (l.take k).contains x = true) : l.contains x = true := by
  simp at h ⊢
  exact List.mem_of_mem_take h
set_option maxHeartbeats 1600000 in
theorem plain_c (s : ByteArray) (w : World) (hs : s.size ≤ 9223372036854775807) : Calls Try.prog 27 #[.string s] w (Same (plainB s.data.toList) w) := by
  have e1 := Lib.contains_iff_indexByte s.data.toList 34
  have e2 := Lib.contains_iff_indexByte s.data.toList 10
  have g1 := Lib.indexByte_ge s.data.toList 34
  have g2 := Lib.indexByte_ge s.data.toList 10
  have q1 : ((34 : Int).toNat.toUInt8) = 34 := rfl
  have q2 : ((10 : Int).toNat.toUInt8) = 10 := rfl
  have I1 : Hid (∀ w, Calls Try.prog 47 #[.string s, .int .u8 34] w fun e w' => e = .returned (.int .i64 (Lib.indexByte s.data.toList 34)) ∧ w' = w) := fun w => Try.strings_IndexByte s 34 w
  have I2 : Hid (∀ w, Calls Try.prog 47 #[.string s, .int .u8 10] w fun e w' => e = .returned (.int .i64 (Lib.indexByte s.data.toList 10)) ∧ w' = w) := fun w => Try.strings_IndexByte s 10 w
  generalize hi1 : Lib.indexByte s.data.toList 34 = i1 at *
  generalize hi2 : Lib.indexByte s.data.toList 10 = i2 at *
  have HE : Hid (plainB s.data.toList = (decide (s.size ≤ 32) && (decide (i1 < 0) && decide (i2 < 0)))) := by
    show plainB s.data.toList = _
    unfold plainB
    rw [e1, e2, Array.length_toList, Bool.eq_iff_iff]
    simp
  clear hi1 hi2 e1 e2 q1 q2
  rcases (by omega : (32 : Int) < (s.size : Int) ∨ (s.size : Int) ≤ 32) with h | h
  · have HE2 : Hid (plainB s.data.toList = false) := by show _ = _; rw [HE.out]; simp; omega
    go_enter Try.func27, Try.ntmps27
    go_wp2
    go_returns
    exact ⟨by rw [HE2.out]; simp, rfl⟩
  · rcases (by omega : i1 < 0 ∨ 0 ≤ i1) with h1 | h1
    · have HE2 : Hid (plainB s.data.toList = decide (i2 < 0)) := by show _ = _; rw [HE.out, Bool.eq_iff_iff]; simp; omega
      go_enter Try.func27, Try.ntmps27
      go_wp2_with fail
      refine (I1.out _).mono ?_
      rintro e w1 ⟨rfl, rfl⟩
      go_wp2_with fail
      refine (I2.out _).mono ?_
      rintro e w1 ⟨rfl, rfl⟩
      go_wp2
      go_returns
      exact ⟨by rw [HE2.out]; rfl, rfl⟩
    · have HE2 : Hid (plainB s.data.toList = false) := by show _ = _; rw [HE.out]; simp; omega
      go_enter Try.func27, Try.ntmps27
      go_wp2_with fail
      refine (I1.out _).mono ?_
      rintro e w1 ⟨rfl, rfl⟩
      go_wp2
      go_returns
      exact ⟨by rw [HE2.out]; simp, rfl⟩
set_option maxHeartbeats 1600000 in
theorem rplain_c (s : ByteArray) (w : World) (hs : s.size ≤ 9223372036854775807) : Calls Try.prog 28 #[.string s] w (Same (plainB s.data.toList) w) := by
  rcases (by omega : (32 : Int) < (s.size : Int) ∨ (s.size : Int) ≤ 32) with h | h
  · have HE2 : Hid (plainB s.data.toList = false) := by show _ = _; unfold plainB; rw [Array.length_toList]; simp; intro h2; have : s.size ≤ 32 := h2; omega
    go_enter Try.func28, Try.ntmps28
    go_wp2
    go_returns
    exact ⟨by rw [HE2.out]; rfl, rfl⟩
  · go_enter Try.func28, Try.ntmps28
    go_wp2_with fail
    go_loop [3] (fun iv => ∃ k : Nat, k ≤ s.size ∧ iv = .int .i64 k ∧ (s.data.toList.take k).contains 34 = false ∧ (s.data.toList.take k).contains 10 = false) (fun iv => s.size - (intOf iv).toNat)
    case atStart => exact ⟨0, by omega, rfl, rfl, rfl⟩
    case round =>
      obtain ⟨k, hk, rfl, hv, hv2⟩ := hrel
      by_cases hlt : k < s.size
      · have hc := byte_at s k hlt
        have n1 := contains_snoc (x := 34) hc
        have n2 := contains_snoc (x := 10) hc
        rw [hv, Bool.false_or] at n1
        rw [hv2, Bool.false_or] at n2
        have HN := Lib.hid (And.intro n1 n2)
        have B1 : Hid (s[k] = 34 → plainB s.data.toList = false) := fun h => by
          have : s.data.toList.contains 34 = true := contains_take (k := k + 1) (by rw [n1, h]; rfl)
          unfold plainB; rw [this]; simp
        have B2 : Hid (s[k] = 10 → plainB s.data.toList = false) := fun h => by
          have : s.data.toList.contains 10 = true := contains_take (k := k + 1) (by rw [n2, h]; rfl)
          unfold plainB; rw [this]; simp
        clear hc n1 n2 hv hv2
        by_cases h1 : s[k].toNat = 34
        · have HB := Lib.hid (B1.out (UInt8.toNat_inj.1 h1))
          have h1b : ((s[k].toNat : Int) == 34) = true := by simp [h1]
          have H1 := Lib.hid h1
          clear h1
          go_wp2_with fail
          go_returns
          exact ⟨by rw [HB.out]; rfl, rfl⟩
        · have h1b : ((s[k].toNat : Int) == 34) = false := by simp; omega
          have h1c : (s[k] == 34) = false := by
            rw [beq_eq_false_iff_ne]; intro e; exact h1 (by rw [e]; rfl)
          have H1 := Lib.hid h1c
          clear h1 h1c
          by_cases h2 : s[k].toNat = 10
          · have HB := Lib.hid (B2.out (UInt8.toNat_inj.1 h2))
            have h2b : ((s[k].toNat : Int) == 10) = true := by simp [h2]
            have H2 := Lib.hid h2
            clear h2
            go_wp2_with fail
            go_returns
            exact ⟨by rw [HB.out]; rfl, rfl⟩
          · have h2b : ((s[k].toNat : Int) == 10) = false := by simp; omega
            have h2c : (s[k] == 10) = false := by
              rw [beq_eq_false_iff_ne]; intro e; exact h2 (by rw [e]; rfl)
            have H2 := Lib.hid h2c
            clear h2 h2c
            go_wp2_with fail
            exact ⟨⟨k + 1, by omega, by simp, by rw [HN.out.1, H1.out], by rw [HN.out.2, H2.out]⟩, by simp [intOf]; omega⟩
      · have hks : k = s.size := by omega
        subst hks
        have e0 : s.data.toList.take s.size = s.data.toList := List.take_of_length_le (by simp)
        rw [e0] at hv hv2
        have HE : Hid (plainB s.data.toList = true) := by
          show _ = _
          unfold plainB; rw [hv, hv2, Array.length_toList]; simp
          have : s.data.size = s.size := rfl
          omega
        clear e0 hv hv2 hlt
        have hm1 : ¬ ((s.size : Int) < (s.size : Int)) := by omega
        go_wp2
        go_returns
        exact ⟨by rw [HE.out]; rfl, rfl⟩
theorem okP_tail {l : List UInt8} {k : Nat} {c : UInt8} (h : l[k]? = some c) (hk : k ≠ 0) : okP (l.take (k + 1)) = (okP (l.take k) && isT c) := by
  rw [okP_succ h]
  simp [hk, isT]
set_option maxHeartbeats 1600000 in
theorem rname_c (s : ByteArray) (w : World) (hs : s.size ≤ 9223372036854775807) : Calls Try.prog 26 #[.string s] w (Same (nameB s.data.toList) w) := by
  by_cases hz : s.size = 0
  · have HE : Hid (nameB s.data.toList = false) := by
      have : s.data.toList = [] := List.eq_nil_of_length_eq_zero (by simpa using hz)
      show _ = _
      rw [this]; rfl
    have hsb : s.toList.isEmpty = true := by
      rw [Lib.toList_data, List.isEmpty_iff]
      exact List.eq_nil_of_length_eq_zero (by simpa using hz)
    clear hz
    go_enter Try.func26, Try.ntmps26
    go_wp2
    go_returns
    exact ⟨by rw [HE.out]; rfl, rfl⟩
  · have hne : s.data.toList ≠ [] := by
      intro e
      have : s.data.toList.length = 0 := by rw [e]; rfl
      rw [Array.length_toList] at this
      exact hz this
    have hsb : s.toList.isEmpty = false := by
      rw [Lib.toList_data, List.isEmpty_eq_false_iff]
      exact hne
    have hp : 0 < s.size := by omega
    have hNB : nameB s.data.toList = (okP s.data.toList && decide (s.size ≤ 16)) := by
      unfold nameB
      rw [Array.length_toList]
      have : s.data.toList.isEmpty = false := by rw [List.isEmpty_eq_false_iff]; exact hne
      rw [this]
      rfl
    have HNB := Lib.hid hNB
    clear hNB hne hz
    rcases (by omega : (16 : Int) < (s.size : Int) ∨ (s.size : Int) ≤ 16) with h | h
    · have HE : Hid (nameB s.data.toList = false) := by show _ = _; rw [HNB.out]; simp; omega
      go_enter Try.func26, Try.ntmps26
      go_wp2
      go_returns
      exact ⟨by rw [HE.out]; rfl, rfl⟩
    · have hc0 := byte_at s 0 hp
      have hs0 := okP_succ hc0
      have HC := Lib.hid hs0
      have hs16 : s.size ≤ 16 := by omega
      have BAD : Hid (∀ k, okP (s.data.toList.take k) = false → nameB s.data.toList = false) := fun k h => by rw [HNB.out, okP_bad h]; rfl
      clear hc0 hs0
      cases hl : isL s[0]
      · have HE : Hid (nameB s.data.toList = false) := by
          show _ = _
          refine BAD.out 1 ?_
          rw [HC.out, hl]
          rfl
        have HL := Lib.hid hl
        clear hl
        go_enter Try.func26, Try.ntmps26
        go_wp2_with fail
        refine (head_c _ _).mono ?_
        rintro e w1 ⟨rfl, rfl⟩
        rw [HL.out]
        go_wp2
        go_returns
        exact ⟨by rw [HE.out]; rfl, rfl⟩
      · have HO1 : Hid (okP (s.data.toList.take 1) = true) := by show _ = _; rw [HC.out, hl]; rfl
        have HL := Lib.hid hl
        clear hl
        go_enter Try.func26, Try.ntmps26
        go_wp2_with fail
        refine (head_c _ _).mono ?_
        rintro e w1 ⟨rfl, rfl⟩
        rw [HL.out]
        go_wp2_with fail
        go_loop [3] (fun iv => ∃ k : Nat, 1 ≤ k ∧ k ≤ s.size ∧ iv = .int .i64 k ∧ okP (s.data.toList.take k) = true) (fun iv => s.size - (intOf iv).toNat)
        case atStart => exact ⟨1, by omega, by omega, rfl, HO1.out⟩
        case round =>
          obtain ⟨k, hk1, hk, rfl, hv⟩ := hrel
          by_cases hlt : k < s.size
          · have hc := byte_at s k hlt
            have hsu := okP_tail hc (by omega)
            rw [hv, Bool.true_and] at hsu
            have HSU := Lib.hid hsu
            clear hc hsu hv
            cases ht : isT s[k]
            · have HT := Lib.hid ht
              have HE := Lib.hid (BAD.out (k + 1) (by rw [HSU.out, HT.out]))
              clear ht
              go_wp2_with fail
              refine (tail_c _ _).mono ?_
              rintro e w1 ⟨rfl, rfl⟩
              rw [HT.out]
              go_wp2_with fail
              go_returns
              exact ⟨by rw [HE.out]; rfl, rfl⟩
            · have HT := Lib.hid ht
              clear ht
              go_wp2_with fail
              refine (tail_c _ _).mono ?_
              rintro e w1 ⟨rfl, rfl⟩
              rw [HT.out]
              go_wp2_with fail
              exact ⟨⟨k + 1, by omega, by omega, by simp, by rw [HSU.out, HT.out]⟩, by simp [intOf]; omega⟩
          · have hks : k = s.size := by omega
            subst hks
            have e0 : s.data.toList.take s.size = s.data.toList := List.take_of_length_le (by simp)
            rw [e0] at hv
            have HE : Hid (nameB s.data.toList = true) := by show _ = _; rw [HNB.out, hv]; simp; omega
            clear e0 hv hlt
            have hm1 : ¬ ((s.size : Int) < (s.size : Int)) := by omega
            go_wp2
            go_returns
            exact ⟨by rw [HE.out]; rfl, rfl⟩
end Go.Proofs.Ytmoiehbhhplckaa
