/- Words of print. Conditions: the numbers fit. -/
import Derived.Test.YtmoiehbhhplckaaProg
import Derived.Test.YtmoiehbhhplckaaX5
import Derived.Tactics
import Derived.Tactics2
import Derived.WalkKit
import Derived.WalkSpells
import Derived.WalkLawsBesides
import Derived.StillTactics
import Derived.StillTailTactics
import Derived.OwnWalk
import Derived.Laws.Pointers
import Derived.Laws.ResultCell
import Derived.Deep.RegionHeld3
import Derived.Deep.RegionWith
import Derived.Deep.RegionLaw
import Derived.Deep.AppendLies
import Derived.Deep.QuietTactic
import Derived.BigQuiet
import Derived.LoopTactic
import Derived.Deep.LoopGhost
import Derived.Deep.DeepCutAuto
import Derived.Deep.DeepFit
import Derived.Maps.AppendAt
import Derived.Below
import Derived.Lib.Hide
import Derived.Handy
import Derived.KernelRfl
import Derived.IntWalk
import Derived.Laws.AppendOwnNone
import Derived.Laws.IdiomStrings
namespace Go.Proofs.Ytmoiehbhhplckaa
set_option linter.unusedVariables false
set_option linter.unusedSimpArgs false
open Go.RowKit

def wordP (k : Int) : List UInt8 := if k = 12 then [108, 101, 110] else if k = 25 then [112, 114, 101, 118] else if k = 22 then [111, 110, 99, 101] else if k = 23 then [104, 105, 115, 116] else [115, 105, 110, 99, 101]
def spanP (lo hi : Int) : List UInt8 := ((([91] ++ decL lo) ++ [44]) ++ (if hi = -1 then [42] else decL hi)) ++ [93]
def signP (k : Int) : List UInt8 := if k = 8 then [43] else if k = 9 then [45] else if k = 10 then [42] else if k = 14 then [61] else if k = 15 then [60] else if k = 16 then [60, 61] else if k = 17 then [105, 110] else if k = 19 then [97, 110, 100] else [111, 114]
def leafP (k : Int) (nm : ByteArray) (n hi : Int) : List UInt8 :=
  if k = 1 then decL n else if k = 2 then (if n = 0 then [102, 97, 108, 115, 101] else [116, 114, 117, 101]) else if k = 3 then ([34] ++ nm.data.toList) ++ [34]
  else if k = 5 then [115, 46] ++ nm.data.toList else if k = 6 then [111, 46] ++ nm.data.toList
  else if k = 13 then ((([116, 105, 109, 101, 115, 40] ++ nm.data.toList) ++ [44, 32]) ++ decL hi) ++ [41] else if k = 21 then ([97, 99, 116, 40] ++ nm.data.toList) ++ [41] else [110, 111, 119]
theorem ret_str2 {a : ByteArray} {b : List UInt8} (h : a = ⟨b.toArray⟩) : Ending.returned (.string a) = .returned (.string ⟨b.toArray⟩) := by rw [h]
theorem word_c (k : Int) (w : World) : Calls Try.prog 76 #[.int .i64 k] w (Str1 (wordP k) w) := by
  go_enter Try.func76, Try.ntmps76
  go_wp2
  all_goals
    go_returns
    refine ⟨ret_str2 ?_, Tch.refl _ _⟩
    simp_all [wordP]
set_option maxHeartbeats 4000000 in
theorem sign_c (k : Int) (w : World) : Calls Try.prog 78 #[.int .i64 k] w (Str1 (signP k) w) := by
  go_enter Try.func78, Try.ntmps78
  go_wp2
  all_goals
    go_returns
    refine ⟨ret_str2 ?_, Tch.refl _ _⟩
    simp_all [signP]
theorem nm_arr (nm : ByteArray) : nm = ⟨nm.data.toList.toArray⟩ := by simp
theorem bapp_nm (a : List UInt8) (nm : ByteArray) : (⟨a.toArray⟩ : ByteArray) ++ nm = ⟨(a ++ nm.data.toList).toArray⟩ := by
  conv => lhs; rw [nm_arr nm]
  exact bapp a nm.data.toList
set_option maxHeartbeats 4000000 in
theorem span_c (lo hi : Int) (w : World) (h1 : Fit lo) (h2 : Fit hi) : Calls Try.prog 77 #[.int .i64 lo, .int .i64 hi] w (Str1 (spanP lo hi) w) := by
  have D1 := Lib.hid (fun w => decimal_c lo w h1)
  have D2 := Lib.hid (fun w => decimal_c hi w h2)
  have l1 := dec_len h1
  have l2 := dec_len h2
  have HS1 : Hid (hi = -1 → spanP lo hi = ((([91] ++ decL lo) ++ [44]) ++ [42]) ++ [93]) := fun h => by unfold spanP; rw [if_pos h]
  have HS2 : Hid (hi ≠ -1 → spanP lo hi = ((([91] ++ decL lo) ++ [44]) ++ decL hi) ++ [93]) := fun h => by unfold spanP; rw [if_neg h]
  generalize decL lo = X at *
  generalize decL hi = Y at *
  clear h1 h2
  by_cases h : hi = -1
  · have hb : (hi != -1) = false := by simp [h]
    have H := Lib.hid (HS1.out h)
    clear h
    go_enter Try.func77, Try.ntmps77
    go_wp2_with (go_at_call 22; refine (D1.out _).mono ?_; rintro e w5 ⟨rfl, t5⟩; have T5 := Lib.hid t5; clear t5)
    go_returns
    refine ⟨ret_str2 ?_, T5.out⟩
    rw [H.out, bapp, bapp, bapp, bapp]
  · have hb : (hi != -1) = true := by simp [h]
    have H := Lib.hid (HS2.out h)
    clear h
    go_enter Try.func77, Try.ntmps77
    go_wp2_with fail
    refine (D2.out _).mono ?_
    rintro e w4 ⟨rfl, t4⟩
    have T4 := Lib.hid t4
    clear t4
    go_wp2_with fail
    refine (D1.out _).mono ?_
    rintro e w5 ⟨rfl, t5⟩
    have T5 := Lib.hid (T4.out.and t5)
    clear t5
    go_wp2
    go_returns
    refine ⟨ret_str2 ?_, T5.out⟩
    rw [H.out, bapp, bapp, bapp, bapp]
set_option maxHeartbeats 4000000 in
theorem rspan_c (lo hi : Int) (w : World) (h1 : Fit lo) (h2 : Fit hi) : Calls Try.prog 74 #[.int .i64 lo, .int .i64 hi] w (Str1 (spanP lo hi) w) := by
  have D1 := Lib.hid (fun w => rdecimal_c lo w h1)
  have D2 := Lib.hid (fun w => rdecimal_c hi w h2)
  have l1 := dec_len h1
  have l2 := dec_len h2
  have HS1 : Hid (hi = -1 → spanP lo hi = ((([91] ++ decL lo) ++ [44]) ++ [42]) ++ [93]) := fun h => by unfold spanP; rw [if_pos h]
  have HS2 : Hid (hi ≠ -1 → spanP lo hi = ((([91] ++ decL lo) ++ [44]) ++ decL hi) ++ [93]) := fun h => by unfold spanP; rw [if_neg h]
  generalize decL lo = X at *
  generalize decL hi = Y at *
  clear h1 h2
  by_cases h : hi = -1
  · have hb : (hi == -1) = true := by simp [h]
    have H := Lib.hid (HS1.out h)
    clear h
    go_enter Try.func74, Try.ntmps74
    go_wp2_with (go_at_call 23; refine (D1.out _).mono ?_; rintro e w5 ⟨rfl, t5⟩; have T5 := Lib.hid t5; clear t5)
    go_returns
    refine ⟨ret_str2 ?_, T5.out⟩
    rw [H.out, bapp, bapp]
    simp
  · have hb : (hi == -1) = false := by simp [h]
    have H := Lib.hid (HS2.out h)
    clear h
    go_enter Try.func74, Try.ntmps74
    go_wp2_with fail
    refine (D1.out _).mono ?_
    rintro e w4 ⟨rfl, t4⟩
    have T4 := Lib.hid t4
    clear t4
    go_wp2_with fail
    refine (D2.out _).mono ?_
    rintro e w5 ⟨rfl, t5⟩
    have T5 := Lib.hid (T4.out.and t5)
    clear t5
    go_wp2
    go_returns
    refine ⟨ret_str2 ?_, T5.out⟩
    rw [H.out, bapp, bapp, bapp, bapp]
set_option maxHeartbeats 8000000 in
theorem between_4 (k : Int) (w : World) (h : k = 8 ∨ k = 9 ∨ k = 10 ∨ k = 14) : Calls Try.prog 62 #[.int .i64 k] w (Str1 (signP k) w) := by
  rcases h with rfl | rfl | rfl | rfl
  all_goals
    go_enter Try.func62, Try.ntmps62
    go_wp2
    go_returns
    refine ⟨ret_str2 rfl, (Tch.refl No w).alloc _⟩
set_option maxHeartbeats 8000000 in
theorem between_lo (k : Int) (w : World) (h : k < 8) : Calls Try.prog 62 #[.int .i64 k] w (Str1 (signP k) w) := by
  have h8 : ¬ (8 ≤ k) := by omega
  have hs : Hid (signP k = [111, 114]) := by
    show _ = _
    unfold signP
    rw [if_neg (by omega), if_neg (by omega), if_neg (by omega), if_neg (by omega), if_neg (by omega), if_neg (by omega), if_neg (by omega), if_neg (by omega)]
  have e14 : (k == 14) = false := by simp; omega
  have e15 : (k == 15) = false := by simp; omega
  have e16 : (k == 16) = false := by simp; omega
  have e17 : (k == 17) = false := by simp; omega
  have e19 : (k == 19) = false := by simp; omega
  clear h
  go_enter Try.func62, Try.ntmps62
  go_wp2
  go_returns
  refine ⟨ret_str2 ?_, (Tch.refl No w).alloc _⟩
  rw [hs.out]
set_option maxHeartbeats 8000000 in
theorem between_hi (k : Int) (w : World) (h : 10 < k) (h14 : k ≠ 14) : Calls Try.prog 62 #[.int .i64 k] w (Str1 (signP k) w) := by
  have h8 : 8 ≤ k := by omega
  have h10 : ¬ (k ≤ 10) := by omega
  have e14 : (k == 14) = false := by simp; omega
  have hs : Hid (signP k = if k = 15 then [60] else if k = 16 then [60, 61] else if k = 17 then [105, 110] else if k = 19 then [97, 110, 100] else [111, 114]) := by
    show _ = _
    unfold signP
    rw [if_neg (by omega), if_neg (by omega), if_neg (by omega), if_neg (by omega)]
  clear h h14
  go_enter Try.func62, Try.ntmps62
  go_wp2
  all_goals
    go_returns
    refine ⟨ret_str2 ?_, (Tch.refl No w).alloc _⟩
    rw [hs.out]
    clear hs e14
    simp_all
theorem between_c (k : Int) (w : World) : Calls Try.prog 62 #[.int .i64 k] w (Str1 (signP k) w) := by
  rcases (by omega : (k = 8 ∨ k = 9 ∨ k = 10 ∨ k = 14) ∨ k < 8 ∨ (10 < k ∧ k ≠ 14)) with h | h | ⟨h, h2⟩
  · exact between_4 k w h
  · exact between_lo k w h
  · exact between_hi k w h h2
end Go.Proofs.Ytmoiehbhhplckaa
