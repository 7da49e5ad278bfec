/- leaf and front of the page's print. Conditions: the numbers fit. -/
import Derived.Test.YtmoiehbhhplckaaProg
import Derived.Test.YtmoiehbhhplckaaX7
import Derived.Tactics
import Derived.Tactics2
import Derived.WalkKit
import Derived.WalkSpells
import Derived.WalkLawsBesides
import Derived.StillTactics
import Derived.StillTailTactics
import Derived.OwnWalk
import Derived.Laws.Pointers
import Derived.Laws.ResultCell
import Derived.Deep.RegionHeld3
import Derived.Deep.RegionWith
import Derived.Deep.RegionLaw
import Derived.Deep.AppendLies
import Derived.Deep.QuietTactic
import Derived.BigQuiet
import Derived.LoopTactic
import Derived.Deep.LoopGhost
import Derived.Deep.DeepCutAuto
import Derived.Deep.DeepFit
import Derived.Maps.AppendAt
import Derived.Below
import Derived.Lib.Hide
import Derived.Handy
import Derived.KernelRfl
import Derived.IntWalk
import Derived.Laws.AppendOwnNone
import Derived.Laws.IdiomStrings
namespace Go.Proofs.Ytmoiehbhhplckaa
set_option linter.unusedVariables false
set_option linter.unusedSimpArgs false
open Go.RowKit

set_option maxHeartbeats 16000000 in
set_option maxRecDepth 100000 in
theorem rleaf_c (k : Int) (nm : ByteArray) (n lo hi : Int) (A : Option Addr) (m c : Nat) (w : World) (hs : nm.size ≤ 100000000) (h1 : Fit n) (h2 : Fit hi) (hb : k = 2 → n = 0 ∨ n = 1) :
    Calls Try.prog 60 #[xagg k nm n lo hi A m c] w (Str1 (leafP k nm n hi) w) := by
  have D1 := Lib.hid (fun w => rdecimal_c n w h1)
  have D2 := Lib.hid (fun w => rdecimal_c hi w h2)
  have HB := Lib.hid hb
  clear hb
  have n8 : ¬ (9223372036854775807 < 1 + nm.size) := by omega
  have n9 : ¬ (9223372036854775807 < 1 + nm.size + 1) := by omega
  have l1 := dec_len h1
  have l2 := dec_len h2
  have HP : Hid (leafP k nm n hi = if k = 1 then decL n else if k = 2 then (if n = 0 then [102, 97, 108, 115, 101] else [116, 114, 117, 101]) else if k = 3 then ([34] ++ nm.data.toList) ++ [34]
    else if k = 5 then [115, 46] ++ nm.data.toList else if k = 6 then [111, 46] ++ nm.data.toList
    else if k = 13 then ((([116, 105, 109, 101, 115, 40] ++ nm.data.toList) ++ [44, 32]) ++ decL hi) ++ [41] else if k = 21 then ([97, 99, 116, 40] ++ nm.data.toList) ++ [41] else [110, 111, 119]) := rfl
  generalize decL n = X at *
  generalize decL hi = Y at *
  clear h1 h2
  unfold xagg
  generalize hwb : w.alloc (.cells (xcells k nm n lo hi A m c) 51) = wb
  have TB : Hid (Tch No w wb) := by subst hwb; exact (Tch.refl No w).alloc _
  have BX : Hid (Blk wb w.heap.size 51 (xcells k nm n lo hi A m c)) := by subst hwb; exact Blk.new w 51 _
  obtain ⟨e0, e1, e2, e3, e4, e5⟩ := cells6 BX.out
  unfold xcells at hwb
  have n1 : ¬ (9223372036854775807 < 2 + nm.size) := by omega
  have n2 : ¬ (9223372036854775807 < 6 + nm.size) := by omega
  have n3 : ¬ (9223372036854775807 < 6 + nm.size + 2) := by omega
  have n4 : ¬ (9223372036854775807 < 6 + nm.size + 2 + Y.length) := by omega
  have n5 : ¬ (9223372036854775807 < 6 + nm.size + 2 + Y.length + 1) := by omega
  have n6 : ¬ (9223372036854775807 < 4 + nm.size) := by omega
  have n7 : ¬ (9223372036854775807 < 4 + nm.size + 1) := by omega
  have hcs : k = 1 ∨ k = 2 ∨ k = 3 ∨ k = 5 ∨ k = 6 ∨ k = 13 ∨ k = 21 ∨ (k ≠ 1 ∧ k ≠ 2 ∧ k ≠ 3 ∧ k ≠ 5 ∧ k ≠ 6 ∧ k ≠ 13 ∧ k ≠ 21) := by omega
  rcases hcs with rfl | rfl | rfl | rfl | rfl | rfl | rfl | ⟨a1, a2, a3, a5, a6, a13, a21⟩
  · have H : Hid (leafP 1 nm n hi = X) := HP.out
    go_enter Try.func60, Try.ntmps60
    go_wp2_with (go_at_call 23; refine (D1.out _).mono ?_; rintro e w5 ⟨rfl, t5⟩; have T5 := Lib.hid t5; clear t5)
    go_returns
    exact ⟨by rw [H.out]; rfl, TB.out.and T5.out⟩
  · have H : Hid (leafP 2 nm n hi = if n = 0 then [102, 97, 108, 115, 101] else [116, 114, 117, 101]) := HP.out
    rcases HB.out rfl with rfl | rfl
    all_goals
      go_enter Try.func60, Try.ntmps60
      go_wp2
      go_returns
      refine ⟨ret_str2 ?_, TB.out⟩
      rw [H.out]
      rfl
  · have H : Hid (leafP 3 nm n hi = ([34] ++ nm.data.toList) ++ [34]) := HP.out
    go_enter Try.func60, Try.ntmps60
    go_wp2
    go_returns
    refine ⟨ret_str2 ?_, TB.out⟩
    rw [H.out, bapp_nm, bapp]
  · have H : Hid (leafP 5 nm n hi = [115, 46] ++ nm.data.toList) := HP.out
    go_enter Try.func60, Try.ntmps60
    go_wp2
    go_returns
    refine ⟨ret_str2 ?_, TB.out⟩
    rw [H.out, bapp_nm]
  · have H : Hid (leafP 6 nm n hi = [111, 46] ++ nm.data.toList) := HP.out
    go_enter Try.func60, Try.ntmps60
    go_wp2
    go_returns
    refine ⟨ret_str2 ?_, TB.out⟩
    rw [H.out, bapp_nm]
  · have H : Hid (leafP 13 nm n hi = ((([116, 105, 109, 101, 115, 40] ++ nm.data.toList) ++ [44, 32]) ++ Y) ++ [41]) := HP.out
    have RD : Hid (∀ w9, Tch No wb w9 → w9.cell? ⟨w.heap.size, 1, none⟩ = some (.string nm) ∧ w9.cell? ⟨w.heap.size, 4, none⟩ = some (.int .i64 hi)) := fun w9 t => ⟨t.cell (fun f => f) e1, t.cell (fun f => f) e4⟩
    go_enter Try.func60, Try.ntmps60
    go_wp2_with fail
    go_region_held3 (fun w' => w'.cell? ⟨w.heap.size, 1, none⟩ = some (.string nm) ∧ w'.cell? ⟨w.heap.size, 4, none⟩ = some (.int .i64 hi)) (go_keep)
      (first
        | (go_at_call 23; go_must (refine (D2.out _).mono ?_; rintro e w5 ⟨rfl, t5⟩; have T5 : Hid (Tch No wb w5) := t5.undrewN (n := 1); have y01 := RD.out w5 T5.out; obtain ⟨y0, y1⟩ := y01; clear t5))
        | fail)
    all_goals
      go_wp2
      go_returns
      refine ⟨ret_str2 ?_, TB.out.and T5.out⟩
      rw [H.out, bapp_nm, bapp, bapp, bapp]
  · have H : Hid (leafP 21 nm n hi = ([97, 99, 116, 40] ++ nm.data.toList) ++ [41]) := HP.out
    go_enter Try.func60, Try.ntmps60
    go_wp2
    go_returns
    refine ⟨ret_str2 ?_, TB.out⟩
    rw [H.out, bapp_nm, bapp]
  · have H : Hid (leafP k nm n hi = [110, 111, 119]) := by rw [HP.out, if_neg a1, if_neg a2, if_neg a3, if_neg a5, if_neg a6, if_neg a13, if_neg a21]; exact rfl
    go_enter Try.func60, Try.ntmps60
    go_wp2
    go_returns
    refine ⟨ret_str2 ?_, TB.out⟩
    rw [H.out]
def frontP (k lo hi : Int) : List UInt8 := wordP k ++ (if k = 12 ∨ k = 25 then [] else spanP lo hi)
set_option maxHeartbeats 8000000 in
theorem front_c (k : Int) (nm : ByteArray) (n lo hi : Int) (A : Option Addr) (m c : Nat) (w : World) (h1 : Fit lo) (h2 : Fit hi) (hk : k = 12 ∨ k = 25 ∨ k = 22 ∨ k = 23 ∨ k = 24) :
    Calls Try.prog 61 #[xagg k nm n lo hi A m c] w (Str1 (frontP k lo hi) w) := by
  have SC := Lib.hid (fun w => rspan_c lo hi w h1 h2)
  have hl : (spanP lo hi).length ≤ 100 := by
    have l1 := dec_len h1
    have l2 := dec_len h2
    unfold spanP
    split <;> simp <;> omega
  have HP : Hid (∀ k, frontP k lo hi = wordP k ++ (if k = 12 ∨ k = 25 then [] else spanP lo hi)) := fun _ => rfl
  generalize spanP lo hi = S at *
  clear h1 h2
  unfold xagg
  generalize hwb : w.alloc (.cells (xcells k nm n lo hi A m c) 51) = wb
  have TB : Hid (Tch No w wb) := by subst hwb; exact (Tch.refl No w).alloc _
  have BX : Hid (Blk wb w.heap.size 51 (xcells k nm n lo hi A m c)) := by subst hwb; exact Blk.new w 51 _
  obtain ⟨e0, e1, e2, e3, e4, e5⟩ := cells6 BX.out
  unfold xcells at hwb
  rcases hk with rfl | rfl | rfl | rfl | rfl
  · have H : Hid (frontP 12 lo hi = [108, 101, 110]) := by rw [HP.out]; exact rfl
    go_enter Try.func61, Try.ntmps61
    go_wp2
    go_returns
    exact ⟨by rw [H.out]; rfl, TB.out⟩
  · have H : Hid (frontP 25 lo hi = [112, 114, 101, 118]) := by rw [HP.out]; exact rfl
    go_enter Try.func61, Try.ntmps61
    go_wp2
    go_returns
    exact ⟨by rw [H.out]; rfl, TB.out⟩
  · have H : Hid (frontP 22 lo hi = [111, 110, 99, 101] ++ S) := by rw [HP.out]; exact rfl
    go_enter Try.func61, Try.ntmps61
    go_wp2_with (go_at_call 74; refine (SC.out _).mono ?_; rintro e w5 ⟨rfl, t5⟩; have T5 := Lib.hid t5; clear t5)
    go_returns
    refine ⟨ret_str2 ?_, TB.out.and T5.out⟩
    rw [H.out, bapp]
  · have H : Hid (frontP 23 lo hi = [104, 105, 115, 116] ++ S) := by rw [HP.out]; exact rfl
    go_enter Try.func61, Try.ntmps61
    go_wp2_with (go_at_call 74; refine (SC.out _).mono ?_; rintro e w5 ⟨rfl, t5⟩; have T5 := Lib.hid t5; clear t5)
    go_returns
    refine ⟨ret_str2 ?_, TB.out.and T5.out⟩
    rw [H.out, bapp]
  · have H : Hid (frontP 24 lo hi = [115, 105, 110, 99, 101] ++ S) := by rw [HP.out]; exact rfl
    go_enter Try.func61, Try.ntmps61
    go_wp2_with (go_at_call 74; refine (SC.out _).mono ?_; rintro e w5 ⟨rfl, t5⟩; have T5 := Lib.hid t5; clear t5)
    go_returns
    refine ⟨ret_str2 ?_, TB.out.and T5.out⟩
    rw [H.out, bapp]
end Go.Proofs.Ytmoiehbhhplckaa
