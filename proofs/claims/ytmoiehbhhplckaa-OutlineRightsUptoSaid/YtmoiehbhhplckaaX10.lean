/- print.Expr. Conditions: the expressions lie there. -/
import Derived.Test.YtmoiehbhhplckaaProg
import Derived.Test.YtmoiehbhhplckaaX9
import Derived.Tactics
import Derived.Tactics2
import Derived.WalkKit
import Derived.WalkSpells
import Derived.WalkLawsBesides
import Derived.StillTactics
import Derived.StillTailTactics
import Derived.OwnWalk
import Derived.Laws.Pointers
import Derived.Laws.ResultCell
import Derived.Deep.RegionHeld3
import Derived.Deep.RegionWith
import Derived.Deep.RegionLaw
import Derived.Deep.AppendLies
import Derived.Deep.QuietTactic
import Derived.BigQuiet
import Derived.LoopTactic
import Derived.Deep.LoopGhost
import Derived.Deep.DeepCutAuto
import Derived.Deep.DeepFit
import Derived.Maps.AppendAt
import Derived.Below
import Derived.Lib.Hide
import Derived.Handy
import Derived.KernelRfl
import Derived.IntWalk
import Derived.Laws.AppendOwnNone
import Derived.Laws.IdiomStrings
namespace Go.Proofs.Ytmoiehbhhplckaa
set_option linter.unusedVariables false
set_option linter.unusedSimpArgs false
open Go.RowKit

theorem prX4 (nm : ByteArray) (n lo hi : Int) (ts : List (List UInt8)) : prX 4 nm n lo hi ts = ([123] ++ Lib.join ts sepC) ++ [125] := rfl
theorem prX11 (nm : ByteArray) (n lo hi : Int) (ts : List (List UInt8)) : prX 11 nm n lo hi ts = [45] ++ Lib.join ts sepC := rfl
theorem prX18 (nm : ByteArray) (n lo hi : Int) (ts : List (List UInt8)) : prX 18 nm n lo hi ts = [110, 111, 116, 32] ++ Lib.join ts sepC := rfl
theorem prXw {k : Int} (h : k = 12 ∨ k = 25) (nm : ByteArray) (n lo hi : Int) (ts : List (List UInt8)) : prX k nm n lo hi ts = ((wordP k ++ [40]) ++ Lib.join ts sepC) ++ [41] := by
  rcases h with rfl | rfl <;> rfl
theorem prXt {k : Int} (h : k = 22 ∨ k = 23 ∨ k = 24) (nm : ByteArray) (n lo hi : Int) (ts : List (List UInt8)) : prX k nm n lo hi ts = (((wordP k ++ spanP lo hi) ++ [40]) ++ Lib.join ts sepC) ++ [41] := by
  rcases h with rfl | rfl | rfl <;> rfl
theorem prXo {k : Int} (h : k ≠ 4 ∧ k ≠ 11 ∧ k ≠ 18 ∧ k ≠ 12 ∧ k ≠ 25 ∧ (k < 22 ∨ 24 < k)) (nm : ByteArray) (n lo hi : Int) (ts : List (List UInt8)) :
    prX k nm n lo hi ts = match ts with
    | [a, b] => ((((([40] ++ a) ++ [32]) ++ signP k) ++ [32]) ++ b) ++ [41]
    | _ => leafP k nm n hi := by
  obtain ⟨h1, h2, h3, h4, h5, h6⟩ := h
  unfold prX
  rw [if_neg h1, if_neg h2, if_neg h3, if_neg (by omega), if_neg (by omega)]
  rfl
theorem prs_two {kids : Fo} (h : kids.len = 2) : ∃ k1 nm1 n1 lo1 hi1 kids1 k2 nm2 n2 lo2 hi2 kids2, kids = .cons k1 nm1 n1 lo1 hi1 kids1 (.cons k2 nm2 n2 lo2 hi2 kids2 .nil) := by
  cases kids with
  | nil => simp [Fo.len] at h
  | cons k1 nm1 n1 lo1 hi1 kids1 r =>
    cases r with
    | nil => simp [Fo.len] at h
    | cons k2 nm2 n2 lo2 hi2 kids2 r2 =>
      cases r2 with
      | nil => exact ⟨k1, nm1, n1, lo1, hi1, kids1, k2, nm2, n2, lo2, hi2, kids2, rfl⟩
      | cons => simp [Fo.len] at h
theorem prs_not_two {kids : Fo} (h : kids.len ≠ 2) (k : Int) (nm : ByteArray) (n hi : Int) (X : List UInt8 → List UInt8 → List UInt8) : (match prs kids with
    | [a, b] => X a b
    | _ => leafP k nm n hi) = leafP k nm n hi := by
  have := prs_length kids
  split
  · rename_i a b he
    rw [he] at this
    simp at this
    omega
  · rfl
set_option maxHeartbeats 16000000 in
set_option maxRecDepth 100000 in
theorem pr_4 (k : Int) (nm : ByteArray) (n lo hi : Int) (kids : Fo) (hnm : nm.size ≤ 100000000) (hw : wF kids ≤ 100000000) (f1 : Fit n) (f2 : Fit lo) (f3 : Fit hi) (hff : fitF kids) (H : Each PrC kids) (hkk : k = 4) : PrC k nm n lo hi kids := by
  intro A c w0 w ht0 hk
  have AC := Lib.hid (fun w' (t : Tch No w w') => pall_c kids hw hff H A c w0 w' (ht0.and t) hk)
  have WC := Lib.hid (fun w' => word_c k w')
  have GC := Lib.hid (fun w' => sign_c k w')
  have SC := Lib.hid (fun w' => span_c lo hi w' f2 f3)
  have LC := Lib.hid (fun w' => leaf_c k nm n lo hi A kids.len c w' hnm f1 f3)
  have hjl := join_tl (prs kids)
  have htl := prs_tl kids hff
  have hwl := wordp_len k
  have hsl := sign_len k
  have hpl := span_len f2 f3
  have HH := Lib.hid H
  have HK := Lib.hid hk
  have HT0 := Lib.hid ht0
  clear ht0 hk H f1 f2 f3 hff
  unfold xagg at LC ⊢
  generalize hwb : w.alloc (.cells (xcells k nm n lo hi A kids.len c) 51) = wb
  have TB : Hid (Tch No w wb) := by subst hwb; exact (Tch.refl No w).alloc _
  have BX : Hid (Blk wb w.heap.size 51 (xcells k nm n lo hi A kids.len c)) := by subst hwb; exact Blk.new w 51 _
  have RD : Hid (∀ w9, Tch No wb w9 → w9.cell? ⟨w.heap.size, 0, none⟩ = some (.int .i64 k) ∧ w9.cell? ⟨w.heap.size, 1, none⟩ = some (.string nm) ∧ w9.cell? ⟨w.heap.size, 2, none⟩ = some (.int .i64 n) ∧ w9.cell? ⟨w.heap.size, 3, none⟩ = some (.int .i64 lo) ∧ w9.cell? ⟨w.heap.size, 4, none⟩ = some (.int .i64 hi) ∧ w9.cell? ⟨w.heap.size, 5, none⟩ = some (.slice A kids.len c)) := fun w9 t => cells6 (t.blk BX.out (fun f => f))
  obtain ⟨e0, e1, e2, e3, e4, e5⟩ := RD.out wb (Tch.refl _ _)
  unfold xcells at hwb
  subst hkk
  have HX := Lib.hid (prX4 nm n lo hi (prs kids))
  generalize Lib.join (prs kids) sepC = J at *
  have n0 : ¬ (9223372036854775807 < 1 + J.length) := by omega
  have n1 : ¬ (9223372036854775807 < 1 + J.length + 1) := by omega
  go_enter Try.func64, Try.ntmps64
  go_wp2_with (go_at_call 75; go_must (refine (AC.out _ TB.out).mono ?_; rintro e w5 ⟨rfl, t5⟩; have T5 := Lib.hid t5; clear t5))
  go_returns
  refine ⟨ret_str2 ?_, TB.out.and T5.out⟩
  rw [HX.out]
  simp only [bapp]
set_option maxHeartbeats 16000000 in
set_option maxRecDepth 100000 in
theorem pr_11 (k : Int) (nm : ByteArray) (n lo hi : Int) (kids : Fo) (hnm : nm.size ≤ 100000000) (hw : wF kids ≤ 100000000) (f1 : Fit n) (f2 : Fit lo) (f3 : Fit hi) (hff : fitF kids) (H : Each PrC kids) (hkk : k = 11) : PrC k nm n lo hi kids := by
  intro A c w0 w ht0 hk
  have AC := Lib.hid (fun w' (t : Tch No w w') => pall_c kids hw hff H A c w0 w' (ht0.and t) hk)
  have WC := Lib.hid (fun w' => word_c k w')
  have GC := Lib.hid (fun w' => sign_c k w')
  have SC := Lib.hid (fun w' => span_c lo hi w' f2 f3)
  have LC := Lib.hid (fun w' => leaf_c k nm n lo hi A kids.len c w' hnm f1 f3)
  have hjl := join_tl (prs kids)
  have htl := prs_tl kids hff
  have hwl := wordp_len k
  have hsl := sign_len k
  have hpl := span_len f2 f3
  have HH := Lib.hid H
  have HK := Lib.hid hk
  have HT0 := Lib.hid ht0
  clear ht0 hk H f1 f2 f3 hff
  unfold xagg at LC ⊢
  generalize hwb : w.alloc (.cells (xcells k nm n lo hi A kids.len c) 51) = wb
  have TB : Hid (Tch No w wb) := by subst hwb; exact (Tch.refl No w).alloc _
  have BX : Hid (Blk wb w.heap.size 51 (xcells k nm n lo hi A kids.len c)) := by subst hwb; exact Blk.new w 51 _
  have RD : Hid (∀ w9, Tch No wb w9 → w9.cell? ⟨w.heap.size, 0, none⟩ = some (.int .i64 k) ∧ w9.cell? ⟨w.heap.size, 1, none⟩ = some (.string nm) ∧ w9.cell? ⟨w.heap.size, 2, none⟩ = some (.int .i64 n) ∧ w9.cell? ⟨w.heap.size, 3, none⟩ = some (.int .i64 lo) ∧ w9.cell? ⟨w.heap.size, 4, none⟩ = some (.int .i64 hi) ∧ w9.cell? ⟨w.heap.size, 5, none⟩ = some (.slice A kids.len c)) := fun w9 t => cells6 (t.blk BX.out (fun f => f))
  obtain ⟨e0, e1, e2, e3, e4, e5⟩ := RD.out wb (Tch.refl _ _)
  unfold xcells at hwb
  subst hkk
  have HX := Lib.hid (prX11 nm n lo hi (prs kids))
  generalize Lib.join (prs kids) sepC = J at *
  have n0 : ¬ (9223372036854775807 < 1 + J.length) := by omega
  go_enter Try.func64, Try.ntmps64
  go_wp2_with (go_at_call 75; go_must (refine (AC.out _ TB.out).mono ?_; rintro e w5 ⟨rfl, t5⟩; have T5 := Lib.hid t5; clear t5))
  go_returns
  refine ⟨ret_str2 ?_, TB.out.and T5.out⟩
  rw [HX.out]
  simp only [bapp]
set_option maxHeartbeats 16000000 in
set_option maxRecDepth 100000 in
theorem pr_18 (k : Int) (nm : ByteArray) (n lo hi : Int) (kids : Fo) (hnm : nm.size ≤ 100000000) (hw : wF kids ≤ 100000000) (f1 : Fit n) (f2 : Fit lo) (f3 : Fit hi) (hff : fitF kids) (H : Each PrC kids) (hkk : k = 18) : PrC k nm n lo hi kids := by
  intro A c w0 w ht0 hk
  have AC := Lib.hid (fun w' (t : Tch No w w') => pall_c kids hw hff H A c w0 w' (ht0.and t) hk)
  have WC := Lib.hid (fun w' => word_c k w')
  have GC := Lib.hid (fun w' => sign_c k w')
  have SC := Lib.hid (fun w' => span_c lo hi w' f2 f3)
  have LC := Lib.hid (fun w' => leaf_c k nm n lo hi A kids.len c w' hnm f1 f3)
  have hjl := join_tl (prs kids)
  have htl := prs_tl kids hff
  have hwl := wordp_len k
  have hsl := sign_len k
  have hpl := span_len f2 f3
  have HH := Lib.hid H
  have HK := Lib.hid hk
  have HT0 := Lib.hid ht0
  clear ht0 hk H f1 f2 f3 hff
  unfold xagg at LC ⊢
  generalize hwb : w.alloc (.cells (xcells k nm n lo hi A kids.len c) 51) = wb
  have TB : Hid (Tch No w wb) := by subst hwb; exact (Tch.refl No w).alloc _
  have BX : Hid (Blk wb w.heap.size 51 (xcells k nm n lo hi A kids.len c)) := by subst hwb; exact Blk.new w 51 _
  have RD : Hid (∀ w9, Tch No wb w9 → w9.cell? ⟨w.heap.size, 0, none⟩ = some (.int .i64 k) ∧ w9.cell? ⟨w.heap.size, 1, none⟩ = some (.string nm) ∧ w9.cell? ⟨w.heap.size, 2, none⟩ = some (.int .i64 n) ∧ w9.cell? ⟨w.heap.size, 3, none⟩ = some (.int .i64 lo) ∧ w9.cell? ⟨w.heap.size, 4, none⟩ = some (.int .i64 hi) ∧ w9.cell? ⟨w.heap.size, 5, none⟩ = some (.slice A kids.len c)) := fun w9 t => cells6 (t.blk BX.out (fun f => f))
  obtain ⟨e0, e1, e2, e3, e4, e5⟩ := RD.out wb (Tch.refl _ _)
  unfold xcells at hwb
  subst hkk
  have HX := Lib.hid (prX18 nm n lo hi (prs kids))
  generalize Lib.join (prs kids) sepC = J at *
  have n0 : ¬ (9223372036854775807 < 4 + J.length) := by omega
  go_enter Try.func64, Try.ntmps64
  go_wp2_with (go_at_call 75; go_must (refine (AC.out _ TB.out).mono ?_; rintro e w5 ⟨rfl, t5⟩; have T5 := Lib.hid t5; clear t5))
  go_returns
  refine ⟨ret_str2 ?_, TB.out.and T5.out⟩
  rw [HX.out]
  simp only [bapp]
set_option maxHeartbeats 16000000 in
set_option maxRecDepth 100000 in
theorem pr_12 (k : Int) (nm : ByteArray) (n lo hi : Int) (kids : Fo) (hnm : nm.size ≤ 100000000) (hw : wF kids ≤ 100000000) (f1 : Fit n) (f2 : Fit lo) (f3 : Fit hi) (hff : fitF kids) (H : Each PrC kids) (hkk : k = 12) : PrC k nm n lo hi kids := by
  intro A c w0 w ht0 hk
  have AC := Lib.hid (fun w' (t : Tch No w w') => pall_c kids hw hff H A c w0 w' (ht0.and t) hk)
  have WC := Lib.hid (fun w' => word_c k w')
  have GC := Lib.hid (fun w' => sign_c k w')
  have SC := Lib.hid (fun w' => span_c lo hi w' f2 f3)
  have LC := Lib.hid (fun w' => leaf_c k nm n lo hi A kids.len c w' hnm f1 f3)
  have hjl := join_tl (prs kids)
  have htl := prs_tl kids hff
  have hwl := wordp_len k
  have hsl := sign_len k
  have hpl := span_len f2 f3
  have HH := Lib.hid H
  have HK := Lib.hid hk
  have HT0 := Lib.hid ht0
  clear ht0 hk H f1 f2 f3 hff
  unfold xagg at LC ⊢
  generalize hwb : w.alloc (.cells (xcells k nm n lo hi A kids.len c) 51) = wb
  have TB : Hid (Tch No w wb) := by subst hwb; exact (Tch.refl No w).alloc _
  have BX : Hid (Blk wb w.heap.size 51 (xcells k nm n lo hi A kids.len c)) := by subst hwb; exact Blk.new w 51 _
  have RD : Hid (∀ w9, Tch No wb w9 → w9.cell? ⟨w.heap.size, 0, none⟩ = some (.int .i64 k) ∧ w9.cell? ⟨w.heap.size, 1, none⟩ = some (.string nm) ∧ w9.cell? ⟨w.heap.size, 2, none⟩ = some (.int .i64 n) ∧ w9.cell? ⟨w.heap.size, 3, none⟩ = some (.int .i64 lo) ∧ w9.cell? ⟨w.heap.size, 4, none⟩ = some (.int .i64 hi) ∧ w9.cell? ⟨w.heap.size, 5, none⟩ = some (.slice A kids.len c)) := fun w9 t => cells6 (t.blk BX.out (fun f => f))
  obtain ⟨e0, e1, e2, e3, e4, e5⟩ := RD.out wb (Tch.refl _ _)
  unfold xcells at hwb
  subst hkk
  have HX := Lib.hid (prXw (k := 12) (by decide) nm n lo hi (prs kids))
  generalize Lib.join (prs kids) sepC = J at *
  generalize wordP 12 = Wd at *
  have n0 : ¬ (9223372036854775807 < Wd.length + 1) := by omega
  have n1 : ¬ (9223372036854775807 < Wd.length + 1 + J.length) := by omega
  have n2 : ¬ (9223372036854775807 < Wd.length + 1 + J.length + 1) := by omega
  go_enter Try.func64, Try.ntmps64
  go_wp2_with fail
  go_region_held3 (fun w' => w'.cell? ⟨w.heap.size, 0, none⟩ = some (.int .i64 12) ∧ w'.cell? ⟨w.heap.size, 3, none⟩ = some (.int .i64 lo) ∧ w'.cell? ⟨w.heap.size, 4, none⟩ = some (.int .i64 hi) ∧ w'.cell? ⟨w.heap.size, 5, none⟩ = some (.slice A kids.len c)) (go_keep)
    (first
      | (go_at_call 75; go_must (refine (AC.out _ (TB.out.and T4.out)).mono ?_; rintro e w5 ⟨rfl, t5⟩; have T5 := Lib.hid (T4.out.and t5); have y01 := RD.out w5 T5.out; obtain ⟨z0, z1, z2, z3, z4, z5⟩ := y01; clear t5))
      | (go_at_call 76; go_must (refine (WC.out _).mono ?_; rintro e w4 ⟨rfl, t4⟩; have T4 : Hid (Tch No wb w4) := t4.undrewN (n := 1); have y01 := RD.out w4 T4.out; obtain ⟨y0, y1, y2, y3, y4, y5⟩ := y01; clear t4))
      | fail)
  all_goals
    go_wp2
    go_returns
    refine ⟨ret_str2 ?_, TB.out.and T5.out⟩
    rw [HX.out]
    simp only [bapp]
set_option maxHeartbeats 16000000 in
set_option maxRecDepth 100000 in
theorem pr_25 (k : Int) (nm : ByteArray) (n lo hi : Int) (kids : Fo) (hnm : nm.size ≤ 100000000) (hw : wF kids ≤ 100000000) (f1 : Fit n) (f2 : Fit lo) (f3 : Fit hi) (hff : fitF kids) (H : Each PrC kids) (hkk : k = 25) : PrC k nm n lo hi kids := by
  intro A c w0 w ht0 hk
  have AC := Lib.hid (fun w' (t : Tch No w w') => pall_c kids hw hff H A c w0 w' (ht0.and t) hk)
  have WC := Lib.hid (fun w' => word_c k w')
  have GC := Lib.hid (fun w' => sign_c k w')
  have SC := Lib.hid (fun w' => span_c lo hi w' f2 f3)
  have LC := Lib.hid (fun w' => leaf_c k nm n lo hi A kids.len c w' hnm f1 f3)
  have hjl := join_tl (prs kids)
  have htl := prs_tl kids hff
  have hwl := wordp_len k
  have hsl := sign_len k
  have hpl := span_len f2 f3
  have HH := Lib.hid H
  have HK := Lib.hid hk
  have HT0 := Lib.hid ht0
  clear ht0 hk H f1 f2 f3 hff
  unfold xagg at LC ⊢
  generalize hwb : w.alloc (.cells (xcells k nm n lo hi A kids.len c) 51) = wb
  have TB : Hid (Tch No w wb) := by subst hwb; exact (Tch.refl No w).alloc _
  have BX : Hid (Blk wb w.heap.size 51 (xcells k nm n lo hi A kids.len c)) := by subst hwb; exact Blk.new w 51 _
  have RD : Hid (∀ w9, Tch No wb w9 → w9.cell? ⟨w.heap.size, 0, none⟩ = some (.int .i64 k) ∧ w9.cell? ⟨w.heap.size, 1, none⟩ = some (.string nm) ∧ w9.cell? ⟨w.heap.size, 2, none⟩ = some (.int .i64 n) ∧ w9.cell? ⟨w.heap.size, 3, none⟩ = some (.int .i64 lo) ∧ w9.cell? ⟨w.heap.size, 4, none⟩ = some (.int .i64 hi) ∧ w9.cell? ⟨w.heap.size, 5, none⟩ = some (.slice A kids.len c)) := fun w9 t => cells6 (t.blk BX.out (fun f => f))
  obtain ⟨e0, e1, e2, e3, e4, e5⟩ := RD.out wb (Tch.refl _ _)
  unfold xcells at hwb
  subst hkk
  have HX := Lib.hid (prXw (k := 25) (by decide) nm n lo hi (prs kids))
  generalize Lib.join (prs kids) sepC = J at *
  generalize wordP 25 = Wd at *
  have n0 : ¬ (9223372036854775807 < Wd.length + 1) := by omega
  have n1 : ¬ (9223372036854775807 < Wd.length + 1 + J.length) := by omega
  have n2 : ¬ (9223372036854775807 < Wd.length + 1 + J.length + 1) := by omega
  go_enter Try.func64, Try.ntmps64
  go_wp2_with fail
  go_region_held3 (fun w' => w'.cell? ⟨w.heap.size, 0, none⟩ = some (.int .i64 25) ∧ w'.cell? ⟨w.heap.size, 3, none⟩ = some (.int .i64 lo) ∧ w'.cell? ⟨w.heap.size, 4, none⟩ = some (.int .i64 hi) ∧ w'.cell? ⟨w.heap.size, 5, none⟩ = some (.slice A kids.len c)) (go_keep)
    (first
      | (go_at_call 75; go_must (refine (AC.out _ (TB.out.and T4.out)).mono ?_; rintro e w5 ⟨rfl, t5⟩; have T5 := Lib.hid (T4.out.and t5); have y01 := RD.out w5 T5.out; obtain ⟨z0, z1, z2, z3, z4, z5⟩ := y01; clear t5))
      | (go_at_call 76; go_must (refine (WC.out _).mono ?_; rintro e w4 ⟨rfl, t4⟩; have T4 : Hid (Tch No wb w4) := t4.undrewN (n := 1); have y01 := RD.out w4 T4.out; obtain ⟨y0, y1, y2, y3, y4, y5⟩ := y01; clear t4))
      | fail)
  all_goals
    go_wp2
    go_returns
    refine ⟨ret_str2 ?_, TB.out.and T5.out⟩
    rw [HX.out]
    simp only [bapp]
set_option maxHeartbeats 16000000 in
set_option maxRecDepth 100000 in
theorem pr_22 (k : Int) (nm : ByteArray) (n lo hi : Int) (kids : Fo) (hnm : nm.size ≤ 100000000) (hw : wF kids ≤ 100000000) (f1 : Fit n) (f2 : Fit lo) (f3 : Fit hi) (hff : fitF kids) (H : Each PrC kids) (hkk : k = 22) : PrC k nm n lo hi kids := by
  intro A c w0 w ht0 hk
  have AC := Lib.hid (fun w' (t : Tch No w w') => pall_c kids hw hff H A c w0 w' (ht0.and t) hk)
  have WC := Lib.hid (fun w' => word_c k w')
  have GC := Lib.hid (fun w' => sign_c k w')
  have SC := Lib.hid (fun w' => span_c lo hi w' f2 f3)
  have LC := Lib.hid (fun w' => leaf_c k nm n lo hi A kids.len c w' hnm f1 f3)
  have hjl := join_tl (prs kids)
  have htl := prs_tl kids hff
  have hwl := wordp_len k
  have hsl := sign_len k
  have hpl := span_len f2 f3
  have HH := Lib.hid H
  have HK := Lib.hid hk
  have HT0 := Lib.hid ht0
  clear ht0 hk H f1 f2 f3 hff
  unfold xagg at LC ⊢
  generalize hwb : w.alloc (.cells (xcells k nm n lo hi A kids.len c) 51) = wb
  have TB : Hid (Tch No w wb) := by subst hwb; exact (Tch.refl No w).alloc _
  have BX : Hid (Blk wb w.heap.size 51 (xcells k nm n lo hi A kids.len c)) := by subst hwb; exact Blk.new w 51 _
  have RD : Hid (∀ w9, Tch No wb w9 → w9.cell? ⟨w.heap.size, 0, none⟩ = some (.int .i64 k) ∧ w9.cell? ⟨w.heap.size, 1, none⟩ = some (.string nm) ∧ w9.cell? ⟨w.heap.size, 2, none⟩ = some (.int .i64 n) ∧ w9.cell? ⟨w.heap.size, 3, none⟩ = some (.int .i64 lo) ∧ w9.cell? ⟨w.heap.size, 4, none⟩ = some (.int .i64 hi) ∧ w9.cell? ⟨w.heap.size, 5, none⟩ = some (.slice A kids.len c)) := fun w9 t => cells6 (t.blk BX.out (fun f => f))
  obtain ⟨e0, e1, e2, e3, e4, e5⟩ := RD.out wb (Tch.refl _ _)
  unfold xcells at hwb
  subst hkk
  have HX := Lib.hid (prXt (k := 22) (by decide) nm n lo hi (prs kids))
  generalize Lib.join (prs kids) sepC = J at *
  generalize wordP 22 = Wd at *
  generalize spanP lo hi = Sp at *
  have n0 : ¬ (9223372036854775807 < Wd.length + Sp.length) := by omega
  have n1 : ¬ (9223372036854775807 < Wd.length + Sp.length + 1) := by omega
  have n2 : ¬ (9223372036854775807 < Wd.length + Sp.length + 1 + J.length) := by omega
  have n3 : ¬ (9223372036854775807 < Wd.length + Sp.length + 1 + J.length + 1) := by omega
  go_enter Try.func64, Try.ntmps64
  go_wp2_with fail
  go_region_held3 (fun w' => w'.cell? ⟨w.heap.size, 0, none⟩ = some (.int .i64 22) ∧ w'.cell? ⟨w.heap.size, 3, none⟩ = some (.int .i64 lo) ∧ w'.cell? ⟨w.heap.size, 4, none⟩ = some (.int .i64 hi) ∧ w'.cell? ⟨w.heap.size, 5, none⟩ = some (.slice A kids.len c)) (go_keep)
    (first
      | (go_at_call 75; go_must (refine (AC.out _ (TB.out.and T6.out)).mono ?_; rintro e w5 ⟨rfl, t5⟩; have T5 := Lib.hid (T6.out.and t5); have y01 := RD.out w5 T5.out; obtain ⟨z0, z1, z2, z3, z4, z5⟩ := y01; clear t5))
      | (go_at_call 77; go_must (refine (SC.out _).mono ?_; rintro e w6 ⟨rfl, t6⟩; have T6 := Lib.hid (T4.out.and t6); have y01 := RD.out w6 T6.out; obtain ⟨x0, x1, x2, x3, x4, x5⟩ := y01; clear t6))
      | (go_at_call 76; go_must (refine (WC.out _).mono ?_; rintro e w4 ⟨rfl, t4⟩; have T4 : Hid (Tch No wb w4) := t4.undrewN (n := 1); have y01 := RD.out w4 T4.out; obtain ⟨y0, y1, y2, y3, y4, y5⟩ := y01; clear t4))
      | fail)
  all_goals
    go_wp2
    go_returns
    refine ⟨ret_str2 ?_, TB.out.and T5.out⟩
    rw [HX.out]
    simp only [bapp]
set_option maxHeartbeats 16000000 in
set_option maxRecDepth 100000 in
theorem pr_23 (k : Int) (nm : ByteArray) (n lo hi : Int) (kids : Fo) (hnm : nm.size ≤ 100000000) (hw : wF kids ≤ 100000000) (f1 : Fit n) (f2 : Fit lo) (f3 : Fit hi) (hff : fitF kids) (H : Each PrC kids) (hkk : k = 23) : PrC k nm n lo hi kids := by
  intro A c w0 w ht0 hk
  have AC := Lib.hid (fun w' (t : Tch No w w') => pall_c kids hw hff H A c w0 w' (ht0.and t) hk)
  have WC := Lib.hid (fun w' => word_c k w')
  have GC := Lib.hid (fun w' => sign_c k w')
  have SC := Lib.hid (fun w' => span_c lo hi w' f2 f3)
  have LC := Lib.hid (fun w' => leaf_c k nm n lo hi A kids.len c w' hnm f1 f3)
  have hjl := join_tl (prs kids)
  have htl := prs_tl kids hff
  have hwl := wordp_len k
  have hsl := sign_len k
  have hpl := span_len f2 f3
  have HH := Lib.hid H
  have HK := Lib.hid hk
  have HT0 := Lib.hid ht0
  clear ht0 hk H f1 f2 f3 hff
  unfold xagg at LC ⊢
  generalize hwb : w.alloc (.cells (xcells k nm n lo hi A kids.len c) 51) = wb
  have TB : Hid (Tch No w wb) := by subst hwb; exact (Tch.refl No w).alloc _
  have BX : Hid (Blk wb w.heap.size 51 (xcells k nm n lo hi A kids.len c)) := by subst hwb; exact Blk.new w 51 _
  have RD : Hid (∀ w9, Tch No wb w9 → w9.cell? ⟨w.heap.size, 0, none⟩ = some (.int .i64 k) ∧ w9.cell? ⟨w.heap.size, 1, none⟩ = some (.string nm) ∧ w9.cell? ⟨w.heap.size, 2, none⟩ = some (.int .i64 n) ∧ w9.cell? ⟨w.heap.size, 3, none⟩ = some (.int .i64 lo) ∧ w9.cell? ⟨w.heap.size, 4, none⟩ = some (.int .i64 hi) ∧ w9.cell? ⟨w.heap.size, 5, none⟩ = some (.slice A kids.len c)) := fun w9 t => cells6 (t.blk BX.out (fun f => f))
  obtain ⟨e0, e1, e2, e3, e4, e5⟩ := RD.out wb (Tch.refl _ _)
  unfold xcells at hwb
  subst hkk
  have HX := Lib.hid (prXt (k := 23) (by decide) nm n lo hi (prs kids))
  generalize Lib.join (prs kids) sepC = J at *
  generalize wordP 23 = Wd at *
  generalize spanP lo hi = Sp at *
  have n0 : ¬ (9223372036854775807 < Wd.length + Sp.length) := by omega
  have n1 : ¬ (9223372036854775807 < Wd.length + Sp.length + 1) := by omega
  have n2 : ¬ (9223372036854775807 < Wd.length + Sp.length + 1 + J.length) := by omega
  have n3 : ¬ (9223372036854775807 < Wd.length + Sp.length + 1 + J.length + 1) := by omega
  go_enter Try.func64, Try.ntmps64
  go_wp2_with fail
  go_region_held3 (fun w' => w'.cell? ⟨w.heap.size, 0, none⟩ = some (.int .i64 23) ∧ w'.cell? ⟨w.heap.size, 3, none⟩ = some (.int .i64 lo) ∧ w'.cell? ⟨w.heap.size, 4, none⟩ = some (.int .i64 hi) ∧ w'.cell? ⟨w.heap.size, 5, none⟩ = some (.slice A kids.len c)) (go_keep)
    (first
      | (go_at_call 75; go_must (refine (AC.out _ (TB.out.and T6.out)).mono ?_; rintro e w5 ⟨rfl, t5⟩; have T5 := Lib.hid (T6.out.and t5); have y01 := RD.out w5 T5.out; obtain ⟨z0, z1, z2, z3, z4, z5⟩ := y01; clear t5))
      | (go_at_call 77; go_must (refine (SC.out _).mono ?_; rintro e w6 ⟨rfl, t6⟩; have T6 := Lib.hid (T4.out.and t6); have y01 := RD.out w6 T6.out; obtain ⟨x0, x1, x2, x3, x4, x5⟩ := y01; clear t6))
      | (go_at_call 76; go_must (refine (WC.out _).mono ?_; rintro e w4 ⟨rfl, t4⟩; have T4 : Hid (Tch No wb w4) := t4.undrewN (n := 1); have y01 := RD.out w4 T4.out; obtain ⟨y0, y1, y2, y3, y4, y5⟩ := y01; clear t4))
      | fail)
  all_goals
    go_wp2
    go_returns
    refine ⟨ret_str2 ?_, TB.out.and T5.out⟩
    rw [HX.out]
    simp only [bapp]
set_option maxHeartbeats 16000000 in
set_option maxRecDepth 100000 in
theorem pr_24 (k : Int) (nm : ByteArray) (n lo hi : Int) (kids : Fo) (hnm : nm.size ≤ 100000000) (hw : wF kids ≤ 100000000) (f1 : Fit n) (f2 : Fit lo) (f3 : Fit hi) (hff : fitF kids) (H : Each PrC kids) (hkk : k = 24) : PrC k nm n lo hi kids := by
  intro A c w0 w ht0 hk
  have AC := Lib.hid (fun w' (t : Tch No w w') => pall_c kids hw hff H A c w0 w' (ht0.and t) hk)
  have WC := Lib.hid (fun w' => word_c k w')
  have GC := Lib.hid (fun w' => sign_c k w')
  have SC := Lib.hid (fun w' => span_c lo hi w' f2 f3)
  have LC := Lib.hid (fun w' => leaf_c k nm n lo hi A kids.len c w' hnm f1 f3)
  have hjl := join_tl (prs kids)
  have htl := prs_tl kids hff
  have hwl := wordp_len k
  have hsl := sign_len k
  have hpl := span_len f2 f3
  have HH := Lib.hid H
  have HK := Lib.hid hk
  have HT0 := Lib.hid ht0
  clear ht0 hk H f1 f2 f3 hff
  unfold xagg at LC ⊢
  generalize hwb : w.alloc (.cells (xcells k nm n lo hi A kids.len c) 51) = wb
  have TB : Hid (Tch No w wb) := by subst hwb; exact (Tch.refl No w).alloc _
  have BX : Hid (Blk wb w.heap.size 51 (xcells k nm n lo hi A kids.len c)) := by subst hwb; exact Blk.new w 51 _
  have RD : Hid (∀ w9, Tch No wb w9 → w9.cell? ⟨w.heap.size, 0, none⟩ = some (.int .i64 k) ∧ w9.cell? ⟨w.heap.size, 1, none⟩ = some (.string nm) ∧ w9.cell? ⟨w.heap.size, 2, none⟩ = some (.int .i64 n) ∧ w9.cell? ⟨w.heap.size, 3, none⟩ = some (.int .i64 lo) ∧ w9.cell? ⟨w.heap.size, 4, none⟩ = some (.int .i64 hi) ∧ w9.cell? ⟨w.heap.size, 5, none⟩ = some (.slice A kids.len c)) := fun w9 t => cells6 (t.blk BX.out (fun f => f))
  obtain ⟨e0, e1, e2, e3, e4, e5⟩ := RD.out wb (Tch.refl _ _)
  unfold xcells at hwb
  subst hkk
  have HX := Lib.hid (prXt (k := 24) (by decide) nm n lo hi (prs kids))
  generalize Lib.join (prs kids) sepC = J at *
  generalize wordP 24 = Wd at *
  generalize spanP lo hi = Sp at *
  have n0 : ¬ (9223372036854775807 < Wd.length + Sp.length) := by omega
  have n1 : ¬ (9223372036854775807 < Wd.length + Sp.length + 1) := by omega
  have n2 : ¬ (9223372036854775807 < Wd.length + Sp.length + 1 + J.length) := by omega
  have n3 : ¬ (9223372036854775807 < Wd.length + Sp.length + 1 + J.length + 1) := by omega
  go_enter Try.func64, Try.ntmps64
  go_wp2_with fail
  go_region_held3 (fun w' => w'.cell? ⟨w.heap.size, 0, none⟩ = some (.int .i64 24) ∧ w'.cell? ⟨w.heap.size, 3, none⟩ = some (.int .i64 lo) ∧ w'.cell? ⟨w.heap.size, 4, none⟩ = some (.int .i64 hi) ∧ w'.cell? ⟨w.heap.size, 5, none⟩ = some (.slice A kids.len c)) (go_keep)
    (first
      | (go_at_call 75; go_must (refine (AC.out _ (TB.out.and T6.out)).mono ?_; rintro e w5 ⟨rfl, t5⟩; have T5 := Lib.hid (T6.out.and t5); have y01 := RD.out w5 T5.out; obtain ⟨z0, z1, z2, z3, z4, z5⟩ := y01; clear t5))
      | (go_at_call 77; go_must (refine (SC.out _).mono ?_; rintro e w6 ⟨rfl, t6⟩; have T6 := Lib.hid (T4.out.and t6); have y01 := RD.out w6 T6.out; obtain ⟨x0, x1, x2, x3, x4, x5⟩ := y01; clear t6))
      | (go_at_call 76; go_must (refine (WC.out _).mono ?_; rintro e w4 ⟨rfl, t4⟩; have T4 : Hid (Tch No wb w4) := t4.undrewN (n := 1); have y01 := RD.out w4 T4.out; obtain ⟨y0, y1, y2, y3, y4, y5⟩ := y01; clear t4))
      | fail)
  all_goals
    go_wp2
    go_returns
    refine ⟨ret_str2 ?_, TB.out.and T5.out⟩
    rw [HX.out]
    simp only [bapp]
set_option maxHeartbeats 16000000 in
set_option maxRecDepth 100000 in
theorem pr_leaf (k : Int) (nm : ByteArray) (n lo hi : Int) (kids : Fo) (hnm : nm.size ≤ 100000000) (hw : wF kids ≤ 100000000) (f1 : Fit n) (f2 : Fit lo) (f3 : Fit hi) (hff : fitF kids) (H : Each PrC kids) (hkk : k ≠ 4 ∧ k ≠ 11 ∧ k ≠ 18 ∧ k ≠ 12 ∧ k ≠ 25 ∧ (k < 22 ∨ 24 < k)) (h2 : kids.len ≠ 2) : PrC k nm n lo hi kids := by
  intro A c w0 w ht0 hk
  have AC := Lib.hid (fun w' (t : Tch No w w') => pall_c kids hw hff H A c w0 w' (ht0.and t) hk)
  have WC := Lib.hid (fun w' => word_c k w')
  have GC := Lib.hid (fun w' => sign_c k w')
  have SC := Lib.hid (fun w' => span_c lo hi w' f2 f3)
  have LC := Lib.hid (fun w' => leaf_c k nm n lo hi A kids.len c w' hnm f1 f3)
  have hjl := join_tl (prs kids)
  have htl := prs_tl kids hff
  have hwl := wordp_len k
  have hsl := sign_len k
  have hpl := span_len f2 f3
  have HH := Lib.hid H
  have HK := Lib.hid hk
  have HT0 := Lib.hid ht0
  clear ht0 hk H f1 f2 f3 hff
  unfold xagg at LC ⊢
  generalize hwb : w.alloc (.cells (xcells k nm n lo hi A kids.len c) 51) = wb
  have TB : Hid (Tch No w wb) := by subst hwb; exact (Tch.refl No w).alloc _
  have BX : Hid (Blk wb w.heap.size 51 (xcells k nm n lo hi A kids.len c)) := by subst hwb; exact Blk.new w 51 _
  have RD : Hid (∀ w9, Tch No wb w9 → w9.cell? ⟨w.heap.size, 0, none⟩ = some (.int .i64 k) ∧ w9.cell? ⟨w.heap.size, 1, none⟩ = some (.string nm) ∧ w9.cell? ⟨w.heap.size, 2, none⟩ = some (.int .i64 n) ∧ w9.cell? ⟨w.heap.size, 3, none⟩ = some (.int .i64 lo) ∧ w9.cell? ⟨w.heap.size, 4, none⟩ = some (.int .i64 hi) ∧ w9.cell? ⟨w.heap.size, 5, none⟩ = some (.slice A kids.len c)) := fun w9 t => cells6 (t.blk BX.out (fun f => f))
  obtain ⟨e0, e1, e2, e3, e4, e5⟩ := RD.out wb (Tch.refl _ _)
  unfold xcells at hwb
  have HX : Hid (prX k nm n lo hi (prs kids) = leafP k nm n hi) := by rw [prXo hkk]; exact prs_not_two h2 k nm n hi _
  have b4 : (k == 4) = false := by simp; omega
  have b11 : (k == 11) = false := by simp; omega
  have b18 : (k == 18) = false := by simp; omega
  have b12 : (k == 12) = false := by simp; omega
  have b25 : (k == 25) = false := by simp; omega
  have hl2 : ((kids.len : Int) == 2) = false := by simp; omega
  have h22 := hkk.2.2.2.2.2
  clear hkk h2
  generalize leafP k nm n hi = Lf at *
  rcases h22 with h22 | h22
  · have g1 : ¬ (22 ≤ k) := by omega
    clear h22
    go_enter Try.func64, Try.ntmps64
    go_wp2_with (go_at_call 79; go_must (refine (LC.out _).mono ?_; rintro e w5 ⟨rfl, t5⟩; have T5 := Lib.hid t5; clear t5))
    go_returns
    exact ⟨by rw [HX.out]; rfl, TB.out.and T5.out⟩
  · have g1 : 22 ≤ k := by omega
    have g2 : ¬ (k ≤ 24) := by omega
    clear h22
    go_enter Try.func64, Try.ntmps64
    go_wp2_with (go_at_call 79; go_must (refine (LC.out _).mono ?_; rintro e w5 ⟨rfl, t5⟩; have T5 := Lib.hid t5; clear t5))
    go_returns
    exact ⟨by rw [HX.out]; rfl, TB.out.and T5.out⟩
set_option maxHeartbeats 16000000 in
set_option maxRecDepth 100000 in
theorem pr_two (k : Int) (nm : ByteArray) (n lo hi : Int) (kids : Fo) (hnm : nm.size ≤ 100000000) (hw : wF kids ≤ 100000000) (f1 : Fit n) (f2 : Fit lo) (f3 : Fit hi) (hff : fitF kids) (H : Each PrC kids) (hkk : k ≠ 4 ∧ k ≠ 11 ∧ k ≠ 18 ∧ k ≠ 12 ∧ k ≠ 25 ∧ (k < 22 ∨ 24 < k)) (h2 : kids.len = 2) : PrC k nm n lo hi kids := by
  intro A c w0 w ht0 hk
  have AC := Lib.hid (fun w' (t : Tch No w w') => pall_c kids hw hff H A c w0 w' (ht0.and t) hk)
  have WC := Lib.hid (fun w' => word_c k w')
  have GC := Lib.hid (fun w' => sign_c k w')
  have SC := Lib.hid (fun w' => span_c lo hi w' f2 f3)
  have LC := Lib.hid (fun w' => leaf_c k nm n lo hi A kids.len c w' hnm f1 f3)
  have hjl := join_tl (prs kids)
  have htl := prs_tl kids hff
  have hwl := wordp_len k
  have hsl := sign_len k
  have hpl := span_len f2 f3
  have HH := Lib.hid H
  have HK := Lib.hid hk
  have HT0 := Lib.hid ht0
  clear ht0 hk H f1 f2 f3 hff
  unfold xagg at LC ⊢
  generalize hwb : w.alloc (.cells (xcells k nm n lo hi A kids.len c) 51) = wb
  have TB : Hid (Tch No w wb) := by subst hwb; exact (Tch.refl No w).alloc _
  have BX : Hid (Blk wb w.heap.size 51 (xcells k nm n lo hi A kids.len c)) := by subst hwb; exact Blk.new w 51 _
  have RD : Hid (∀ w9, Tch No wb w9 → w9.cell? ⟨w.heap.size, 0, none⟩ = some (.int .i64 k) ∧ w9.cell? ⟨w.heap.size, 1, none⟩ = some (.string nm) ∧ w9.cell? ⟨w.heap.size, 2, none⟩ = some (.int .i64 n) ∧ w9.cell? ⟨w.heap.size, 3, none⟩ = some (.int .i64 lo) ∧ w9.cell? ⟨w.heap.size, 4, none⟩ = some (.int .i64 hi) ∧ w9.cell? ⟨w.heap.size, 5, none⟩ = some (.slice A kids.len c)) := fun w9 t => cells6 (t.blk BX.out (fun f => f))
  obtain ⟨e0, e1, e2, e3, e4, e5⟩ := RD.out wb (Tch.refl _ _)
  unfold xcells at hwb
  have HX : Hid (prX k nm n lo hi (prs kids) = match prs kids with
    | [a, b] => ((((([40] ++ a) ++ [32]) ++ signP k) ++ [32]) ++ b) ++ [41]
    | _ => leafP k nm n hi) := prXo hkk _ _ _ _ _
  have b4 : (k == 4) = false := by simp; omega
  have b11 : (k == 11) = false := by simp; omega
  have b18 : (k == 18) = false := by simp; omega
  have b12 : (k == 12) = false := by simp; omega
  have b25 : (k == 25) = false := by simp; omega
  have h22 := hkk.2.2.2.2.2
  clear hkk
  obtain ⟨k1, nm1, n1, lo1, hi1, kids1, k2, nm2, n2, lo2, hi2, kids2, rfl⟩ := prs_two h2
  rw [h2] at *
  have hkf := HK.out.2
  rcases hkf with hkf | ⟨g, o, rfl, hfo⟩
  · simp [Fo.len] at hkf
  obtain ⟨A1, c1, hc1, hka1, hr1⟩ := foa_first hfo
  obtain ⟨A2, c2, hc2, hka2, _⟩ := foa_first hr1
  have P1 := Lib.hid (fun w' (t : Tch No w w') => HH.out.1 A1 c1 w0 w' (HT0.out.and t) hka1)
  have P2 := Lib.hid (fun w' (t : Tch No w w') => HH.out.2.1 A2 c2 w0 w' (HT0.out.and t) hka2)
  unfold xagg at P1 P2
  have RE : Hid (∀ w9, Tch No wb w9 → (w9.cell? ⟨w.heap.size, 0, none⟩ = some (.int .i64 k) ∧ w9.cell? ⟨w.heap.size, 5, none⟩ = some (.slice (some ⟨g, o, none⟩) 2 c)) ∧ (w9.cell? ⟨g, o, none⟩ = some (.int .i64 k1) ∧ w9.cell? ⟨g, o + 1, none⟩ = some (.string nm1) ∧ w9.cell? ⟨g, o + 2, none⟩ = some (.int .i64 n1) ∧ w9.cell? ⟨g, o + 3, none⟩ = some (.int .i64 lo1) ∧ w9.cell? ⟨g, o + 4, none⟩ = some (.int .i64 hi1) ∧ w9.cell? ⟨g, o + 5, none⟩ = some (.slice A1 kids1.len c1)) ∧ (w9.cell? ⟨g, o + 6, none⟩ = some (.int .i64 k2) ∧ w9.cell? ⟨g, o + 6 + 1, none⟩ = some (.string nm2) ∧ w9.cell? ⟨g, o + 6 + 2, none⟩ = some (.int .i64 n2) ∧ w9.cell? ⟨g, o + 6 + 3, none⟩ = some (.int .i64 lo2) ∧ w9.cell? ⟨g, o + 6 + 4, none⟩ = some (.int .i64 hi2) ∧ w9.cell? ⟨g, o + 6 + 5, none⟩ = some (.slice A2 kids2.len c2))) := fun w9 t => by
    have h0 := RD.out w9 t
    have T := HT0.out.and (TB.out.and t)
    exact ⟨⟨h0.1, h0.2.2.2.2.2⟩, ⟨T.cell (fun f => f) hc1.1, T.cell (fun f => f) hc1.2.1, T.cell (fun f => f) hc1.2.2.1, T.cell (fun f => f) hc1.2.2.2.1, T.cell (fun f => f) hc1.2.2.2.2.1, T.cell (fun f => f) hc1.2.2.2.2.2⟩,
      T.cell (fun f => f) hc2.1, T.cell (fun f => f) hc2.2.1, T.cell (fun f => f) hc2.2.2.1, T.cell (fun f => f) hc2.2.2.2.1, T.cell (fun f => f) hc2.2.2.2.2.1, T.cell (fun f => f) hc2.2.2.2.2.2⟩
  have HY : Hid (prs (.cons k1 nm1 n1 lo1 hi1 kids1 (.cons k2 nm2 n2 lo2 hi2 kids2 .nil)) = [prX k1 nm1 n1 lo1 hi1 (prs kids1), prX k2 nm2 n2 lo2 hi2 (prs kids2)]) := rfl
  have HX3 : Hid (prX k nm n lo hi (prs (.cons k1 nm1 n1 lo1 hi1 kids1 (.cons k2 nm2 n2 lo2 hi2 kids2 .nil))) = ((((([40] ++ prX k1 nm1 n1 lo1 hi1 (prs kids1)) ++ [32]) ++ signP k) ++ [32]) ++ prX k2 nm2 n2 lo2 hi2 (prs kids2)) ++ [41]) := by rw [HX.out, HY.out]; exact rfl
  clear HX
  rw [HY.out] at htl
  simp only [tl, List.map_cons, List.map_nil, List.sum_cons, List.sum_nil] at htl
  generalize prX k1 nm1 n1 lo1 hi1 (prs kids1) = X1 at *
  generalize prX k2 nm2 n2 lo2 hi2 (prs kids2) = X2 at *
  generalize signP k = Sg at *
  clear h2 hfo hr1 hc1 hc2 hka1 hka2 e0 e1 e2 e3 e4 e5 hjl hwl hpl
  obtain ⟨⟨ea, eb⟩, ⟨e0, e1, e2, e3, e4, e5⟩, e6, e7, e8, e9, ec, ed⟩ := RE.out wb (Tch.refl _ _)
  have n0 : ¬ (9223372036854775807 < 1 + X1.length) := by omega
  have n3 : ¬ (9223372036854775807 < 1 + X1.length + 1) := by omega
  have n4 : ¬ (9223372036854775807 < 1 + X1.length + 1 + Sg.length) := by omega
  have n5 : ¬ (9223372036854775807 < 1 + X1.length + 1 + Sg.length + 1) := by omega
  have n6 : ¬ (9223372036854775807 < 1 + X1.length + 1 + Sg.length + 1 + X2.length) := by omega
  have n7 : ¬ (9223372036854775807 < 1 + X1.length + 1 + Sg.length + 1 + X2.length + 1) := by omega
  have hg6 : o + 1 * 6 = o + 6 := by omega
  rcases h22 with h22 | h22
  · have g1 : ¬ (22 ≤ k) := by omega
    clear h22
    go_enter Try.func64, Try.ntmps64
    go_wp2_with fail
    go_region_held3 (fun w' => (w'.cell? ⟨w.heap.size, 0, none⟩ = some (.int .i64 k) ∧ w'.cell? ⟨w.heap.size, 5, none⟩ = some (.slice (some ⟨g, o, none⟩) 2 c)) ∧ (w'.cell? ⟨g, o, none⟩ = some (.int .i64 k1) ∧ w'.cell? ⟨g, o + 1, none⟩ = some (.string nm1) ∧ w'.cell? ⟨g, o + 2, none⟩ = some (.int .i64 n1) ∧ w'.cell? ⟨g, o + 3, none⟩ = some (.int .i64 lo1) ∧ w'.cell? ⟨g, o + 4, none⟩ = some (.int .i64 hi1) ∧ w'.cell? ⟨g, o + 5, none⟩ = some (.slice A1 kids1.len c1)) ∧ (w'.cell? ⟨g, o + 6, none⟩ = some (.int .i64 k2) ∧ w'.cell? ⟨g, o + 6 + 1, none⟩ = some (.string nm2) ∧ w'.cell? ⟨g, o + 6 + 2, none⟩ = some (.int .i64 n2) ∧ w'.cell? ⟨g, o + 6 + 3, none⟩ = some (.int .i64 lo2) ∧ w'.cell? ⟨g, o + 6 + 4, none⟩ = some (.int .i64 hi2) ∧ w'.cell? ⟨g, o + 6 + 5, none⟩ = some (.slice A2 kids2.len c2))) (go_keep)
      (first
        | (go_at_call_of 64 (Value.agg #[Value.int IntKind.i64 k2, Value.string nm2, Value.int IntKind.i64 n2, Value.int IntKind.i64 lo2, Value.int IntKind.i64 hi2, Value.slice A2 kids2.len c2]); go_must (refine (P2.out _ (TB.out.and T6.out)).mono ?_; rintro e w5 ⟨rfl, t5⟩; have T5 := Lib.hid (T6.out.and t5); have y01 := RE.out w5 T5.out; obtain ⟨⟨za, zb⟩, ⟨z0, z1, z2, z3, z4, z5⟩, z6, z7, z8, z9, zc, zd⟩ := y01; clear t5))
        | (go_at_call 78; go_must (refine (GC.out _).mono ?_; rintro e w6 ⟨rfl, t6⟩; have T6 := Lib.hid (T4.out.and t6); have y01 := RE.out w6 T6.out; obtain ⟨⟨xa, xb⟩, ⟨x0, x1, x2, x3, x4, x5⟩, x6, x7, x8, x9, xc, xd⟩ := y01; clear t6))
        | (go_at_call_of 64 (Value.agg #[Value.int IntKind.i64 k1, Value.string nm1, Value.int IntKind.i64 n1, Value.int IntKind.i64 lo1, Value.int IntKind.i64 hi1, Value.slice A1 kids1.len c1]); go_must (refine (P1.out _ (TB.out.and ((Tch.refl No wb).drewN 1))).mono ?_; rintro e w4 ⟨rfl, t4⟩; have T4 : Hid (Tch No wb w4) := t4.undrewN (n := 1); have y01 := RE.out w4 T4.out; obtain ⟨⟨ya, yb⟩, ⟨y0, y1, y2, y3, y4, y5⟩, y6, y7, y8, y9, yc, yd⟩ := y01; clear t4))
        | fail)
    all_goals
      go_wp2
      go_returns
      refine ⟨ret_str2 ?_, TB.out.and T5.out⟩
      rw [HX3.out]
      simp only [bapp]
  · have g1 : 22 ≤ k := by omega
    have g2 : ¬ (k ≤ 24) := by omega
    clear h22
    go_enter Try.func64, Try.ntmps64
    go_wp2_with fail
    go_region_held3 (fun w' => (w'.cell? ⟨w.heap.size, 0, none⟩ = some (.int .i64 k) ∧ w'.cell? ⟨w.heap.size, 5, none⟩ = some (.slice (some ⟨g, o, none⟩) 2 c)) ∧ (w'.cell? ⟨g, o, none⟩ = some (.int .i64 k1) ∧ w'.cell? ⟨g, o + 1, none⟩ = some (.string nm1) ∧ w'.cell? ⟨g, o + 2, none⟩ = some (.int .i64 n1) ∧ w'.cell? ⟨g, o + 3, none⟩ = some (.int .i64 lo1) ∧ w'.cell? ⟨g, o + 4, none⟩ = some (.int .i64 hi1) ∧ w'.cell? ⟨g, o + 5, none⟩ = some (.slice A1 kids1.len c1)) ∧ (w'.cell? ⟨g, o + 6, none⟩ = some (.int .i64 k2) ∧ w'.cell? ⟨g, o + 6 + 1, none⟩ = some (.string nm2) ∧ w'.cell? ⟨g, o + 6 + 2, none⟩ = some (.int .i64 n2) ∧ w'.cell? ⟨g, o + 6 + 3, none⟩ = some (.int .i64 lo2) ∧ w'.cell? ⟨g, o + 6 + 4, none⟩ = some (.int .i64 hi2) ∧ w'.cell? ⟨g, o + 6 + 5, none⟩ = some (.slice A2 kids2.len c2))) (go_keep)
      (first
        | (go_at_call_of 64 (Value.agg #[Value.int IntKind.i64 k2, Value.string nm2, Value.int IntKind.i64 n2, Value.int IntKind.i64 lo2, Value.int IntKind.i64 hi2, Value.slice A2 kids2.len c2]); go_must (refine (P2.out _ (TB.out.and T6.out)).mono ?_; rintro e w5 ⟨rfl, t5⟩; have T5 := Lib.hid (T6.out.and t5); have y01 := RE.out w5 T5.out; obtain ⟨⟨za, zb⟩, ⟨z0, z1, z2, z3, z4, z5⟩, z6, z7, z8, z9, zc, zd⟩ := y01; clear t5))
        | (go_at_call 78; go_must (refine (GC.out _).mono ?_; rintro e w6 ⟨rfl, t6⟩; have T6 := Lib.hid (T4.out.and t6); have y01 := RE.out w6 T6.out; obtain ⟨⟨xa, xb⟩, ⟨x0, x1, x2, x3, x4, x5⟩, x6, x7, x8, x9, xc, xd⟩ := y01; clear t6))
        | (go_at_call_of 64 (Value.agg #[Value.int IntKind.i64 k1, Value.string nm1, Value.int IntKind.i64 n1, Value.int IntKind.i64 lo1, Value.int IntKind.i64 hi1, Value.slice A1 kids1.len c1]); go_must (refine (P1.out _ (TB.out.and ((Tch.refl No wb).drewN 1))).mono ?_; rintro e w4 ⟨rfl, t4⟩; have T4 : Hid (Tch No wb w4) := t4.undrewN (n := 1); have y01 := RE.out w4 T4.out; obtain ⟨⟨ya, yb⟩, ⟨y0, y1, y2, y3, y4, y5⟩, y6, y7, y8, y9, yc, yd⟩ := y01; clear t4))
        | fail)
    all_goals
      go_wp2
      go_returns
      refine ⟨ret_str2 ?_, TB.out.and T5.out⟩
      rw [HX3.out]
      simp only [bapp]
theorem pr_step (k : Int) (nm : ByteArray) (n lo hi : Int) (kids : Fo) (hnm : nm.size ≤ 100000000) (hw : wF kids ≤ 100000000) (f1 : Fit n) (f2 : Fit lo) (f3 : Fit hi) (hff : fitF kids) (H : Each PrC kids) : PrC k nm n lo hi kids := by
  have hcs : k = 4 ∨ k = 11 ∨ k = 18 ∨ k = 12 ∨ k = 25 ∨ k = 22 ∨ k = 23 ∨ k = 24 ∨ (k ≠ 4 ∧ k ≠ 11 ∧ k ≠ 18 ∧ k ≠ 12 ∧ k ≠ 25 ∧ (k < 22 ∨ 24 < k)) := by omega
  rcases hcs with h | h | h | h | h | h | h | h | h
  · exact pr_4 k nm n lo hi kids hnm hw f1 f2 f3 hff H h
  · exact pr_11 k nm n lo hi kids hnm hw f1 f2 f3 hff H h
  · exact pr_18 k nm n lo hi kids hnm hw f1 f2 f3 hff H h
  · exact pr_12 k nm n lo hi kids hnm hw f1 f2 f3 hff H h
  · exact pr_25 k nm n lo hi kids hnm hw f1 f2 f3 hff H h
  · exact pr_22 k nm n lo hi kids hnm hw f1 f2 f3 hff H h
  · exact pr_23 k nm n lo hi kids hnm hw f1 f2 f3 hff H h
  · exact pr_24 k nm n lo hi kids hnm hw f1 f2 f3 hff H h
  · by_cases h2 : kids.len = 2
    · exact pr_two k nm n lo hi kids hnm hw f1 f2 f3 hff H h h2
    · exact pr_leaf k nm n lo hi kids hnm hw f1 f2 f3 hff H h h2
theorem pr_c (k : Int) (nm : ByteArray) (n lo hi : Int) (kids : Fo) (hnm : nm.size ≤ 100000000) (hw : wF kids ≤ 100000000) (f1 : Fit n) (f2 : Fit lo) (f3 : Fit hi) (hff : fitF kids) : PrC k nm n lo hi kids :=
  pr_step k nm n lo hi kids hnm hw f1 f2 f3 hff (each_wf _ (fun k nm n lo hi kids h1 h2 h3 h4 h5 h6 h7 => pr_step k nm n lo hi kids h1 h2 h3 h4 h5 h6 h7) kids hw hff)
end Go.Proofs.Ytmoiehbhhplckaa
