/- the page's Expr. Conditions: the expressions may be. -/
import Derived.Test.YtmoiehbhhplckaaProg
import Derived.Test.YtmoiehbhhplckaaX11
import Derived.Tactics
import Derived.Tactics2
import Derived.WalkKit
import Derived.WalkSpells
import Derived.WalkLawsBesides
import Derived.StillTactics
import Derived.StillTailTactics
import Derived.OwnWalk
import Derived.Laws.Pointers
import Derived.Laws.ResultCell
import Derived.Deep.RegionHeld3
import Derived.Deep.RegionWith
import Derived.Deep.RegionLaw
import Derived.Deep.AppendLies
import Derived.Deep.QuietTactic
import Derived.BigQuiet
import Derived.LoopTactic
import Derived.Deep.LoopGhost
import Derived.Deep.DeepCutAuto
import Derived.Deep.DeepFit
import Derived.Maps.AppendAt
import Derived.Below
import Derived.Lib.Hide
import Derived.Handy
import Derived.KernelRfl
import Derived.IntWalk
import Derived.Laws.AppendOwnNone
import Derived.Laws.IdiomStrings
namespace Go.Proofs.Ytmoiehbhhplckaa
set_option linter.unusedVariables false
set_option linter.unusedSimpArgs false
open Go.RowKit

set_option maxHeartbeats 16000000 in
set_option maxRecDepth 100000 in
theorem rr_4 (k : Int) (nm : ByteArray) (n lo hi : Int) (kids : Fo) (hnm : nm.size ≤ 100000000) (hw : wF kids ≤ 100000000) (f1 : Fit n) (f2 : Fit lo) (f3 : Fit hi) (hff : fitF kids) (H : Each RrC kids) (hv : vF kids) (hkk : k = 4)
    (A : Option Addr) (c : Nat) (w0 w : World) (ht0 : Tch No w0 w) (hk : KA w0 kids A kids.len) : Calls Try.prog 36 #[xagg k nm n lo hi A kids.len c] w (Str1 (prX k nm n lo hi (prs kids)) w) := by
  have AC := Lib.hid (fun w' (t : Tch No w w') => rlist_c kids hw hff hv H A c w0 w' (ht0.and t) hk)
  have GC := Lib.hid (fun w' => between_c k w')
  skip
  have hjl := join_tl (prs kids)
  have htl := prs_tl kids hff
  have hwl := wordp_len k
  have hsl := sign_len k
  have hpl := span_len f2 f3
  have HH := Lib.hid H
  have HK := Lib.hid hk
  have HV := Lib.hid hv
  have HT0 := Lib.hid ht0
  clear ht0 hk H f1 f2 f3 hff hv
  unfold xagg at *
  generalize hwb : w.alloc (.cells (xcells k nm n lo hi A kids.len c) 51) = wb
  have TB : Hid (Tch No w wb) := by subst hwb; exact (Tch.refl No w).alloc _
  have BX : Hid (Blk wb w.heap.size 51 (xcells k nm n lo hi A kids.len c)) := by subst hwb; exact Blk.new w 51 _
  have RD : Hid (∀ w9, Tch No wb w9 → w9.cell? ⟨w.heap.size, 0, none⟩ = some (.int .i64 k) ∧ w9.cell? ⟨w.heap.size, 1, none⟩ = some (.string nm) ∧ w9.cell? ⟨w.heap.size, 2, none⟩ = some (.int .i64 n) ∧ w9.cell? ⟨w.heap.size, 3, none⟩ = some (.int .i64 lo) ∧ w9.cell? ⟨w.heap.size, 4, none⟩ = some (.int .i64 hi) ∧ w9.cell? ⟨w.heap.size, 5, none⟩ = some (.slice A kids.len c)) := fun w9 t => cells6 (t.blk BX.out (fun f => f))
  obtain ⟨e0, e1, e2, e3, e4, e5⟩ := RD.out wb (Tch.refl _ _)
  unfold xcells at hwb
  subst hkk
  have HX := Lib.hid (prX4 nm n lo hi (prs kids))
  generalize Lib.join (prs kids) sepC = J at *
  have n0 : ¬ (9223372036854775807 < 1 + J.length) := by omega
  have n1 : ¬ (9223372036854775807 < 1 + J.length + 1) := by omega
  go_enter Try.func36, Try.ntmps36
  go_wp2_with (go_at_call 59; go_must (refine (AC.out _ TB.out).mono ?_; rintro e w5 ⟨rfl, t5⟩; have T5 := Lib.hid t5; clear t5))
  go_returns
  refine ⟨ret_str2 ?_, TB.out.and T5.out⟩
  rw [HX.out]
  simp only [bapp]
set_option maxHeartbeats 16000000 in
set_option maxRecDepth 100000 in
theorem rr_leaf (k : Int) (nm : ByteArray) (n lo hi : Int) (kids : Fo) (hnm : nm.size ≤ 100000000) (hw : wF kids ≤ 100000000) (f1 : Fit n) (f2 : Fit lo) (f3 : Fit hi) (hff : fitF kids) (H : Each RrC kids) (hv : vF kids) (hm : kids.len = 0) (h4 : k ≠ 4) (h11 : k ≠ 11) (h18 : k ≠ 18) (h12 : k ≠ 12) (h25 : k ≠ 25) (h22 : k < 22 ∨ 24 < k) (hb : k = 2 → n = 0 ∨ n = 1)
    (A : Option Addr) (c : Nat) (w0 w : World) (ht0 : Tch No w0 w) (hk : KA w0 kids A kids.len) : Calls Try.prog 36 #[xagg k nm n lo hi A kids.len c] w (Str1 (prX k nm n lo hi (prs kids)) w) := by
  have AC := Lib.hid (fun w' (t : Tch No w w') => rlist_c kids hw hff hv H A c w0 w' (ht0.and t) hk)
  have GC := Lib.hid (fun w' => between_c k w')
  have LC := Lib.hid (fun w' => rleaf_c k nm n lo hi A kids.len c w' hnm f1 f3 hb)
  have hjl := join_tl (prs kids)
  have htl := prs_tl kids hff
  have hwl := wordp_len k
  have hsl := sign_len k
  have hpl := span_len f2 f3
  have HH := Lib.hid H
  have HK := Lib.hid hk
  have HV := Lib.hid hv
  have HT0 := Lib.hid ht0
  clear ht0 hk H f1 f2 f3 hff hv
  unfold xagg at *
  generalize hwb : w.alloc (.cells (xcells k nm n lo hi A kids.len c) 51) = wb
  have TB : Hid (Tch No w wb) := by subst hwb; exact (Tch.refl No w).alloc _
  have BX : Hid (Blk wb w.heap.size 51 (xcells k nm n lo hi A kids.len c)) := by subst hwb; exact Blk.new w 51 _
  have RD : Hid (∀ w9, Tch No wb w9 → w9.cell? ⟨w.heap.size, 0, none⟩ = some (.int .i64 k) ∧ w9.cell? ⟨w.heap.size, 1, none⟩ = some (.string nm) ∧ w9.cell? ⟨w.heap.size, 2, none⟩ = some (.int .i64 n) ∧ w9.cell? ⟨w.heap.size, 3, none⟩ = some (.int .i64 lo) ∧ w9.cell? ⟨w.heap.size, 4, none⟩ = some (.int .i64 hi) ∧ w9.cell? ⟨w.heap.size, 5, none⟩ = some (.slice A kids.len c)) := fun w9 t => cells6 (t.blk BX.out (fun f => f))
  obtain ⟨e0, e1, e2, e3, e4, e5⟩ := RD.out wb (Tch.refl _ _)
  unfold xcells at hwb
  have HX : Hid (prX k nm n lo hi (prs kids) = leafP k nm n hi) := by rw [prXo ⟨h4, h11, h18, h12, h25, h22⟩]; exact prs_not_two (by omega) k nm n hi _
  have b4 : (k == 4) = false := by simp; omega
  clear h4 h11 h18 h12 h25 h22 hb
  generalize leafP k nm n hi = Lf at *
  generalize hml : kids.len = m at *
  subst hm
  have HM := Lib.hid hml
  clear hml
  go_enter Try.func36, Try.ntmps36
  go_wp2_with (go_at_call 60; go_must (refine (LC.out _).mono ?_; rintro e w5 ⟨rfl, t5⟩; have T5 := Lib.hid t5; clear t5))
  go_returns
  exact ⟨by rw [HX.out]; rfl, TB.out.and T5.out⟩
set_option maxHeartbeats 16000000 in
set_option maxRecDepth 100000 in
theorem rr_11 (k : Int) (nm : ByteArray) (n lo hi : Int) (kids : Fo) (hnm : nm.size ≤ 100000000) (hw : wF kids ≤ 100000000) (f1 : Fit n) (f2 : Fit lo) (f3 : Fit hi) (hff : fitF kids) (H : Each RrC kids) (hv : vF kids) (hkk : k = 11) (hm : kids.len = 1)
    (A : Option Addr) (c : Nat) (w0 w : World) (ht0 : Tch No w0 w) (hk : KA w0 kids A kids.len) : Calls Try.prog 36 #[xagg k nm n lo hi A kids.len c] w (Str1 (prX k nm n lo hi (prs kids)) w) := by
  have AC := Lib.hid (fun w' (t : Tch No w w') => rlist_c kids hw hff hv H A c w0 w' (ht0.and t) hk)
  have GC := Lib.hid (fun w' => between_c k w')
  skip
  have hjl := join_tl (prs kids)
  have htl := prs_tl kids hff
  have hwl := wordp_len k
  have hsl := sign_len k
  have hpl := span_len f2 f3
  have HH := Lib.hid H
  have HK := Lib.hid hk
  have HV := Lib.hid hv
  have HT0 := Lib.hid ht0
  clear ht0 hk H f1 f2 f3 hff hv
  unfold xagg at *
  generalize hwb : w.alloc (.cells (xcells k nm n lo hi A kids.len c) 51) = wb
  have TB : Hid (Tch No w wb) := by subst hwb; exact (Tch.refl No w).alloc _
  have BX : Hid (Blk wb w.heap.size 51 (xcells k nm n lo hi A kids.len c)) := by subst hwb; exact Blk.new w 51 _
  have RD : Hid (∀ w9, Tch No wb w9 → w9.cell? ⟨w.heap.size, 0, none⟩ = some (.int .i64 k) ∧ w9.cell? ⟨w.heap.size, 1, none⟩ = some (.string nm) ∧ w9.cell? ⟨w.heap.size, 2, none⟩ = some (.int .i64 n) ∧ w9.cell? ⟨w.heap.size, 3, none⟩ = some (.int .i64 lo) ∧ w9.cell? ⟨w.heap.size, 4, none⟩ = some (.int .i64 hi) ∧ w9.cell? ⟨w.heap.size, 5, none⟩ = some (.slice A kids.len c)) := fun w9 t => cells6 (t.blk BX.out (fun f => f))
  obtain ⟨e0, e1, e2, e3, e4, e5⟩ := RD.out wb (Tch.refl _ _)
  unfold xcells at hwb
  subst hkk
  obtain ⟨k1, nm1, n1, lo1, hi1, kids1, rfl⟩ : ∃ k1 nm1 n1 lo1 hi1 kids1, kids = .cons k1 nm1 n1 lo1 hi1 kids1 .nil := by
    cases kids with
    | nil => simp [Fo.len] at hm
    | cons k1 nm1 n1 lo1 hi1 kids1 r =>
      cases r with
      | nil => exact ⟨k1, nm1, n1, lo1, hi1, kids1, rfl⟩
      | cons => simp [Fo.len] at hm
  rw [hm] at *
  have hkf := HK.out.2
  rcases hkf with hkf | ⟨g, o, rfl, hfo⟩
  · simp [Fo.len] at hkf
  obtain ⟨A1, c1, hc1, hka1, hr1⟩ := foa_first hfo
  have P1 := Lib.hid (fun w' (t : Tch No w w') => HH.out.1 HV.out.1 HV.out.2.1 A1 c1 w0 w' (HT0.out.and t) hka1)
  unfold xagg at P1
  have T9 := HT0.out.and TB.out
  have x0 := T9.cell (fun f => f) hc1.1
  have x1 := T9.cell (fun f => f) hc1.2.1
  have x2 := T9.cell (fun f => f) hc1.2.2.1
  have x3 := T9.cell (fun f => f) hc1.2.2.2.1
  have x4 := T9.cell (fun f => f) hc1.2.2.2.2.1
  have x5 := T9.cell (fun f => f) hc1.2.2.2.2.2
  have HX : Hid (prX 11 nm n lo hi (prs (.cons k1 nm1 n1 lo1 hi1 kids1 .nil)) = [45] ++ prX k1 nm1 n1 lo1 hi1 (prs kids1)) := by
    rw [prX11]
    show [45] ++ Lib.join [_] sepC = _
    rw [Lib.join_one]
  have htl2 : (prX k1 nm1 n1 lo1 hi1 (prs kids1)).length ≤ 100000000 := by
    have : tl (prs (.cons k1 nm1 n1 lo1 hi1 kids1 .nil)) = (prX k1 nm1 n1 lo1 hi1 (prs kids1)).length + 2 := by simp [prs, tl]
    omega
  generalize prX k1 nm1 n1 lo1 hi1 (prs kids1) = X1 at *
  clear hm hfo hr1 hc1 hka1 hjl hwl hpl htl T9
  have m0 : ¬ (9223372036854775807 < 1 + X1.length) := by omega
  go_enter Try.func36, Try.ntmps36
  go_wp2_with (first | (go_at_call 36; go_must (refine (P1.out _ TB.out).mono ?_; rintro e w5 ⟨rfl, t5⟩; have T5 := Lib.hid t5; clear t5)) | fail)
  go_returns
  refine ⟨ret_str2 ?_, TB.out.and T5.out⟩
  rw [HX.out]
  simp only [bapp]
set_option maxHeartbeats 16000000 in
set_option maxRecDepth 100000 in
theorem rr_18 (k : Int) (nm : ByteArray) (n lo hi : Int) (kids : Fo) (hnm : nm.size ≤ 100000000) (hw : wF kids ≤ 100000000) (f1 : Fit n) (f2 : Fit lo) (f3 : Fit hi) (hff : fitF kids) (H : Each RrC kids) (hv : vF kids) (hkk : k = 18) (hm : kids.len = 1)
    (A : Option Addr) (c : Nat) (w0 w : World) (ht0 : Tch No w0 w) (hk : KA w0 kids A kids.len) : Calls Try.prog 36 #[xagg k nm n lo hi A kids.len c] w (Str1 (prX k nm n lo hi (prs kids)) w) := by
  have AC := Lib.hid (fun w' (t : Tch No w w') => rlist_c kids hw hff hv H A c w0 w' (ht0.and t) hk)
  have GC := Lib.hid (fun w' => between_c k w')
  skip
  have hjl := join_tl (prs kids)
  have htl := prs_tl kids hff
  have hwl := wordp_len k
  have hsl := sign_len k
  have hpl := span_len f2 f3
  have HH := Lib.hid H
  have HK := Lib.hid hk
  have HV := Lib.hid hv
  have HT0 := Lib.hid ht0
  clear ht0 hk H f1 f2 f3 hff hv
  unfold xagg at *
  generalize hwb : w.alloc (.cells (xcells k nm n lo hi A kids.len c) 51) = wb
  have TB : Hid (Tch No w wb) := by subst hwb; exact (Tch.refl No w).alloc _
  have BX : Hid (Blk wb w.heap.size 51 (xcells k nm n lo hi A kids.len c)) := by subst hwb; exact Blk.new w 51 _
  have RD : Hid (∀ w9, Tch No wb w9 → w9.cell? ⟨w.heap.size, 0, none⟩ = some (.int .i64 k) ∧ w9.cell? ⟨w.heap.size, 1, none⟩ = some (.string nm) ∧ w9.cell? ⟨w.heap.size, 2, none⟩ = some (.int .i64 n) ∧ w9.cell? ⟨w.heap.size, 3, none⟩ = some (.int .i64 lo) ∧ w9.cell? ⟨w.heap.size, 4, none⟩ = some (.int .i64 hi) ∧ w9.cell? ⟨w.heap.size, 5, none⟩ = some (.slice A kids.len c)) := fun w9 t => cells6 (t.blk BX.out (fun f => f))
  obtain ⟨e0, e1, e2, e3, e4, e5⟩ := RD.out wb (Tch.refl _ _)
  unfold xcells at hwb
  subst hkk
  obtain ⟨k1, nm1, n1, lo1, hi1, kids1, rfl⟩ : ∃ k1 nm1 n1 lo1 hi1 kids1, kids = .cons k1 nm1 n1 lo1 hi1 kids1 .nil := by
    cases kids with
    | nil => simp [Fo.len] at hm
    | cons k1 nm1 n1 lo1 hi1 kids1 r =>
      cases r with
      | nil => exact ⟨k1, nm1, n1, lo1, hi1, kids1, rfl⟩
      | cons => simp [Fo.len] at hm
  rw [hm] at *
  have hkf := HK.out.2
  rcases hkf with hkf | ⟨g, o, rfl, hfo⟩
  · simp [Fo.len] at hkf
  obtain ⟨A1, c1, hc1, hka1, hr1⟩ := foa_first hfo
  have P1 := Lib.hid (fun w' (t : Tch No w w') => HH.out.1 HV.out.1 HV.out.2.1 A1 c1 w0 w' (HT0.out.and t) hka1)
  unfold xagg at P1
  have T9 := HT0.out.and TB.out
  have x0 := T9.cell (fun f => f) hc1.1
  have x1 := T9.cell (fun f => f) hc1.2.1
  have x2 := T9.cell (fun f => f) hc1.2.2.1
  have x3 := T9.cell (fun f => f) hc1.2.2.2.1
  have x4 := T9.cell (fun f => f) hc1.2.2.2.2.1
  have x5 := T9.cell (fun f => f) hc1.2.2.2.2.2
  have HX : Hid (prX 18 nm n lo hi (prs (.cons k1 nm1 n1 lo1 hi1 kids1 .nil)) = [110, 111, 116, 32] ++ prX k1 nm1 n1 lo1 hi1 (prs kids1)) := by
    rw [prX18]
    show [110, 111, 116, 32] ++ Lib.join [_] sepC = _
    rw [Lib.join_one]
  have htl2 : (prX k1 nm1 n1 lo1 hi1 (prs kids1)).length ≤ 100000000 := by
    have : tl (prs (.cons k1 nm1 n1 lo1 hi1 kids1 .nil)) = (prX k1 nm1 n1 lo1 hi1 (prs kids1)).length + 2 := by simp [prs, tl]
    omega
  generalize prX k1 nm1 n1 lo1 hi1 (prs kids1) = X1 at *
  clear hm hfo hr1 hc1 hka1 hjl hwl hpl htl T9
  have m0 : ¬ (9223372036854775807 < 4 + X1.length) := by omega
  go_enter Try.func36, Try.ntmps36
  go_wp2_with (first | (go_at_call 36; go_must (refine (P1.out _ TB.out).mono ?_; rintro e w5 ⟨rfl, t5⟩; have T5 := Lib.hid t5; clear t5)) | fail)
  go_returns
  refine ⟨ret_str2 ?_, TB.out.and T5.out⟩
  rw [HX.out]
  simp only [bapp]
set_option maxHeartbeats 16000000 in
set_option maxRecDepth 100000 in
theorem rr_12 (k : Int) (nm : ByteArray) (n lo hi : Int) (kids : Fo) (hnm : nm.size ≤ 100000000) (hw : wF kids ≤ 100000000) (f1 : Fit n) (f2 : Fit lo) (f3 : Fit hi) (hff : fitF kids) (H : Each RrC kids) (hv : vF kids) (hkk : k = 12) (hm : kids.len = 1)
    (A : Option Addr) (c : Nat) (w0 w : World) (ht0 : Tch No w0 w) (hk : KA w0 kids A kids.len) : Calls Try.prog 36 #[xagg k nm n lo hi A kids.len c] w (Str1 (prX k nm n lo hi (prs kids)) w) := by
  have AC := Lib.hid (fun w' (t : Tch No w w') => rlist_c kids hw hff hv H A c w0 w' (ht0.and t) hk)
  have GC := Lib.hid (fun w' => between_c k w')
  have FC := Lib.hid (fun w' => front_c k nm n lo hi A kids.len c w' f2 f3 (by omega))
  have hjl := join_tl (prs kids)
  have htl := prs_tl kids hff
  have hwl := wordp_len k
  have hsl := sign_len k
  have hpl := span_len f2 f3
  have HH := Lib.hid H
  have HK := Lib.hid hk
  have HV := Lib.hid hv
  have HT0 := Lib.hid ht0
  clear ht0 hk H f1 f2 f3 hff hv
  unfold xagg at *
  generalize hwb : w.alloc (.cells (xcells k nm n lo hi A kids.len c) 51) = wb
  have TB : Hid (Tch No w wb) := by subst hwb; exact (Tch.refl No w).alloc _
  have BX : Hid (Blk wb w.heap.size 51 (xcells k nm n lo hi A kids.len c)) := by subst hwb; exact Blk.new w 51 _
  have RD : Hid (∀ w9, Tch No wb w9 → w9.cell? ⟨w.heap.size, 0, none⟩ = some (.int .i64 k) ∧ w9.cell? ⟨w.heap.size, 1, none⟩ = some (.string nm) ∧ w9.cell? ⟨w.heap.size, 2, none⟩ = some (.int .i64 n) ∧ w9.cell? ⟨w.heap.size, 3, none⟩ = some (.int .i64 lo) ∧ w9.cell? ⟨w.heap.size, 4, none⟩ = some (.int .i64 hi) ∧ w9.cell? ⟨w.heap.size, 5, none⟩ = some (.slice A kids.len c)) := fun w9 t => cells6 (t.blk BX.out (fun f => f))
  obtain ⟨e0, e1, e2, e3, e4, e5⟩ := RD.out wb (Tch.refl _ _)
  unfold xcells at hwb
  subst hkk
  have HX : Hid (prX 12 nm n lo hi (prs kids) = ((frontP 12 lo hi ++ [40]) ++ Lib.join (prs kids) sepC) ++ [41]) := by
    rw [prXw (k := 12) (by decide) nm n lo hi (prs kids)]
    show _ = ((wordP 12 ++ []) ++ [40]) ++ _ ++ [41]
    rw [List.append_nil]
  have hfl : (frontP 12 lo hi).length ≤ 48 := by
    unfold frontP
    split
    · simp; omega
    · simp; omega
  generalize frontP 12 lo hi = Fr at *
  generalize Lib.join (prs kids) sepC = J at *
  generalize hml : kids.len = m at *
  subst hm
  have HM := Lib.hid hml
  clear hml
  have n0 : ¬ (9223372036854775807 < Fr.length + 1) := by omega
  have n1 : ¬ (9223372036854775807 < Fr.length + 1 + J.length) := by omega
  have n2 : ¬ (9223372036854775807 < Fr.length + 1 + J.length + 1) := by omega
  go_enter Try.func36, Try.ntmps36
  go_wp2_with fail
  go_region_held3 (fun w' => w'.cell? ⟨w.heap.size, 0, none⟩ = some (.int .i64 12) ∧ w'.cell? ⟨w.heap.size, 1, none⟩ = some (.string nm) ∧ w'.cell? ⟨w.heap.size, 2, none⟩ = some (.int .i64 n) ∧ w'.cell? ⟨w.heap.size, 3, none⟩ = some (.int .i64 lo) ∧ w'.cell? ⟨w.heap.size, 4, none⟩ = some (.int .i64 hi) ∧ w'.cell? ⟨w.heap.size, 5, none⟩ = some (.slice A 1 c)) (go_keep)
    (first
      | (go_at_call 59; go_must (refine (AC.out _ (TB.out.and T4.out)).mono ?_; rintro e w5 ⟨rfl, t5⟩; have T5 := Lib.hid (T4.out.and t5); have y01 := RD.out w5 T5.out; obtain ⟨z0, z1, z2, z3, z4, z5⟩ := y01; clear t5))
      | (go_at_call 61; go_must (refine (FC.out _).mono ?_; rintro e w4 ⟨rfl, t4⟩; have T4 : Hid (Tch No wb w4) := t4.undrewN (n := 1); have y01 := RD.out w4 T4.out; obtain ⟨y0, y1, y2, y3, y4, y5⟩ := y01; clear t4))
      | fail)
  all_goals
    go_wp2
    go_returns
    refine ⟨ret_str2 ?_, TB.out.and T5.out⟩
    rw [HX.out]
    simp only [bapp]
set_option maxHeartbeats 16000000 in
set_option maxRecDepth 100000 in
theorem rr_25 (k : Int) (nm : ByteArray) (n lo hi : Int) (kids : Fo) (hnm : nm.size ≤ 100000000) (hw : wF kids ≤ 100000000) (f1 : Fit n) (f2 : Fit lo) (f3 : Fit hi) (hff : fitF kids) (H : Each RrC kids) (hv : vF kids) (hkk : k = 25) (hm : kids.len = 1)
    (A : Option Addr) (c : Nat) (w0 w : World) (ht0 : Tch No w0 w) (hk : KA w0 kids A kids.len) : Calls Try.prog 36 #[xagg k nm n lo hi A kids.len c] w (Str1 (prX k nm n lo hi (prs kids)) w) := by
  have AC := Lib.hid (fun w' (t : Tch No w w') => rlist_c kids hw hff hv H A c w0 w' (ht0.and t) hk)
  have GC := Lib.hid (fun w' => between_c k w')
  have FC := Lib.hid (fun w' => front_c k nm n lo hi A kids.len c w' f2 f3 (by omega))
  have hjl := join_tl (prs kids)
  have htl := prs_tl kids hff
  have hwl := wordp_len k
  have hsl := sign_len k
  have hpl := span_len f2 f3
  have HH := Lib.hid H
  have HK := Lib.hid hk
  have HV := Lib.hid hv
  have HT0 := Lib.hid ht0
  clear ht0 hk H f1 f2 f3 hff hv
  unfold xagg at *
  generalize hwb : w.alloc (.cells (xcells k nm n lo hi A kids.len c) 51) = wb
  have TB : Hid (Tch No w wb) := by subst hwb; exact (Tch.refl No w).alloc _
  have BX : Hid (Blk wb w.heap.size 51 (xcells k nm n lo hi A kids.len c)) := by subst hwb; exact Blk.new w 51 _
  have RD : Hid (∀ w9, Tch No wb w9 → w9.cell? ⟨w.heap.size, 0, none⟩ = some (.int .i64 k) ∧ w9.cell? ⟨w.heap.size, 1, none⟩ = some (.string nm) ∧ w9.cell? ⟨w.heap.size, 2, none⟩ = some (.int .i64 n) ∧ w9.cell? ⟨w.heap.size, 3, none⟩ = some (.int .i64 lo) ∧ w9.cell? ⟨w.heap.size, 4, none⟩ = some (.int .i64 hi) ∧ w9.cell? ⟨w.heap.size, 5, none⟩ = some (.slice A kids.len c)) := fun w9 t => cells6 (t.blk BX.out (fun f => f))
  obtain ⟨e0, e1, e2, e3, e4, e5⟩ := RD.out wb (Tch.refl _ _)
  unfold xcells at hwb
  subst hkk
  have HX : Hid (prX 25 nm n lo hi (prs kids) = ((frontP 25 lo hi ++ [40]) ++ Lib.join (prs kids) sepC) ++ [41]) := by
    rw [prXw (k := 25) (by decide) nm n lo hi (prs kids)]
    show _ = ((wordP 25 ++ []) ++ [40]) ++ _ ++ [41]
    rw [List.append_nil]
  have hfl : (frontP 25 lo hi).length ≤ 48 := by
    unfold frontP
    split
    · simp; omega
    · simp; omega
  generalize frontP 25 lo hi = Fr at *
  generalize Lib.join (prs kids) sepC = J at *
  generalize hml : kids.len = m at *
  subst hm
  have HM := Lib.hid hml
  clear hml
  have n0 : ¬ (9223372036854775807 < Fr.length + 1) := by omega
  have n1 : ¬ (9223372036854775807 < Fr.length + 1 + J.length) := by omega
  have n2 : ¬ (9223372036854775807 < Fr.length + 1 + J.length + 1) := by omega
  go_enter Try.func36, Try.ntmps36
  go_wp2_with fail
  go_region_held3 (fun w' => w'.cell? ⟨w.heap.size, 0, none⟩ = some (.int .i64 25) ∧ w'.cell? ⟨w.heap.size, 1, none⟩ = some (.string nm) ∧ w'.cell? ⟨w.heap.size, 2, none⟩ = some (.int .i64 n) ∧ w'.cell? ⟨w.heap.size, 3, none⟩ = some (.int .i64 lo) ∧ w'.cell? ⟨w.heap.size, 4, none⟩ = some (.int .i64 hi) ∧ w'.cell? ⟨w.heap.size, 5, none⟩ = some (.slice A 1 c)) (go_keep)
    (first
      | (go_at_call 59; go_must (refine (AC.out _ (TB.out.and T4.out)).mono ?_; rintro e w5 ⟨rfl, t5⟩; have T5 := Lib.hid (T4.out.and t5); have y01 := RD.out w5 T5.out; obtain ⟨z0, z1, z2, z3, z4, z5⟩ := y01; clear t5))
      | (go_at_call 61; go_must (refine (FC.out _).mono ?_; rintro e w4 ⟨rfl, t4⟩; have T4 : Hid (Tch No wb w4) := t4.undrewN (n := 1); have y01 := RD.out w4 T4.out; obtain ⟨y0, y1, y2, y3, y4, y5⟩ := y01; clear t4))
      | fail)
  all_goals
    go_wp2
    go_returns
    refine ⟨ret_str2 ?_, TB.out.and T5.out⟩
    rw [HX.out]
    simp only [bapp]
set_option maxHeartbeats 16000000 in
set_option maxRecDepth 100000 in
theorem rr_22 (k : Int) (nm : ByteArray) (n lo hi : Int) (kids : Fo) (hnm : nm.size ≤ 100000000) (hw : wF kids ≤ 100000000) (f1 : Fit n) (f2 : Fit lo) (f3 : Fit hi) (hff : fitF kids) (H : Each RrC kids) (hv : vF kids) (hkk : k = 22) (hm : kids.len = 1)
    (A : Option Addr) (c : Nat) (w0 w : World) (ht0 : Tch No w0 w) (hk : KA w0 kids A kids.len) : Calls Try.prog 36 #[xagg k nm n lo hi A kids.len c] w (Str1 (prX k nm n lo hi (prs kids)) w) := by
  have AC := Lib.hid (fun w' (t : Tch No w w') => rlist_c kids hw hff hv H A c w0 w' (ht0.and t) hk)
  have GC := Lib.hid (fun w' => between_c k w')
  have FC := Lib.hid (fun w' => front_c k nm n lo hi A kids.len c w' f2 f3 (by omega))
  have hjl := join_tl (prs kids)
  have htl := prs_tl kids hff
  have hwl := wordp_len k
  have hsl := sign_len k
  have hpl := span_len f2 f3
  have HH := Lib.hid H
  have HK := Lib.hid hk
  have HV := Lib.hid hv
  have HT0 := Lib.hid ht0
  clear ht0 hk H f1 f2 f3 hff hv
  unfold xagg at *
  generalize hwb : w.alloc (.cells (xcells k nm n lo hi A kids.len c) 51) = wb
  have TB : Hid (Tch No w wb) := by subst hwb; exact (Tch.refl No w).alloc _
  have BX : Hid (Blk wb w.heap.size 51 (xcells k nm n lo hi A kids.len c)) := by subst hwb; exact Blk.new w 51 _
  have RD : Hid (∀ w9, Tch No wb w9 → w9.cell? ⟨w.heap.size, 0, none⟩ = some (.int .i64 k) ∧ w9.cell? ⟨w.heap.size, 1, none⟩ = some (.string nm) ∧ w9.cell? ⟨w.heap.size, 2, none⟩ = some (.int .i64 n) ∧ w9.cell? ⟨w.heap.size, 3, none⟩ = some (.int .i64 lo) ∧ w9.cell? ⟨w.heap.size, 4, none⟩ = some (.int .i64 hi) ∧ w9.cell? ⟨w.heap.size, 5, none⟩ = some (.slice A kids.len c)) := fun w9 t => cells6 (t.blk BX.out (fun f => f))
  obtain ⟨e0, e1, e2, e3, e4, e5⟩ := RD.out wb (Tch.refl _ _)
  unfold xcells at hwb
  subst hkk
  have HX : Hid (prX 22 nm n lo hi (prs kids) = ((frontP 22 lo hi ++ [40]) ++ Lib.join (prs kids) sepC) ++ [41]) := by
    rw [prXt (k := 22) (by decide) nm n lo hi (prs kids)]
    exact rfl
  have hfl : (frontP 22 lo hi).length ≤ 48 := by
    unfold frontP
    split
    · simp; omega
    · simp; omega
  generalize frontP 22 lo hi = Fr at *
  generalize Lib.join (prs kids) sepC = J at *
  generalize hml : kids.len = m at *
  subst hm
  have HM := Lib.hid hml
  clear hml
  have n0 : ¬ (9223372036854775807 < Fr.length + 1) := by omega
  have n1 : ¬ (9223372036854775807 < Fr.length + 1 + J.length) := by omega
  have n2 : ¬ (9223372036854775807 < Fr.length + 1 + J.length + 1) := by omega
  go_enter Try.func36, Try.ntmps36
  go_wp2_with fail
  go_region_held3 (fun w' => w'.cell? ⟨w.heap.size, 0, none⟩ = some (.int .i64 22) ∧ w'.cell? ⟨w.heap.size, 1, none⟩ = some (.string nm) ∧ w'.cell? ⟨w.heap.size, 2, none⟩ = some (.int .i64 n) ∧ w'.cell? ⟨w.heap.size, 3, none⟩ = some (.int .i64 lo) ∧ w'.cell? ⟨w.heap.size, 4, none⟩ = some (.int .i64 hi) ∧ w'.cell? ⟨w.heap.size, 5, none⟩ = some (.slice A 1 c)) (go_keep)
    (first
      | (go_at_call 59; go_must (refine (AC.out _ (TB.out.and T4.out)).mono ?_; rintro e w5 ⟨rfl, t5⟩; have T5 := Lib.hid (T4.out.and t5); have y01 := RD.out w5 T5.out; obtain ⟨z0, z1, z2, z3, z4, z5⟩ := y01; clear t5))
      | (go_at_call 61; go_must (refine (FC.out _).mono ?_; rintro e w4 ⟨rfl, t4⟩; have T4 : Hid (Tch No wb w4) := t4.undrewN (n := 1); have y01 := RD.out w4 T4.out; obtain ⟨y0, y1, y2, y3, y4, y5⟩ := y01; clear t4))
      | fail)
  all_goals
    go_wp2
    go_returns
    refine ⟨ret_str2 ?_, TB.out.and T5.out⟩
    rw [HX.out]
    simp only [bapp]
set_option maxHeartbeats 16000000 in
set_option maxRecDepth 100000 in
theorem rr_23 (k : Int) (nm : ByteArray) (n lo hi : Int) (kids : Fo) (hnm : nm.size ≤ 100000000) (hw : wF kids ≤ 100000000) (f1 : Fit n) (f2 : Fit lo) (f3 : Fit hi) (hff : fitF kids) (H : Each RrC kids) (hv : vF kids) (hkk : k = 23) (hm : kids.len = 1)
    (A : Option Addr) (c : Nat) (w0 w : World) (ht0 : Tch No w0 w) (hk : KA w0 kids A kids.len) : Calls Try.prog 36 #[xagg k nm n lo hi A kids.len c] w (Str1 (prX k nm n lo hi (prs kids)) w) := by
  have AC := Lib.hid (fun w' (t : Tch No w w') => rlist_c kids hw hff hv H A c w0 w' (ht0.and t) hk)
  have GC := Lib.hid (fun w' => between_c k w')
  have FC := Lib.hid (fun w' => front_c k nm n lo hi A kids.len c w' f2 f3 (by omega))
  have hjl := join_tl (prs kids)
  have htl := prs_tl kids hff
  have hwl := wordp_len k
  have hsl := sign_len k
  have hpl := span_len f2 f3
  have HH := Lib.hid H
  have HK := Lib.hid hk
  have HV := Lib.hid hv
  have HT0 := Lib.hid ht0
  clear ht0 hk H f1 f2 f3 hff hv
  unfold xagg at *
  generalize hwb : w.alloc (.cells (xcells k nm n lo hi A kids.len c) 51) = wb
  have TB : Hid (Tch No w wb) := by subst hwb; exact (Tch.refl No w).alloc _
  have BX : Hid (Blk wb w.heap.size 51 (xcells k nm n lo hi A kids.len c)) := by subst hwb; exact Blk.new w 51 _
  have RD : Hid (∀ w9, Tch No wb w9 → w9.cell? ⟨w.heap.size, 0, none⟩ = some (.int .i64 k) ∧ w9.cell? ⟨w.heap.size, 1, none⟩ = some (.string nm) ∧ w9.cell? ⟨w.heap.size, 2, none⟩ = some (.int .i64 n) ∧ w9.cell? ⟨w.heap.size, 3, none⟩ = some (.int .i64 lo) ∧ w9.cell? ⟨w.heap.size, 4, none⟩ = some (.int .i64 hi) ∧ w9.cell? ⟨w.heap.size, 5, none⟩ = some (.slice A kids.len c)) := fun w9 t => cells6 (t.blk BX.out (fun f => f))
  obtain ⟨e0, e1, e2, e3, e4, e5⟩ := RD.out wb (Tch.refl _ _)
  unfold xcells at hwb
  subst hkk
  have HX : Hid (prX 23 nm n lo hi (prs kids) = ((frontP 23 lo hi ++ [40]) ++ Lib.join (prs kids) sepC) ++ [41]) := by
    rw [prXt (k := 23) (by decide) nm n lo hi (prs kids)]
    exact rfl
  have hfl : (frontP 23 lo hi).length ≤ 48 := by
    unfold frontP
    split
    · simp; omega
    · simp; omega
  generalize frontP 23 lo hi = Fr at *
  generalize Lib.join (prs kids) sepC = J at *
  generalize hml : kids.len = m at *
  subst hm
  have HM := Lib.hid hml
  clear hml
  have n0 : ¬ (9223372036854775807 < Fr.length + 1) := by omega
  have n1 : ¬ (9223372036854775807 < Fr.length + 1 + J.length) := by omega
  have n2 : ¬ (9223372036854775807 < Fr.length + 1 + J.length + 1) := by omega
  go_enter Try.func36, Try.ntmps36
  go_wp2_with fail
  go_region_held3 (fun w' => w'.cell? ⟨w.heap.size, 0, none⟩ = some (.int .i64 23) ∧ w'.cell? ⟨w.heap.size, 1, none⟩ = some (.string nm) ∧ w'.cell? ⟨w.heap.size, 2, none⟩ = some (.int .i64 n) ∧ w'.cell? ⟨w.heap.size, 3, none⟩ = some (.int .i64 lo) ∧ w'.cell? ⟨w.heap.size, 4, none⟩ = some (.int .i64 hi) ∧ w'.cell? ⟨w.heap.size, 5, none⟩ = some (.slice A 1 c)) (go_keep)
    (first
      | (go_at_call 59; go_must (refine (AC.out _ (TB.out.and T4.out)).mono ?_; rintro e w5 ⟨rfl, t5⟩; have T5 := Lib.hid (T4.out.and t5); have y01 := RD.out w5 T5.out; obtain ⟨z0, z1, z2, z3, z4, z5⟩ := y01; clear t5))
      | (go_at_call 61; go_must (refine (FC.out _).mono ?_; rintro e w4 ⟨rfl, t4⟩; have T4 : Hid (Tch No wb w4) := t4.undrewN (n := 1); have y01 := RD.out w4 T4.out; obtain ⟨y0, y1, y2, y3, y4, y5⟩ := y01; clear t4))
      | fail)
  all_goals
    go_wp2
    go_returns
    refine ⟨ret_str2 ?_, TB.out.and T5.out⟩
    rw [HX.out]
    simp only [bapp]
set_option maxHeartbeats 16000000 in
set_option maxRecDepth 100000 in
theorem rr_24 (k : Int) (nm : ByteArray) (n lo hi : Int) (kids : Fo) (hnm : nm.size ≤ 100000000) (hw : wF kids ≤ 100000000) (f1 : Fit n) (f2 : Fit lo) (f3 : Fit hi) (hff : fitF kids) (H : Each RrC kids) (hv : vF kids) (hkk : k = 24) (hm : kids.len = 2)
    (A : Option Addr) (c : Nat) (w0 w : World) (ht0 : Tch No w0 w) (hk : KA w0 kids A kids.len) : Calls Try.prog 36 #[xagg k nm n lo hi A kids.len c] w (Str1 (prX k nm n lo hi (prs kids)) w) := by
  have AC := Lib.hid (fun w' (t : Tch No w w') => rlist_c kids hw hff hv H A c w0 w' (ht0.and t) hk)
  have GC := Lib.hid (fun w' => between_c k w')
  have FC := Lib.hid (fun w' => front_c k nm n lo hi A kids.len c w' f2 f3 (by omega))
  have hjl := join_tl (prs kids)
  have htl := prs_tl kids hff
  have hwl := wordp_len k
  have hsl := sign_len k
  have hpl := span_len f2 f3
  have HH := Lib.hid H
  have HK := Lib.hid hk
  have HV := Lib.hid hv
  have HT0 := Lib.hid ht0
  clear ht0 hk H f1 f2 f3 hff hv
  unfold xagg at *
  generalize hwb : w.alloc (.cells (xcells k nm n lo hi A kids.len c) 51) = wb
  have TB : Hid (Tch No w wb) := by subst hwb; exact (Tch.refl No w).alloc _
  have BX : Hid (Blk wb w.heap.size 51 (xcells k nm n lo hi A kids.len c)) := by subst hwb; exact Blk.new w 51 _
  have RD : Hid (∀ w9, Tch No wb w9 → w9.cell? ⟨w.heap.size, 0, none⟩ = some (.int .i64 k) ∧ w9.cell? ⟨w.heap.size, 1, none⟩ = some (.string nm) ∧ w9.cell? ⟨w.heap.size, 2, none⟩ = some (.int .i64 n) ∧ w9.cell? ⟨w.heap.size, 3, none⟩ = some (.int .i64 lo) ∧ w9.cell? ⟨w.heap.size, 4, none⟩ = some (.int .i64 hi) ∧ w9.cell? ⟨w.heap.size, 5, none⟩ = some (.slice A kids.len c)) := fun w9 t => cells6 (t.blk BX.out (fun f => f))
  obtain ⟨e0, e1, e2, e3, e4, e5⟩ := RD.out wb (Tch.refl _ _)
  unfold xcells at hwb
  subst hkk
  have HX : Hid (prX 24 nm n lo hi (prs kids) = ((frontP 24 lo hi ++ [40]) ++ Lib.join (prs kids) sepC) ++ [41]) := by
    rw [prXt (k := 24) (by decide) nm n lo hi (prs kids)]
    exact rfl
  have hfl : (frontP 24 lo hi).length ≤ 48 := by
    unfold frontP
    split
    · simp; omega
    · simp; omega
  generalize frontP 24 lo hi = Fr at *
  generalize Lib.join (prs kids) sepC = J at *
  generalize hml : kids.len = m at *
  subst hm
  have HM := Lib.hid hml
  clear hml
  have n0 : ¬ (9223372036854775807 < Fr.length + 1) := by omega
  have n1 : ¬ (9223372036854775807 < Fr.length + 1 + J.length) := by omega
  have n2 : ¬ (9223372036854775807 < Fr.length + 1 + J.length + 1) := by omega
  go_enter Try.func36, Try.ntmps36
  go_wp2_with fail
  go_region_held3 (fun w' => w'.cell? ⟨w.heap.size, 0, none⟩ = some (.int .i64 24) ∧ w'.cell? ⟨w.heap.size, 1, none⟩ = some (.string nm) ∧ w'.cell? ⟨w.heap.size, 2, none⟩ = some (.int .i64 n) ∧ w'.cell? ⟨w.heap.size, 3, none⟩ = some (.int .i64 lo) ∧ w'.cell? ⟨w.heap.size, 4, none⟩ = some (.int .i64 hi) ∧ w'.cell? ⟨w.heap.size, 5, none⟩ = some (.slice A 2 c)) (go_keep)
    (first
      | (go_at_call 59; go_must (refine (AC.out _ (TB.out.and T4.out)).mono ?_; rintro e w5 ⟨rfl, t5⟩; have T5 := Lib.hid (T4.out.and t5); have y01 := RD.out w5 T5.out; obtain ⟨z0, z1, z2, z3, z4, z5⟩ := y01; clear t5))
      | (go_at_call 61; go_must (refine (FC.out _).mono ?_; rintro e w4 ⟨rfl, t4⟩; have T4 : Hid (Tch No wb w4) := t4.undrewN (n := 1); have y01 := RD.out w4 T4.out; obtain ⟨y0, y1, y2, y3, y4, y5⟩ := y01; clear t4))
      | fail)
  all_goals
    go_wp2
    go_returns
    refine ⟨ret_str2 ?_, TB.out.and T5.out⟩
    rw [HX.out]
    simp only [bapp]
set_option maxHeartbeats 16000000 in
set_option maxRecDepth 100000 in
theorem rr_two (k : Int) (nm : ByteArray) (n lo hi : Int) (kids : Fo) (hnm : nm.size ≤ 100000000) (hw : wF kids ≤ 100000000) (f1 : Fit n) (f2 : Fit lo) (f3 : Fit hi) (hff : fitF kids) (H : Each RrC kids) (hv : vF kids) (hkk : k = 8 ∨ k = 9 ∨ k = 10 ∨ k = 14 ∨ k = 15 ∨ k = 16 ∨ k = 17 ∨ k = 19 ∨ k = 20) (h2 : kids.len = 2)
    (A : Option Addr) (c : Nat) (w0 w : World) (ht0 : Tch No w0 w) (hk : KA w0 kids A kids.len) : Calls Try.prog 36 #[xagg k nm n lo hi A kids.len c] w (Str1 (prX k nm n lo hi (prs kids)) w) := by
  have AC := Lib.hid (fun w' (t : Tch No w w') => rlist_c kids hw hff hv H A c w0 w' (ht0.and t) hk)
  have GC := Lib.hid (fun w' => between_c k w')
  skip
  have hjl := join_tl (prs kids)
  have htl := prs_tl kids hff
  have hwl := wordp_len k
  have hsl := sign_len k
  have hpl := span_len f2 f3
  have HH := Lib.hid H
  have HK := Lib.hid hk
  have HV := Lib.hid hv
  have HT0 := Lib.hid ht0
  clear ht0 hk H f1 f2 f3 hff hv
  unfold xagg at *
  generalize hwb : w.alloc (.cells (xcells k nm n lo hi A kids.len c) 51) = wb
  have TB : Hid (Tch No w wb) := by subst hwb; exact (Tch.refl No w).alloc _
  have BX : Hid (Blk wb w.heap.size 51 (xcells k nm n lo hi A kids.len c)) := by subst hwb; exact Blk.new w 51 _
  have RD : Hid (∀ w9, Tch No wb w9 → w9.cell? ⟨w.heap.size, 0, none⟩ = some (.int .i64 k) ∧ w9.cell? ⟨w.heap.size, 1, none⟩ = some (.string nm) ∧ w9.cell? ⟨w.heap.size, 2, none⟩ = some (.int .i64 n) ∧ w9.cell? ⟨w.heap.size, 3, none⟩ = some (.int .i64 lo) ∧ w9.cell? ⟨w.heap.size, 4, none⟩ = some (.int .i64 hi) ∧ w9.cell? ⟨w.heap.size, 5, none⟩ = some (.slice A kids.len c)) := fun w9 t => cells6 (t.blk BX.out (fun f => f))
  obtain ⟨e0, e1, e2, e3, e4, e5⟩ := RD.out wb (Tch.refl _ _)
  unfold xcells at hwb
  have HX : Hid (prX k nm n lo hi (prs kids) = match prs kids with
    | [a, b] => ((((([40] ++ a) ++ [32]) ++ signP k) ++ [32]) ++ b) ++ [41]
    | _ => leafP k nm n hi) := prXo (by omega) _ _ _ _ _
  have b4 : (k == 4) = false := by simp; omega
  have b11 : (k == 11) = false := by simp; omega
  have b18 : (k == 18) = false := by simp; omega
  have b24 : (k == 24) = false := by simp; omega
  clear hkk
  obtain ⟨k1, nm1, n1, lo1, hi1, kids1, k2, nm2, n2, lo2, hi2, kids2, rfl⟩ := prs_two h2
  rw [h2] at *
  have hkf := HK.out.2
  rcases hkf with hkf | ⟨g, o, rfl, hfo⟩
  · simp [Fo.len] at hkf
  obtain ⟨A1, c1, hc1, hka1, hr1⟩ := foa_first hfo
  obtain ⟨A2, c2, hc2, hka2, _⟩ := foa_first hr1
  have P1 := Lib.hid (fun w' (t : Tch No w w') => HH.out.1 HV.out.1 HV.out.2.1 A1 c1 w0 w' (HT0.out.and t) hka1)
  have P2 := Lib.hid (fun w' (t : Tch No w w') => HH.out.2.1 HV.out.2.2.1 HV.out.2.2.2.1 A2 c2 w0 w' (HT0.out.and t) hka2)
  unfold xagg at P1 P2
  have RE : Hid (∀ w9, Tch No wb w9 → (w9.cell? ⟨w.heap.size, 0, none⟩ = some (.int .i64 k) ∧ w9.cell? ⟨w.heap.size, 5, none⟩ = some (.slice (some ⟨g, o, none⟩) 2 c)) ∧ (w9.cell? ⟨g, o, none⟩ = some (.int .i64 k1) ∧ w9.cell? ⟨g, o + 1, none⟩ = some (.string nm1) ∧ w9.cell? ⟨g, o + 2, none⟩ = some (.int .i64 n1) ∧ w9.cell? ⟨g, o + 3, none⟩ = some (.int .i64 lo1) ∧ w9.cell? ⟨g, o + 4, none⟩ = some (.int .i64 hi1) ∧ w9.cell? ⟨g, o + 5, none⟩ = some (.slice A1 kids1.len c1)) ∧ (w9.cell? ⟨g, o + 6, none⟩ = some (.int .i64 k2) ∧ w9.cell? ⟨g, o + 6 + 1, none⟩ = some (.string nm2) ∧ w9.cell? ⟨g, o + 6 + 2, none⟩ = some (.int .i64 n2) ∧ w9.cell? ⟨g, o + 6 + 3, none⟩ = some (.int .i64 lo2) ∧ w9.cell? ⟨g, o + 6 + 4, none⟩ = some (.int .i64 hi2) ∧ w9.cell? ⟨g, o + 6 + 5, none⟩ = some (.slice A2 kids2.len c2))) := fun w9 t => by
    have h0 := RD.out w9 t
    have T := HT0.out.and (TB.out.and t)
    exact ⟨⟨h0.1, h0.2.2.2.2.2⟩, ⟨T.cell (fun f => f) hc1.1, T.cell (fun f => f) hc1.2.1, T.cell (fun f => f) hc1.2.2.1, T.cell (fun f => f) hc1.2.2.2.1, T.cell (fun f => f) hc1.2.2.2.2.1, T.cell (fun f => f) hc1.2.2.2.2.2⟩,
      T.cell (fun f => f) hc2.1, T.cell (fun f => f) hc2.2.1, T.cell (fun f => f) hc2.2.2.1, T.cell (fun f => f) hc2.2.2.2.1, T.cell (fun f => f) hc2.2.2.2.2.1, T.cell (fun f => f) hc2.2.2.2.2.2⟩
  have HY : Hid (prs (.cons k1 nm1 n1 lo1 hi1 kids1 (.cons k2 nm2 n2 lo2 hi2 kids2 .nil)) = [prX k1 nm1 n1 lo1 hi1 (prs kids1), prX k2 nm2 n2 lo2 hi2 (prs kids2)]) := rfl
  have HX3 : Hid (prX k nm n lo hi (prs (.cons k1 nm1 n1 lo1 hi1 kids1 (.cons k2 nm2 n2 lo2 hi2 kids2 .nil))) = ((((([40] ++ prX k1 nm1 n1 lo1 hi1 (prs kids1)) ++ [32]) ++ signP k) ++ [32]) ++ prX k2 nm2 n2 lo2 hi2 (prs kids2)) ++ [41]) := by rw [HX.out, HY.out]; exact rfl
  clear HX
  rw [HY.out] at htl
  simp only [tl, List.map_cons, List.map_nil, List.sum_cons, List.sum_nil] at htl
  generalize prX k1 nm1 n1 lo1 hi1 (prs kids1) = X1 at *
  generalize prX k2 nm2 n2 lo2 hi2 (prs kids2) = X2 at *
  generalize signP k = Sg at *
  clear h2 hfo hr1 hc1 hc2 hka1 hka2 e0 e1 e2 e3 e4 e5 hjl hwl hpl
  obtain ⟨⟨ea, eb⟩, ⟨e0, e1, e2, e3, e4, e5⟩, e6, e7, e8, e9, ec, ed⟩ := RE.out wb (Tch.refl _ _)
  have n0 : ¬ (9223372036854775807 < 1 + X1.length) := by omega
  have n3 : ¬ (9223372036854775807 < 1 + X1.length + 1) := by omega
  have n4 : ¬ (9223372036854775807 < 1 + X1.length + 1 + Sg.length) := by omega
  have n5 : ¬ (9223372036854775807 < 1 + X1.length + 1 + Sg.length + 1) := by omega
  have n6 : ¬ (9223372036854775807 < 1 + X1.length + 1 + Sg.length + 1 + X2.length) := by omega
  have n7 : ¬ (9223372036854775807 < 1 + X1.length + 1 + Sg.length + 1 + X2.length + 1) := by omega
  have hg6 : o + 1 * 6 = o + 6 := by omega
  go_enter Try.func36, Try.ntmps36
  go_wp2_with fail
  go_region_held3 (fun w' => (w'.cell? ⟨w.heap.size, 0, none⟩ = some (.int .i64 k) ∧ w'.cell? ⟨w.heap.size, 5, none⟩ = some (.slice (some ⟨g, o, none⟩) 2 c)) ∧ (w'.cell? ⟨g, o, none⟩ = some (.int .i64 k1) ∧ w'.cell? ⟨g, o + 1, none⟩ = some (.string nm1) ∧ w'.cell? ⟨g, o + 2, none⟩ = some (.int .i64 n1) ∧ w'.cell? ⟨g, o + 3, none⟩ = some (.int .i64 lo1) ∧ w'.cell? ⟨g, o + 4, none⟩ = some (.int .i64 hi1) ∧ w'.cell? ⟨g, o + 5, none⟩ = some (.slice A1 kids1.len c1)) ∧ (w'.cell? ⟨g, o + 6, none⟩ = some (.int .i64 k2) ∧ w'.cell? ⟨g, o + 6 + 1, none⟩ = some (.string nm2) ∧ w'.cell? ⟨g, o + 6 + 2, none⟩ = some (.int .i64 n2) ∧ w'.cell? ⟨g, o + 6 + 3, none⟩ = some (.int .i64 lo2) ∧ w'.cell? ⟨g, o + 6 + 4, none⟩ = some (.int .i64 hi2) ∧ w'.cell? ⟨g, o + 6 + 5, none⟩ = some (.slice A2 kids2.len c2))) (go_keep)
    (first
      | (go_at_call_of 36 (Value.agg #[Value.int IntKind.i64 k2, Value.string nm2, Value.int IntKind.i64 n2, Value.int IntKind.i64 lo2, Value.int IntKind.i64 hi2, Value.slice A2 kids2.len c2]); go_must (refine (P2.out _ (TB.out.and T6.out)).mono ?_; rintro e w5 ⟨rfl, t5⟩; have T5 := Lib.hid (T6.out.and t5); have y01 := RE.out w5 T5.out; obtain ⟨⟨za, zb⟩, ⟨z0, z1, z2, z3, z4, z5⟩, z6, z7, z8, z9, zc, zd⟩ := y01; clear t5))
      | (go_at_call 62; go_must (refine (GC.out _).mono ?_; rintro e w6 ⟨rfl, t6⟩; have T6 := Lib.hid (T4.out.and t6); have y01 := RE.out w6 T6.out; obtain ⟨⟨xa, xb⟩, ⟨x0, x1, x2, x3, x4, x5⟩, x6, x7, x8, x9, xc, xd⟩ := y01; clear t6))
      | (go_at_call_of 36 (Value.agg #[Value.int IntKind.i64 k1, Value.string nm1, Value.int IntKind.i64 n1, Value.int IntKind.i64 lo1, Value.int IntKind.i64 hi1, Value.slice A1 kids1.len c1]); go_must (refine (P1.out _ (TB.out.and ((Tch.refl No wb).drewN 1))).mono ?_; rintro e w4 ⟨rfl, t4⟩; have T4 : Hid (Tch No wb w4) := t4.undrewN (n := 1); have y01 := RE.out w4 T4.out; obtain ⟨⟨ya, yb⟩, ⟨y0, y1, y2, y3, y4, y5⟩, y6, y7, y8, y9, yc, yd⟩ := y01; clear t4))
      | fail)
  all_goals
    go_wp2
    go_returns
    refine ⟨ret_str2 ?_, TB.out.and T5.out⟩
    rw [HX3.out]
    simp only [bapp]
theorem rr_step (k : Int) (nm : ByteArray) (n lo hi : Int) (kids : Fo) (hnm : nm.size ≤ 100000000) (hw : wF kids ≤ 100000000) (f1 : Fit n) (f2 : Fit lo) (f3 : Fit hi) (hff : fitF kids) (H : Each RrC kids) : RrC k nm n lo hi kids := by
  intro hok hv A c w0 w ht hk
  rcases hok with h | ⟨h, hm⟩ | ⟨h, hm⟩ | ⟨h, hm, hb⟩
  · exact rr_4 k nm n lo hi kids hnm hw f1 f2 f3 hff H hv h A c w0 w ht hk
  · rcases h with h | h | h | h | h | h
    · exact rr_11 k nm n lo hi kids hnm hw f1 f2 f3 hff H hv h hm A c w0 w ht hk
    · exact rr_12 k nm n lo hi kids hnm hw f1 f2 f3 hff H hv h hm A c w0 w ht hk
    · exact rr_18 k nm n lo hi kids hnm hw f1 f2 f3 hff H hv h hm A c w0 w ht hk
    · exact rr_25 k nm n lo hi kids hnm hw f1 f2 f3 hff H hv h hm A c w0 w ht hk
    · exact rr_22 k nm n lo hi kids hnm hw f1 f2 f3 hff H hv h hm A c w0 w ht hk
    · exact rr_23 k nm n lo hi kids hnm hw f1 f2 f3 hff H hv h hm A c w0 w ht hk
  · by_cases h24 : k = 24
    · exact rr_24 k nm n lo hi kids hnm hw f1 f2 f3 hff H hv h24 hm A c w0 w ht hk
    · exact rr_two k nm n lo hi kids hnm hw f1 f2 f3 hff H hv (by omega) hm A c w0 w ht hk
  · exact rr_leaf k nm n lo hi kids hnm hw f1 f2 f3 hff H hv hm (by omega) (by omega) (by omega) (by omega) (by omega) (by omega) hb A c w0 w ht hk
theorem rr_c (k : Int) (nm : ByteArray) (n lo hi : Int) (kids : Fo) (hnm : nm.size ≤ 100000000) (hw : wF kids ≤ 100000000) (f1 : Fit n) (f2 : Fit lo) (f3 : Fit hi) (hff : fitF kids) : RrC k nm n lo hi kids :=
  rr_step k nm n lo hi kids hnm hw f1 f2 f3 hff (each_wf _ (fun k nm n lo hi kids h1 h2 h3 h4 h5 h6 h7 => rr_step k nm n lo hi kids h1 h2 h3 h4 h5 h6 h7) kids hw hff)
end Go.Proofs.Ytmoiehbhhplckaa
