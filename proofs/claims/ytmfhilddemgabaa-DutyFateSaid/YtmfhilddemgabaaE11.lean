/- The duty law's package: step, the other kinds. Conditions: as E10. -/
import Derived.Test.YtmfhilddemgabaaProg
import Derived.Test.YtmfhilddemgabaaE10
import Derived.Tactics
import Derived.Tactics2
import Derived.WalkKit
import Derived.WalkSpells
import Derived.WalkLawsBesides
import Derived.StillTactics
import Derived.StillTailTactics
import Derived.OwnWalk
import Derived.Laws.Pointers
import Derived.Laws.ResultCell
import Derived.Deep.RegionHeld3
import Derived.Deep.RegionWith
import Derived.Deep.RegionLaw
import Derived.Deep.AppendLies
import Derived.Deep.QuietTactic
import Derived.BigQuiet
import Derived.LoopTactic
import Derived.Deep.LoopGhost
import Derived.Deep.DeepCutAuto
import Derived.Deep.DeepFit
import Derived.Maps.AppendAt
import Derived.Below
import Derived.Lib.Hide
import Derived.Handy
import Derived.KernelRfl
namespace Go.Proofs.Ytmfhilddemgabaa
set_option linter.unusedVariables false
set_option linter.unusedSimpArgs false
open Go.RowKit

theorem exp_apart {g n : Nat} {e : TypeId} {v u : Value} {xs : List Value} {w w2 : World} {ob : Obj} (hg : g < w.heap.size) (hv : ∀ k, v.ownBlock = some k → k < w.heap.size) (h : w2.ownsRow (w.alloc ob).heap.size e 6 u n xs) : ∀ k, u.ownBlock = some k → ¬ Foot g v k := by
  intro k hk f
  have h1 := own_base h k hk
  rw [World.size_alloc] at h1
  rcases f with f | f
  · omega
  · have := hv k f; omega
theorem step_tab {g b : Nat} {v : Value} {l : List Ins} {w w2 : World} {ob : Obj} (ht : Tab w g b v l) (h : Tch No (w.alloc ob) w2) : Tch No w w2 ∧ Tab w2 g b v l := ⟨((Tch.refl No w).alloc ob).and h, tab_tch ht (((Tch.refl No w).alloc ob).and h)⟩
theorem turnL_none (st : Int) (o : Opp) (l : List Ins) (h2 : o.kind ≠ 2) (h3 : o.kind ≠ 3) (h4 : o.kind ≠ 4) : turnL st (pK o) l = l := by
  have : turned st (pK o) = id := by
    funext x
    unfold turned pK
    rw [if_neg h2, if_neg h3, if_neg h4, if_neg (by simp)]
    rfl
  unfold turnL
  rw [this, List.map_id]

set_option maxHeartbeats 1600000 in
set_option maxRecDepth 100000 in
theorem step_ful (F : Nat → Prop) (g b : Nat) (v : Value) (l : List Ins) (A : Option Addr) (c : Nat) (o : Opp) (w : World) (ht : Tab w g b v l) (hb : b ≤ w.heap.size) (hr : Rd w (FF g v F) 6 A l.length (rows l)) (hF : ∀ k, F k → k < w.heap.size) (hnil : SNil A l.length c) (hl : l.length ≤ 999999) (h1 : o.kind = 2) :
    Calls Try.prog 44 #[.pointer (some ⟨g, 0, none⟩), .slice A l.length c, oagg o] w (StepP g b v F (stepL l o) w) := by
  have k1 : (o.kind == 1) = false := by simp; omega
  have k2 : (o.kind == 2) = true := by simpa using h1
  have k3 : (o.kind == 3) = false := by simp; omega
  have k4 : (o.kind == 4) = false := by simp; omega
  have H1 := Lib.hid h1
  have HT := Lib.hid ht
  have HR := Lib.hid hr
  have HN := Lib.hid hnil
  have hgl := ht.1.lt
  have hvl := own_lt ht.2
  have HV := Lib.hid hvl
  have bx : Blk (w.alloc (.cells (ocells o).toArray 33)) w.heap.size 33 (ocells o).toArray := Blk.new w 33 _
  have BX := Lib.hid bx
  clear h1 ht hr hvl hnil bx
  unfold oagg
  go_enter Try.func44, Try.ntmps44
  go_wp2_with fail
  refine (turn48_c (FF g v F) A c l o _ (HR.out.tch ((Tch.refl _ w).alloc _)) (by omega)).mono ?_
  rintro e w2 ⟨A2, c2, B2, d2, rfl, ho, hh, t⟩
  have st := step_tab HT.out t
  obtain ⟨x0, x1, x2, x3, x4, x5, x6, x7⟩ := cells8 (box_lt BX.out t)
  have OO := Lib.hid (own_mono ho (by simp) : w2.ownsRow w.heap.size 23 6 (.slice A2 (turnL o.kind (pK o) l).length c2) (turnL o.kind (pK o) l).length (rows (turnL o.kind (pK o) l)))
  have HH := Lib.hid hh
  have ST := Lib.hid st
  have bx2 := box_lt BX.out t
  have BX2 := Lib.hid bx2
  clear ho hh t st bx2
  have EP : Hid (pF o.x.id o.x.act o.at_ = pK o) := by show pF o.x.id o.x.act o.at_ = pK o; funext y; unfold pK; rw [if_pos H1.out]
  go_wp2_with (go_at_call 16; go_must (refine (fulfil_c g b v l o.x.id o.x.act o.at_ _ ST.out.2 (by omega)).mono ?_); rintro e w3 ⟨rfl, ht3, t3⟩; rw [EP.out, ← H1.out] at ht3; rw [EP.out, ← H1.out])
  go_returns
  have E1 : stepL l o = turnL o.kind (pK o) l := if_neg (by rw [H1.out]; decide)
  rw [E1]
  exact step_fin (v' := v) rfl ST.out.1 OO.out t3 hgl hF HV.out (fun k hk => .inl hk) ht3

set_option maxHeartbeats 1600000 in
set_option maxRecDepth 100000 in
theorem step_exp (F : Nat → Prop) (g b : Nat) (v : Value) (l : List Ins) (A : Option Addr) (c : Nat) (o : Opp) (w : World) (ht : Tab w g b v l) (hb : b ≤ w.heap.size) (hr : Rd w (FF g v F) 6 A l.length (rows l)) (hF : ∀ k, F k → k < w.heap.size) (hnil : SNil A l.length c) (hl : l.length ≤ 999999) (h1 : o.kind = 3) :
    Calls Try.prog 44 #[.pointer (some ⟨g, 0, none⟩), .slice A l.length c, oagg o] w (StepP g b v F (stepL l o) w) := by
  have k1 : (o.kind == 1) = false := by simp; omega
  have k2 : (o.kind == 2) = false := by simp; omega
  have k3 : (o.kind == 3) = true := by simpa using h1
  have k4 : (o.kind == 4) = false := by simp; omega
  have H1 := Lib.hid h1
  have HT := Lib.hid ht
  have HR := Lib.hid hr
  have HN := Lib.hid hnil
  have hgl := ht.1.lt
  have hvl := own_lt ht.2
  have HV := Lib.hid hvl
  have bx : Blk (w.alloc (.cells (ocells o).toArray 33)) w.heap.size 33 (ocells o).toArray := Blk.new w 33 _
  have BX := Lib.hid bx
  clear h1 ht hr hvl hnil bx
  unfold oagg
  go_enter Try.func44, Try.ntmps44
  go_wp2_with fail
  refine (turn48_c (FF g v F) A c l o _ (HR.out.tch ((Tch.refl _ w).alloc _)) (by omega)).mono ?_
  rintro e w2 ⟨A2, c2, B2, d2, rfl, ho, hh, t⟩
  have st := step_tab HT.out t
  obtain ⟨x0, x1, x2, x3, x4, x5, x6, x7⟩ := cells8 (box_lt BX.out t)
  have OO := Lib.hid (own_mono ho (by simp) : w2.ownsRow w.heap.size 23 6 (.slice A2 (turnL o.kind (pK o) l).length c2) (turnL o.kind (pK o) l).length (rows (turnL o.kind (pK o) l)))
  have HH := Lib.hid hh
  have ST := Lib.hid st
  have bx2 := box_lt BX.out t
  have BX2 := Lib.hid bx2
  clear ho hh t st bx2
  have EP : Hid (pE o.at_ = pK o) := by show pE o.at_ = pK o; funext y; unfold pK; rw [H1.out]; rfl
  have hnn := hits_le o.kind (pK o) l l.length
  rw [List.take_length] at hnn
  go_wp2_with (first
    | (go_at_call 15; refine (expire_c g b v l o.at_ _ ST.out.2 (by omega)).mono ?_; rintro e w3 ⟨A3, c3, rfl, ho3, ht3, t3⟩; rw [EP.out, ← H1.out] at ht3 ho3; rw [EP.out, ← H1.out]; obtain ⟨A4, c4, e4, hr4⟩ := Rd.of_own (S := No) ho3 (fun _ _ f => f); injection e4 with e4 _ e5; subst e4; subst e5; have hh3 := t3.own HH.out (exp_apart hgl HV.out HH.out); obtain ⟨A5, c5, e6, hr5⟩ := Rd.of_own (S := No) hh3 (fun _ _ f => f); injection e6 with e6 _ e7; subst e6; subst e7; have RA := Lib.hid hr4; have RB := Lib.hid hr5; clear hr4 hr5 hh3 ho3)
    | (go_at_call 31; go_must (refine (same_c No _ _ _ _ _ _ _ RA.out RB.out (by omega)).mono ?_); rintro e w4 ⟨rfl, k4, rfl⟩))
  go_returns
  have E1 : stepL l o = turnL o.kind (pK o) l := if_neg (by rw [H1.out]; decide)
  rw [E1]
  exact step_fin (v' := v) rfl ST.out.1 OO.out (t3.drewN k4) hgl hF HV.out (fun k hk => .inl hk) (tab_tch ht3 ((Tch.refl No w3).drewN k4))

set_option maxHeartbeats 1600000 in
set_option maxRecDepth 100000 in
theorem step_void (F : Nat → Prop) (g b : Nat) (v : Value) (l : List Ins) (A : Option Addr) (c : Nat) (o : Opp) (w : World) (ht : Tab w g b v l) (hb : b ≤ w.heap.size) (hr : Rd w (FF g v F) 6 A l.length (rows l)) (hF : ∀ k, F k → k < w.heap.size) (hnil : SNil A l.length c) (hl : l.length ≤ 999999) (h1 : o.kind = 4) :
    Calls Try.prog 44 #[.pointer (some ⟨g, 0, none⟩), .slice A l.length c, oagg o] w (StepP g b v F (stepL l o) w) := by
  have k1 : (o.kind == 1) = false := by simp; omega
  have k2 : (o.kind == 2) = false := by simp; omega
  have k3 : (o.kind == 3) = false := by simp; omega
  have k4 : (o.kind == 4) = true := by simpa using h1
  have H1 := Lib.hid h1
  have HT := Lib.hid ht
  have HR := Lib.hid hr
  have HN := Lib.hid hnil
  have hgl := ht.1.lt
  have hvl := own_lt ht.2
  have HV := Lib.hid hvl
  have bx : Blk (w.alloc (.cells (ocells o).toArray 33)) w.heap.size 33 (ocells o).toArray := Blk.new w 33 _
  have BX := Lib.hid bx
  clear h1 ht hr hvl hnil bx
  unfold oagg
  go_enter Try.func44, Try.ntmps44
  go_wp2_with fail
  refine (turn48_c (FF g v F) A c l o _ (HR.out.tch ((Tch.refl _ w).alloc _)) (by omega)).mono ?_
  rintro e w2 ⟨A2, c2, B2, d2, rfl, ho, hh, t⟩
  have st := step_tab HT.out t
  obtain ⟨x0, x1, x2, x3, x4, x5, x6, x7⟩ := cells8 (box_lt BX.out t)
  have OO := Lib.hid (own_mono ho (by simp) : w2.ownsRow w.heap.size 23 6 (.slice A2 (turnL o.kind (pK o) l).length c2) (turnL o.kind (pK o) l).length (rows (turnL o.kind (pK o) l)))
  have HH := Lib.hid hh
  have ST := Lib.hid st
  have bx2 := box_lt BX.out t
  have BX2 := Lib.hid bx2
  clear ho hh t st bx2
  have EP : Hid (pV o.x.id = pK o) := by show pV o.x.id = pK o; funext y; unfold pK; rw [H1.out]; rfl
  go_wp2_with (go_at_call 32; go_must (refine (void_c g b v l o.x.id _ ST.out.2 (by omega)).mono ?_); rintro e w3 ⟨rfl, ht3, t3⟩; rw [EP.out, ← H1.out] at ht3; rw [EP.out, ← H1.out])
  go_returns
  have E1 : stepL l o = turnL o.kind (pK o) l := if_neg (by rw [H1.out]; decide)
  rw [E1]
  exact step_fin (v' := v) rfl ST.out.1 OO.out t3 hgl hF HV.out (fun k hk => .inl hk) ht3

set_option maxHeartbeats 1600000 in
set_option maxRecDepth 100000 in
theorem step_pend (F : Nat → Prop) (g b : Nat) (v : Value) (l : List Ins) (A : Option Addr) (c : Nat) (o : Opp) (w : World) (ht : Tab w g b v l) (hb : b ≤ w.heap.size) (hr : Rd w (FF g v F) 6 A l.length (rows l)) (hF : ∀ k, F k → k < w.heap.size) (hnil : SNil A l.length c) (hl : l.length ≤ 999999) (h1 : o.kind ≠ 1) (h2 : o.kind ≠ 2) (h3 : o.kind ≠ 3) (h4 : o.kind ≠ 4) :
    Calls Try.prog 44 #[.pointer (some ⟨g, 0, none⟩), .slice A l.length c, oagg o] w (StepP g b v F (stepL l o) w) := by
  have k1 : (o.kind == 1) = false := by simpa using h1
  have k2 : (o.kind == 2) = false := by simpa using h2
  have k3 : (o.kind == 3) = false := by simpa using h3
  have k4 : (o.kind == 4) = false := by simpa using h4
  have H1 := Lib.hid (And.intro h1 (And.intro h2 (And.intro h3 h4)))
  have HT := Lib.hid ht
  have HR := Lib.hid hr
  have HN := Lib.hid hnil
  have hgl := ht.1.lt
  have hvl := own_lt ht.2
  have HV := Lib.hid hvl
  have bx : Blk (w.alloc (.cells (ocells o).toArray 33)) w.heap.size 33 (ocells o).toArray := Blk.new w 33 _
  have BX := Lib.hid bx
  clear h1 h2 h3 h4 ht hr hvl hnil bx
  unfold oagg
  go_enter Try.func44, Try.ntmps44
  go_wp2_with fail
  refine (turn48_c (FF g v F) A c l o _ (HR.out.tch ((Tch.refl _ w).alloc _)) (by omega)).mono ?_
  rintro e w2 ⟨A2, c2, B2, d2, rfl, ho, hh, t⟩
  have st := step_tab HT.out t
  obtain ⟨x0, x1, x2, x3, x4, x5, x6, x7⟩ := cells8 (box_lt BX.out t)
  have OO := Lib.hid (own_mono ho (by simp) : w2.ownsRow w.heap.size 23 6 (.slice A2 (turnL o.kind (pK o) l).length c2) (turnL o.kind (pK o) l).length (rows (turnL o.kind (pK o) l)))
  have HH := Lib.hid hh
  have ST := Lib.hid st
  have bx2 := box_lt BX.out t
  have BX2 := Lib.hid bx2
  clear ho hh t st bx2
  go_wp2_with fail
  have tb1 := tab_tch ST.out.2 ((Tch.refl No w2).drewN 1)
  have TB1 := Lib.hid tb1
  clear tb1
  go_region_held3 (fun w' => w'.cell? ⟨w.heap.size, 1, none⟩ = some (.int .i64 o.x.id)) (go_keep) (first
    | (go_at_call 33; refine (pending_c g b v l o.x.id _ TB1.out (by omega)).mono ?_; rintro e w3 ⟨rfl, t3⟩; replace t3 : Tch No w2 w3 := t3.undrewN; have y1 := t3.cell (fun f => f) x1; have T3 := Lib.hid t3; have hr3 := (HR.out.tch (ST.out.1.and t3).no); have HR3 := Lib.hid hr3; clear t3 hr3)
    | (go_at_call 49; go_must (refine (pending49_c (FF g v F) A c l o.x.id _ HR3.out (by omega)).mono ?_); rintro e w4 ⟨rfl, rfl⟩))
  go_wp2
  go_returns
  have E1 : stepL l o = l := (if_neg H1.out.1).trans (turnL_none _ o l H1.out.2.1 H1.out.2.2.1 H1.out.2.2.2)
  rw [E1]
  exact ⟨A, c, v, rfl, HN.out, tab_tch ST.out.2 T3.out, HR3.out, (ST.out.1.and T3.out).no, fun k hk => .inl hk⟩

theorem step_c (F : Nat → Prop) (g b : Nat) (v : Value) (l : List Ins) (A : Option Addr) (c : Nat) (o : Opp) (w : World) (ht : Tab w g b v l) (hb : b ≤ w.heap.size) (hr : Rd w (FF g v F) 6 A l.length (rows l)) (hF : ∀ k, F k → k < w.heap.size) (hnil : SNil A l.length c) (hl : l.length ≤ 999999) :
    Calls Try.prog 44 #[.pointer (some ⟨g, 0, none⟩), .slice A l.length c, oagg o] w (StepP g b v F (stepL l o) w) := by
  by_cases h1 : o.kind = 1
  · exact step_add F g b v l A c o w ht hb hr hF hnil hl h1
  by_cases h2 : o.kind = 2
  · exact step_ful F g b v l A c o w ht hb hr hF hnil hl h2
  by_cases h3 : o.kind = 3
  · exact step_exp F g b v l A c o w ht hb hr hF hnil hl h3
  by_cases h4 : o.kind = 4
  · exact step_void F g b v l A c o w ht hb hr hF hnil hl h4
  exact step_pend F g b v l A c o w ht hb hr hF hnil hl h1 h2 h3 h4
end Go.Proofs.Ytmfhilddemgabaa
