/- The duty law's package: the walk of DutyFate. Conditions: the slice reads as a list of calls. -/
import Derived.Test.YtmfhilddemgabaaProg
import Derived.Test.YtmfhilddemgabaaE15
import Derived.Test.YtmfhilddemgabaaE14
import Derived.Deep.Slices
import Derived.ProofKit
import Derived.OpenShut
import Derived.Tactics
import Derived.Tactics2
import Derived.WalkKit
import Derived.WalkSpells
import Derived.WalkLawsBesides
import Derived.StillTactics
import Derived.StillTailTactics
import Derived.OwnWalk
import Derived.Laws.Pointers
import Derived.Laws.ResultCell
import Derived.Deep.RegionHeld3
import Derived.Deep.RegionWith
import Derived.Deep.RegionLaw
import Derived.Deep.AppendLies
import Derived.Deep.QuietTactic
import Derived.BigQuiet
import Derived.LoopTactic
import Derived.Deep.LoopGhost
import Derived.Deep.DeepCutAuto
import Derived.Deep.DeepFit
import Derived.Maps.AppendAt
import Derived.Below
import Derived.Lib.Hide
import Derived.Handy
import Derived.KernelRfl
import Derived.IntWalk
namespace Go.Proofs.Ytmfhilddemgabaa
set_option linter.unusedVariables false
set_option linter.unusedSimpArgs false
open Go.RowKit

/-! ## DutyFate: what becomes of one instance -/
def FH (x : Ins) (k t : Int) : Prop := k = 1 → ¬ x.due < t
def fate1 (x : Ins) (t want : Int) : Int := if want = 1 ∧ x.due < t then 3 else want
def isDone (x : Ins) (o : Opp) (want : Int) : Bool := want == 1 && ((o.x.id == x.id) && (o.x.act.toList == x.act.toList))
def fate2 (x : Ins) (o : Opp) (want : Int) : Int := if isDone x o want = true then 2 else want

theorem turn_one (st : Int) (p : Ins → Bool) (y : Ins) : turnL st p [y] = [turned st p y] := rfl
theorem fate_exp (x : Ins) (t want : Int) : turnL 3 (pE t) [{ x with state := want }] = [{ x with state := fate1 x t want }] := by
  rw [turn_one]
  unfold turned pE fate1
  simp only [decide_eq_true_eq]
  by_cases h : want = 1 ∧ x.due < t
  · rw [if_pos h, if_pos h]
  · rw [if_neg h, if_neg h]
theorem fate_ful (x : Ins) (o : Opp) (t want : Int) (h : want = 1 → ¬ x.due < t) : turnL 2 (pF o.x.id o.x.act t) [{ x with state := want }] = [{ x with state := fate2 x o want }] ∧
    (hitsL 2 (pF o.x.id o.x.act t) [{ x with state := want }]).length = if isDone x o want = true then 1 else 0 := by
  have key : (want = 1 ∧ pF o.x.id o.x.act t { x with state := want } = true) ↔ isDone x o want = true := by
    unfold pF isDone
    simp
    intro h1
    constructor
    · rintro ⟨h2, h3, h4⟩
      exact ⟨h2.symm, h3.symm⟩
    · rintro ⟨h2, h3⟩
      exact ⟨h2.symm, h3.symm, by have := h h1; omega⟩
  rw [turn_one]
  constructor
  · unfold turned fate2
    by_cases hd : isDone x o want = true
    · rw [if_pos hd, if_pos (key.2 hd)]
    · rw [if_neg hd, if_neg (fun hh => hd (key.1 hh))]
  · unfold hitsL
    by_cases hd : isDone x o want = true
    · obtain ⟨h1, h2⟩ := key.2 hd
      rw [if_pos hd]
      simp [List.filter, h1] 
      subst h1
      rw [h2]; rfl
    · rw [if_neg hd]
      have : (({ x with state := want } : Ins).state == 1 && pF o.x.id o.x.act t { x with state := want }) = false := by
        cases hh : (({ x with state := want } : Ins).state == 1 && pF o.x.id o.x.act t { x with state := want })
        · rfl
        · simp at hh
          exact absurd (key.1 hh) hd
      simp only [List.filter_cons, this, List.filter_nil]
      rfl

/-- The state of the loop. -/
def FateG (w : World) (g a c : Nat) (x : Ins) (k : Int) (wr : World) : Prop :=
  Tab wr g g (.slice (some ⟨a, 0, none⟩) 1 c) [{ x with state := k }] ∧ Tch No w wr ∧ Blk wr w.heap.size 23 (icells x).toArray
theorem fateg_go {w wr w3 : World} {g a c : Nat} {x : Ins} {k k' : Int} (h : FateG w g a c x k wr) (hg : w.heap.size < g) (t : Tch (Foot g (.slice (some ⟨a, 0, none⟩) 1 c)) wr w3) (h3 : Tab w3 g g (.slice (some ⟨a, 0, none⟩) 1 c) [{ x with state := k' }]) : FateG w g a c x k' w3 := by
  have hge := tab_ge h.1 (m := g) (Nat.le_refl _) (Nat.le_refl _)
  exact ⟨h3, tch_up h.2.1 t (fun i hi => by have := hge i hi; omega), t.blk h.2.2 (fun hi => by have := hge _ hi; omega)⟩
theorem fateg_no {w wr w3 : World} {g a c : Nat} {x : Ins} {k : Int} (h : FateG w g a c x k wr) (t : Tch No wr w3) : FateG w g a c x k w3 := ⟨tab_tch h.1 t, h.2.1.and t, t.blk h.2.2 (fun f => f)⟩
theorem fate1_not (x : Ins) (t k : Int) : fate1 x t k = 1 → ¬ x.due < t := by
  unfold fate1
  split
  · intro h; omega
  · intro h hd; rename_i hh; exact hh ⟨h, hd⟩

theorem fate_k {w wr : World} {g a c : Nat} {x : Ins} {k k' : Int} (h : FateG w g a c x k wr) (e : k = k') : FateG w g a c x k' wr := e ▸ h
theorem isdone_yes (x : Ins) (o : Opp) (h1 : o.x.id = x.id) (h2 : o.x.act.toList = x.act.toList) : isDone x o 1 = true := by
  unfold isDone
  rw [h1, h2]
  simp
theorem isdone_no (x : Ins) (o : Opp) (h : o.x.id ≠ x.id ∨ o.x.act.toList ≠ x.act.toList) : isDone x o 1 = false := by
  unfold isDone
  simp
  intro h1 h2
  exact h.elim (fun f => f h1) (fun f => f h2)
theorem rd_again {w w3 : World} {p off n : Nat} {l : List Opp} (hr : Rd w No 8 (some ⟨p, off, none⟩) n (orows l)) (i : Nat) (hi : i < n) (t3 : Tch No w w3) {a : Int} {s : ByteArray} (a1 : w3.cell? ⟨p, off + i * 8 + 1, none⟩ = some (.int .i64 a)) (a3 : w3.cell? ⟨p, off + i * 8 + 3, none⟩ = some (.string s)) :
    ∀ w4, Tch No w w4 → w4.cell? ⟨p, off + i * 8 + 1, none⟩ = some (.int .i64 a) ∧ w4.cell? ⟨p, off + i * 8 + 3, none⟩ = some (.string s) := by
  intro w4 t4
  obtain ⟨q, off', o, hA, _, _, b1, _, b3, _⟩ := rd_opp hr i hi
  obtain ⟨rfl, rfl⟩ : p = q ∧ off = off' := by simpa using hA
  have d1 := t3.cell (fun f => f) b1
  have d3 := t3.cell (fun f => f) b3
  rw [a1] at d1
  rw [a3] at d3
  rw [← d1] at b1
  rw [← d3] at b3
  exact ⟨t4.cell (fun f => f) b1, t4.cell (fun f => f) b3⟩

set_option maxHeartbeats 3200000 in
set_option maxRecDepth 100000 in
theorem fate_walk (x : Ins) (A : Option Addr) (n c : Nat) (w : World) (h : n ≤ c) (hm : c ≤ 9223372036854775807) (xs : List Opp) (hr : Rd w No 8 A n (orows xs)) :
    Calls Try.prog 3 #[.agg #[.int .i64 x.id, .int .i64 x.place, .string x.act, .int .i64 x.due, .bool x.keep, .int .i64 x.state], .slice A n c] w fun e w' => e = .returned (.bool true) ∧ Below w.heap.size w w' := by
  have HR := Lib.hid hr
  have hf := (few60_le n).1
  have B0 : Hid (Blk (w.alloc (.cells (icells x).toArray 23)) w.heap.size 23 (icells x).toArray) := Blk.new w 23 _
  clear hr
  go_enter Try.func3, Try.ntmps3
  go_wp2_with (go_at_call 12; refine (alive_c _).mono ?_; rintro e w1 ⟨rfl, t1⟩; have b1 := box_lt B0.out t1; have B1 := Lib.hid b1; have T1 := Lib.hid (((Tch.refl No w).alloc (.cells (icells x).toArray 23)).and t1); clear t1 b1)
  refine (few_c No A n c xs _ h hm (HR.out.tch T1.out)).mono ?_
  rintro e w2 ⟨rfl, rfl⟩
  have HO := Lib.hid (few_rd HR.out)
  obtain ⟨x0, x1, x2, x3, x4, x5⟩ := cells6 (B1.out.alloc (.cells #[.slice none 0 0] 30))
  have T0 : Hid (Tab (w1.alloc (.cells #[.slice none 0 0] 30)) w1.heap.size w1.heap.size (.slice none 0 0) []) := tab_new w1 _
  go_wp2_with fail
  refine (add_c w1.heap.size w1.heap.size (.slice none 0 0) [] x _ T0.out (by simp) (by simp)).mono ?_
  rintro e w2 ⟨rfl, aa, cc, ht2, t2, hat2⟩
  have fn : Tch No w w2 := tch_up (T1.out.alloc _) t2 (by
    rintro k (f | f)
    · have := T1.out.size; omega
    · simp [Value.ownBlock] at f)
  have b2 : Blk w2 w.heap.size 23 (icells x).toArray := t2.blk (B1.out.alloc _) (by
    rintro (f | f)
    · have := B1.out.lt; omega
    · simp [Value.ownBlock] at f)
  have hx1 : ({ x with state := 1 } : Ins) = { x with state := 1 } := rfl
  have TB2 : Hid (Tab w2 w1.heap.size w1.heap.size (.slice (some ⟨aa, 0, none⟩) 1 cc) [{ x with state := 1 }]) := ht2
  have B2 := Lib.hid b2
  have T2 := Lib.hid fn
  have hg : w.heap.size < w1.heap.size := B1.out.lt
  have hlen : (xs.take (few60 n)).length = few60 n := by have := HO.out.1; unfold orows at this; rw [flat_length ocells_length] at this; omega
  clear ht2 t2 hat2 fn b2 hx1 x0 x1 x2 x3 x4 x5
  go_wp2_with fail

  go_loopw [6, 7, 8] (fun kv mv iv wr => ∃ (i : Nat) (k m : Int), i ≤ few60 n ∧ iv = .int .i64 i ∧ kv = .int .i64 k ∧ mv = .int .i64 m ∧ Tab wr w1.heap.size w1.heap.size (.slice (some ⟨aa, 0, none⟩) 1 cc) [{ x with state := k }] ∧ Tch No w wr ∧ Blk wr w.heap.size 23 (icells x).toArray) (fun _ _ iv _ => few60 n - (intOf iv).toNat)
  case atStart => exact ⟨0, 1, -9223372036854775808, by omega, rfl, rfl, rfl, TB2.out, T2.out, B2.out⟩
  case round =>
    obtain ⟨i, k, m, hil, rfl, rfl, rfl, htb, htc, hbx⟩ := hrel
    by_cases hlt : i < few60 n
    · obtain ⟨p, off, o, hB, hx, a0, a1, a2, a3, a4, a5, a6, a7⟩ := rd_opp (HO.out.tch htc) i hlt
      subst hB
      obtain ⟨x0, x1, x2, x3, x4, x5⟩ := cells6 hbx
      have G := Lib.hid (And.intro htb (And.intro htc hbx))
      have G := Lib.hid (show FateG w w1.heap.size aa cc x k wr from And.intro htb (And.intro htc hbx))
      clear htb htc hbx hx x0 x1 x2 x3 x4 x5
      by_cases hmt : m < o.at_
      · go_wp2_with fail
        refine (expire_c w1.heap.size w1.heap.size _ _ _ wr G.out.1 (by simp)).mono ?_
        rintro e w3 ⟨A3, c3, rfl, o3, tb3, t3⟩
        rw [fate_exp] at tb3
        have G3 := Lib.hid (fateg_go G.out hg t3 tb3)
        clear o3 tb3 t3 a0 a1 a2 a3 a4 a5 a6 a7
        obtain ⟨x0, x1, x2, x3, x4, x5⟩ := cells6 G3.out.2.2
        obtain ⟨p', off', o', hB', hx', a0, a1, a2, a3, a4, a5, a6, a7⟩ := rd_opp (HO.out.tch G3.out.2.1) i hlt
        obtain ⟨rfl, rfl⟩ : p = p' ∧ off = off' := by simpa using hB'
        clear hB' hx'
        have RD : Hid (∀ w4, Tch No w w4 → w4.cell? ⟨p, off + i * 8 + 1, none⟩ = some (.int .i64 o'.x.id) ∧ w4.cell? ⟨p, off + i * 8 + 3, none⟩ = some (.string o'.x.act)) := rd_again HO.out i hlt G3.out.2.1 a1 a3
        by_cases hk : k = 1
        · subst hk
          by_cases hd : x.due < o.at_
          · have G4 := Lib.hid (fate_k G3.out (if_pos ⟨rfl, hd⟩ : fate1 x (o.at_) 1 = 3))
            have HP : FH x 3 (o.at_) := fun (h : (3 : Int) = 1) => by omega
            have HD : Hid (isDone x o' 3 = false) := rfl
            clear G G3
            go_wp2_with fail
            go_still_tail 14, (by kernel_rfl)
            go_wp2_with fail
            refine (fulfil_c w1.heap.size w1.heap.size _ _ o'.x.id o'.x.act (o.at_) _ (fateg_no G4.out ((Tch.refl No w3).drewN 1)).1 (by simp)).mono ?_
            rintro e w4 ⟨rfl, tb4, t4⟩
            replace t4 := Tch.undrewN (n := 1) t4
            rw [(fate_ful x o' (o.at_) (3) HP).1, show fate2 x o' (3) = 3 from if_neg (by rw [HD.out]; decide)] at tb4
            rw [(fate_ful x o' (o.at_) (3) HP).2, if_neg (by rw [HD.out]; decide)]
            have G5 := Lib.hid (fateg_go G4.out hg t4 tb4)
            clear tb4 t4 x0 x1 x2 x3 x4 x5 a0 a1 a2 a3 a4 a5 a6 a7
            have RR := Lib.hid (RD.out w4 G5.out.2.1)
            obtain ⟨a1, a3⟩ := RR.out
            obtain ⟨x0, x1, x2, x3, x4, x5⟩ := cells6 G5.out.2.2
            go_wp2_with fail
            go_quiet (fail)
            go_wp2
            exact ⟨⟨i + 1, (3), (o.at_), by omega, by simp, rfl, rfl, G5.out.1, (G5.out.2.1).drewN _, G5.out.2.2⟩, by simp [intOf]; omega⟩
          · have G4 := Lib.hid (fate_k G3.out (if_neg (fun h => hd h.2) : fate1 x (o.at_) 1 = 1))
            have HP : FH x 1 (o.at_) := fun _ => hd
            have hdd : o.at_ ≤ x.due := by omega
            clear G G3 hd
            by_cases h1 : o'.x.id = x.id
            · by_cases h2 : o'.x.act.toList = x.act.toList
              · have HD : Hid (isDone x o' 1 = true) := isdone_yes x o' h1 h2
                have b1 : (o'.x.id == x.id) = true := by simpa using h1
                have b2 : (o'.x.act.toList == x.act.toList) = true := by simpa using h2
                clear h1 h2
                go_wp2_with fail
                go_still_tail 14, (by kernel_rfl)
                go_wp2_with fail
                refine (fulfil_c w1.heap.size w1.heap.size _ _ o'.x.id o'.x.act (o.at_) _ (fateg_no G4.out ((Tch.refl No w3).drewN 1)).1 (by simp)).mono ?_
                rintro e w4 ⟨rfl, tb4, t4⟩
                replace t4 := Tch.undrewN (n := 1) t4
                rw [(fate_ful x o' (o.at_) (1) HP).1, show fate2 x o' (1) = 2 from if_pos HD.out] at tb4
                rw [(fate_ful x o' (o.at_) (1) HP).2, if_pos HD.out]
                have G5 := Lib.hid (fateg_go G4.out hg t4 tb4)
                clear tb4 t4 x0 x1 x2 x3 x4 x5 a0 a1 a2 a3 a4 a5 a6 a7
                have RR := Lib.hid (RD.out w4 G5.out.2.1)
                obtain ⟨a1, a3⟩ := RR.out
                obtain ⟨x0, x1, x2, x3, x4, x5⟩ := cells6 G5.out.2.2
                go_wp2_with fail
                go_quiet (fail)
                go_wp2
                exact ⟨⟨i + 1, (2), (o.at_), by omega, by simp, rfl, rfl, G5.out.1, (G5.out.2.1).drewN _, G5.out.2.2⟩, by simp [intOf]; omega⟩
              · have HD : Hid (isDone x o' 1 = false) := isdone_no x o' (.inr h2)
                have b1 : (o'.x.id == x.id) = true := by simpa using h1
                have b2 : (o'.x.act.toList == x.act.toList) = false := by simpa using h2
                clear h1 h2
                go_wp2_with fail
                go_still_tail 14, (by kernel_rfl)
                go_wp2_with fail
                refine (fulfil_c w1.heap.size w1.heap.size _ _ o'.x.id o'.x.act (o.at_) _ (fateg_no G4.out ((Tch.refl No w3).drewN 1)).1 (by simp)).mono ?_
                rintro e w4 ⟨rfl, tb4, t4⟩
                replace t4 := Tch.undrewN (n := 1) t4
                rw [(fate_ful x o' (o.at_) (1) HP).1, show fate2 x o' (1) = 1 from if_neg (by rw [HD.out]; decide)] at tb4
                rw [(fate_ful x o' (o.at_) (1) HP).2, if_neg (by rw [HD.out]; decide)]
                have G5 := Lib.hid (fateg_go G4.out hg t4 tb4)
                clear tb4 t4 x0 x1 x2 x3 x4 x5 a0 a1 a2 a3 a4 a5 a6 a7
                have RR := Lib.hid (RD.out w4 G5.out.2.1)
                obtain ⟨a1, a3⟩ := RR.out
                obtain ⟨x0, x1, x2, x3, x4, x5⟩ := cells6 G5.out.2.2
                go_wp2_with fail
                go_quiet (fail)
                go_wp2
                exact ⟨⟨i + 1, (1), (o.at_), by omega, by simp, rfl, rfl, G5.out.1, (G5.out.2.1).drewN _, G5.out.2.2⟩, by simp [intOf]; omega⟩
            · have HD : Hid (isDone x o' 1 = false) := isdone_no x o' (.inl h1)
              have b1 : (o'.x.id == x.id) = false := by simpa using h1
              clear h1
              go_wp2_with fail
              go_still_tail 14, (by kernel_rfl)
              go_wp2_with fail
              refine (fulfil_c w1.heap.size w1.heap.size _ _ o'.x.id o'.x.act (o.at_) _ (fateg_no G4.out ((Tch.refl No w3).drewN 1)).1 (by simp)).mono ?_
              rintro e w4 ⟨rfl, tb4, t4⟩
              replace t4 := Tch.undrewN (n := 1) t4
              rw [(fate_ful x o' (o.at_) (1) HP).1, show fate2 x o' (1) = 1 from if_neg (by rw [HD.out]; decide)] at tb4
              rw [(fate_ful x o' (o.at_) (1) HP).2, if_neg (by rw [HD.out]; decide)]
              have G5 := Lib.hid (fateg_go G4.out hg t4 tb4)
              clear tb4 t4 x0 x1 x2 x3 x4 x5 a0 a1 a2 a3 a4 a5 a6 a7
              have RR := Lib.hid (RD.out w4 G5.out.2.1)
              obtain ⟨a1, a3⟩ := RR.out
              obtain ⟨x0, x1, x2, x3, x4, x5⟩ := cells6 G5.out.2.2
              go_wp2_with fail
              go_quiet (fail)
              go_wp2
              exact ⟨⟨i + 1, (1), (o.at_), by omega, by simp, rfl, rfl, G5.out.1, (G5.out.2.1).drewN _, G5.out.2.2⟩, by simp [intOf]; omega⟩
        · have G4 := Lib.hid (fate_k G3.out (if_neg (fun h => hk h.1) : fate1 x (o.at_) k = k))
          have HP : FH x k (o.at_) := fun h => absurd h hk
          have kb : (k == 1) = false := by simpa using hk
          have HD : Hid (isDone x o' k = false) := by show isDone x o' k = false; unfold isDone; rw [kb]; rfl
          clear G G3 hk
          go_wp2_with fail
          go_still_tail 14, (by kernel_rfl)
          go_wp2_with fail
          refine (fulfil_c w1.heap.size w1.heap.size _ _ o'.x.id o'.x.act (o.at_) _ (fateg_no G4.out ((Tch.refl No w3).drewN 1)).1 (by simp)).mono ?_
          rintro e w4 ⟨rfl, tb4, t4⟩
          replace t4 := Tch.undrewN (n := 1) t4
          rw [(fate_ful x o' (o.at_) (k) HP).1, show fate2 x o' (k) = k from if_neg (by rw [HD.out]; decide)] at tb4
          rw [(fate_ful x o' (o.at_) (k) HP).2, if_neg (by rw [HD.out]; decide)]
          have G5 := Lib.hid (fateg_go G4.out hg t4 tb4)
          clear tb4 t4 x0 x1 x2 x3 x4 x5 a0 a1 a2 a3 a4 a5 a6 a7
          have RR := Lib.hid (RD.out w4 G5.out.2.1)
          obtain ⟨a1, a3⟩ := RR.out
          obtain ⟨x0, x1, x2, x3, x4, x5⟩ := cells6 G5.out.2.2
          go_wp2_with fail
          go_quiet (fail)
          go_wp2
          exact ⟨⟨i + 1, (k), (o.at_), by omega, by simp, rfl, rfl, G5.out.1, (G5.out.2.1).drewN _, G5.out.2.2⟩, by simp [intOf]; omega⟩
      · go_wp2_with fail
        refine (expire_c w1.heap.size w1.heap.size _ _ _ wr G.out.1 (by simp)).mono ?_
        rintro e w3 ⟨A3, c3, rfl, o3, tb3, t3⟩
        rw [fate_exp] at tb3
        have G3 := Lib.hid (fateg_go G.out hg t3 tb3)
        clear o3 tb3 t3 a0 a1 a2 a3 a4 a5 a6 a7
        obtain ⟨x0, x1, x2, x3, x4, x5⟩ := cells6 G3.out.2.2
        obtain ⟨p', off', o', hB', hx', a0, a1, a2, a3, a4, a5, a6, a7⟩ := rd_opp (HO.out.tch G3.out.2.1) i hlt
        obtain ⟨rfl, rfl⟩ : p = p' ∧ off = off' := by simpa using hB'
        clear hB' hx'
        have RD : Hid (∀ w4, Tch No w w4 → w4.cell? ⟨p, off + i * 8 + 1, none⟩ = some (.int .i64 o'.x.id) ∧ w4.cell? ⟨p, off + i * 8 + 3, none⟩ = some (.string o'.x.act)) := rd_again HO.out i hlt G3.out.2.1 a1 a3
        by_cases hk : k = 1
        · subst hk
          by_cases hd : x.due < m
          · have G4 := Lib.hid (fate_k G3.out (if_pos ⟨rfl, hd⟩ : fate1 x (m) 1 = 3))
            have HP : FH x 3 (m) := fun (h : (3 : Int) = 1) => by omega
            have HD : Hid (isDone x o' 3 = false) := rfl
            clear G G3
            go_wp2_with fail
            go_still_tail 14, (by kernel_rfl)
            go_wp2_with fail
            refine (fulfil_c w1.heap.size w1.heap.size _ _ o'.x.id o'.x.act (m) _ (fateg_no G4.out ((Tch.refl No w3).drewN 1)).1 (by simp)).mono ?_
            rintro e w4 ⟨rfl, tb4, t4⟩
            replace t4 := Tch.undrewN (n := 1) t4
            rw [(fate_ful x o' (m) (3) HP).1, show fate2 x o' (3) = 3 from if_neg (by rw [HD.out]; decide)] at tb4
            rw [(fate_ful x o' (m) (3) HP).2, if_neg (by rw [HD.out]; decide)]
            have G5 := Lib.hid (fateg_go G4.out hg t4 tb4)
            clear tb4 t4 x0 x1 x2 x3 x4 x5 a0 a1 a2 a3 a4 a5 a6 a7
            have RR := Lib.hid (RD.out w4 G5.out.2.1)
            obtain ⟨a1, a3⟩ := RR.out
            obtain ⟨x0, x1, x2, x3, x4, x5⟩ := cells6 G5.out.2.2
            go_wp2_with fail
            go_quiet (fail)
            go_wp2
            exact ⟨⟨i + 1, (3), (m), by omega, by simp, rfl, rfl, G5.out.1, (G5.out.2.1).drewN _, G5.out.2.2⟩, by simp [intOf]; omega⟩
          · have G4 := Lib.hid (fate_k G3.out (if_neg (fun h => hd h.2) : fate1 x (m) 1 = 1))
            have HP : FH x 1 (m) := fun _ => hd
            have hdd : m ≤ x.due := by omega
            clear G G3 hd
            by_cases h1 : o'.x.id = x.id
            · by_cases h2 : o'.x.act.toList = x.act.toList
              · have HD : Hid (isDone x o' 1 = true) := isdone_yes x o' h1 h2
                have b1 : (o'.x.id == x.id) = true := by simpa using h1
                have b2 : (o'.x.act.toList == x.act.toList) = true := by simpa using h2
                clear h1 h2
                go_wp2_with fail
                go_still_tail 14, (by kernel_rfl)
                go_wp2_with fail
                refine (fulfil_c w1.heap.size w1.heap.size _ _ o'.x.id o'.x.act (m) _ (fateg_no G4.out ((Tch.refl No w3).drewN 1)).1 (by simp)).mono ?_
                rintro e w4 ⟨rfl, tb4, t4⟩
                replace t4 := Tch.undrewN (n := 1) t4
                rw [(fate_ful x o' (m) (1) HP).1, show fate2 x o' (1) = 2 from if_pos HD.out] at tb4
                rw [(fate_ful x o' (m) (1) HP).2, if_pos HD.out]
                have G5 := Lib.hid (fateg_go G4.out hg t4 tb4)
                clear tb4 t4 x0 x1 x2 x3 x4 x5 a0 a1 a2 a3 a4 a5 a6 a7
                have RR := Lib.hid (RD.out w4 G5.out.2.1)
                obtain ⟨a1, a3⟩ := RR.out
                obtain ⟨x0, x1, x2, x3, x4, x5⟩ := cells6 G5.out.2.2
                go_wp2_with fail
                go_quiet (fail)
                go_wp2
                exact ⟨⟨i + 1, (2), (m), by omega, by simp, rfl, rfl, G5.out.1, (G5.out.2.1).drewN _, G5.out.2.2⟩, by simp [intOf]; omega⟩
              · have HD : Hid (isDone x o' 1 = false) := isdone_no x o' (.inr h2)
                have b1 : (o'.x.id == x.id) = true := by simpa using h1
                have b2 : (o'.x.act.toList == x.act.toList) = false := by simpa using h2
                clear h1 h2
                go_wp2_with fail
                go_still_tail 14, (by kernel_rfl)
                go_wp2_with fail
                refine (fulfil_c w1.heap.size w1.heap.size _ _ o'.x.id o'.x.act (m) _ (fateg_no G4.out ((Tch.refl No w3).drewN 1)).1 (by simp)).mono ?_
                rintro e w4 ⟨rfl, tb4, t4⟩
                replace t4 := Tch.undrewN (n := 1) t4
                rw [(fate_ful x o' (m) (1) HP).1, show fate2 x o' (1) = 1 from if_neg (by rw [HD.out]; decide)] at tb4
                rw [(fate_ful x o' (m) (1) HP).2, if_neg (by rw [HD.out]; decide)]
                have G5 := Lib.hid (fateg_go G4.out hg t4 tb4)
                clear tb4 t4 x0 x1 x2 x3 x4 x5 a0 a1 a2 a3 a4 a5 a6 a7
                have RR := Lib.hid (RD.out w4 G5.out.2.1)
                obtain ⟨a1, a3⟩ := RR.out
                obtain ⟨x0, x1, x2, x3, x4, x5⟩ := cells6 G5.out.2.2
                go_wp2_with fail
                go_quiet (fail)
                go_wp2
                exact ⟨⟨i + 1, (1), (m), by omega, by simp, rfl, rfl, G5.out.1, (G5.out.2.1).drewN _, G5.out.2.2⟩, by simp [intOf]; omega⟩
            · have HD : Hid (isDone x o' 1 = false) := isdone_no x o' (.inl h1)
              have b1 : (o'.x.id == x.id) = false := by simpa using h1
              clear h1
              go_wp2_with fail
              go_still_tail 14, (by kernel_rfl)
              go_wp2_with fail
              refine (fulfil_c w1.heap.size w1.heap.size _ _ o'.x.id o'.x.act (m) _ (fateg_no G4.out ((Tch.refl No w3).drewN 1)).1 (by simp)).mono ?_
              rintro e w4 ⟨rfl, tb4, t4⟩
              replace t4 := Tch.undrewN (n := 1) t4
              rw [(fate_ful x o' (m) (1) HP).1, show fate2 x o' (1) = 1 from if_neg (by rw [HD.out]; decide)] at tb4
              rw [(fate_ful x o' (m) (1) HP).2, if_neg (by rw [HD.out]; decide)]
              have G5 := Lib.hid (fateg_go G4.out hg t4 tb4)
              clear tb4 t4 x0 x1 x2 x3 x4 x5 a0 a1 a2 a3 a4 a5 a6 a7
              have RR := Lib.hid (RD.out w4 G5.out.2.1)
              obtain ⟨a1, a3⟩ := RR.out
              obtain ⟨x0, x1, x2, x3, x4, x5⟩ := cells6 G5.out.2.2
              go_wp2_with fail
              go_quiet (fail)
              go_wp2
              exact ⟨⟨i + 1, (1), (m), by omega, by simp, rfl, rfl, G5.out.1, (G5.out.2.1).drewN _, G5.out.2.2⟩, by simp [intOf]; omega⟩
        · have G4 := Lib.hid (fate_k G3.out (if_neg (fun h => hk h.1) : fate1 x (m) k = k))
          have HP : FH x k (m) := fun h => absurd h hk
          have kb : (k == 1) = false := by simpa using hk
          have HD : Hid (isDone x o' k = false) := by show isDone x o' k = false; unfold isDone; rw [kb]; rfl
          clear G G3 hk
          go_wp2_with fail
          go_still_tail 14, (by kernel_rfl)
          go_wp2_with fail
          refine (fulfil_c w1.heap.size w1.heap.size _ _ o'.x.id o'.x.act (m) _ (fateg_no G4.out ((Tch.refl No w3).drewN 1)).1 (by simp)).mono ?_
          rintro e w4 ⟨rfl, tb4, t4⟩
          replace t4 := Tch.undrewN (n := 1) t4
          rw [(fate_ful x o' (m) (k) HP).1, show fate2 x o' (k) = k from if_neg (by rw [HD.out]; decide)] at tb4
          rw [(fate_ful x o' (m) (k) HP).2, if_neg (by rw [HD.out]; decide)]
          have G5 := Lib.hid (fateg_go G4.out hg t4 tb4)
          clear tb4 t4 x0 x1 x2 x3 x4 x5 a0 a1 a2 a3 a4 a5 a6 a7
          have RR := Lib.hid (RD.out w4 G5.out.2.1)
          obtain ⟨a1, a3⟩ := RR.out
          obtain ⟨x0, x1, x2, x3, x4, x5⟩ := cells6 G5.out.2.2
          go_wp2_with fail
          go_quiet (fail)
          go_wp2
          exact ⟨⟨i + 1, (k), (m), by omega, by simp, rfl, rfl, G5.out.1, (G5.out.2.1).drewN _, G5.out.2.2⟩, by simp [intOf]; omega⟩
    · have : i = few60 n := by omega
      subst this
      go_wp2_with fail
      refine (all_c w1.heap.size w1.heap.size _ _ _ htb (by simp)).mono ?_
      rintro e w3 ⟨A3, c3, rfl, o3, t3⟩
      obtain ⟨A4, c4, e4, hr4⟩ := Rd.of_own (S := No) o3 (fun _ _ f => f)
      injection e4 with e4 _ e5
      subst e4
      obtain ⟨p, off, y, hB, _, _, hy, a0, a1, a2, a3, a4, a5⟩ := rd_ins hr4 0 (by simp)
      have hy' : y = { x with state := k } := by simpa using hy.symm
      subst hy'
      subst hB
      dsimp only at a5
      have T := Lib.hid (htc.and t3)
      clear hr4 o3 t3 htb htc hbx hy
      rw [Nat.zero_mul, Nat.add_zero] at a5
      go_wp2
      go_returns
      exact ⟨by simp, T.out.noBelow⟩

section
open Go.ChangeShapes Go.WideShapes Go.Deep
variable {H : Type} {enc : TypeId × Value → H} {w : World} {base : Nat} {spare : Nat → Bool} {held : Bool}
theorem open_ins {r : Reach} {b0 : Nat} {v : Value} {d : DataW H} {p : List MemPlace} (hv : Value.okWide Try.prog w r b0 23 v) (h : DataW.Trod enc Try.prog w base spare held 23 v d p) :
    ∃ x : Ins, v = .agg #[.int .i64 x.id, .int .i64 x.place, .string x.act, .int .i64 x.due, .bool x.keep, .int .i64 x.state] := by
  obtain ⟨cs, rfl, hsz⟩ := okWide_struct Try.underlying23 hv
  obtain ⟨fuel, hf⟩ := h
  obtain ⟨x, hx⟩ := trod_ins hf
  refine ⟨x, ?_⟩
  simp [Value.cells] at hx
  obtain ⟨l⟩ := cs
  simp at hx
  subst hx
  rfl
end
end Go.Proofs.Ytmfhilddemgabaa
