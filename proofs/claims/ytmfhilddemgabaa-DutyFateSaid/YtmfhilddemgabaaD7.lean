/- The duty layer: the contracts of (*duty.Table).Expire, Fulfil, Void, Pending. Conditions: the table's slice is a row of its own. -/
import Derived.Test.YtmfhilddemgabaaProg
import Derived.Test.YtmfhilddemgabaaD5
import Derived.Test.YtmfhilddemgabaaD6
import Derived.Tactics
import Derived.Tactics2
import Derived.WalkKit
import Derived.WalkSpells
import Derived.WalkLawsBesides
import Derived.StillTactics
import Derived.StillTailTactics
import Derived.OwnWalk
import Derived.Laws.Pointers
import Derived.Laws.ResultCell
import Derived.Deep.RegionHeld3
import Derived.Deep.RegionWith
import Derived.Deep.RegionLaw
import Derived.Deep.AppendLies
import Derived.Deep.QuietTactic
import Derived.BigQuiet
import Derived.LoopTactic
import Derived.Deep.LoopGhost
import Derived.Deep.DeepCutAuto
import Derived.Deep.DeepFit
import Derived.Maps.AppendAt
import Derived.Below
import Derived.Lib.Hide
import Derived.Handy
import Derived.KernelRfl
namespace Go.Proofs.Ytmfhilddemgabaa
set_option linter.unusedVariables false
set_option linter.unusedSimpArgs false
open Go.RowKit

theorem foot_up {g : Nat} {v : Value} : ∀ i, Foot g v i → Foot g v i ∨ False := fun i h => .inl h

theorem tab_tch {w w' : World} {g b : Nat} {v : Value} {l : List Ins} (h : Tab w g b v l) (ht : Tch No w w') : Tab w' g b v l := ⟨ht.blk h.1 (fun f => f), ht.own h.2 (fun _ _ f => f)⟩
theorem tab_alloc {w : World} {g b : Nat} {v : Value} {l : List Ins} (h : Tab w g b v l) (o : Obj) : Tab (w.alloc o) g b v l := tab_tch h ((Tch.refl No w).alloc o)

/-- What was turned, in a new row. -/
theorem new_mono {w X w' : World} {A : Option Addr} {c n : Nat} {xs : List Value} (ht : Tch No w X) (h : w'.ownsRow X.heap.size 23 6 (.slice A n c) n xs) : w'.ownsRow w.heap.size 23 6 (.slice A n c) n xs := own_mono h ht.size

set_option maxHeartbeats 400000 in
theorem expire_c (g b : Nat) (v : Value) (l : List Ins) (t : Int) (w : World) (ht : Tab w g b v l) (hl : l.length ≤ 1000000) :
    Calls Try.prog 15 #[.pointer (some ⟨g, 0, none⟩), .int .i64 t] w (TurnP g b v l 3 (pE t) w) := by
  have H := Lib.hid ht
  clear ht
  go_enter Try.func15, Try.ntmps15
  go_wp2_with fail
  refine (turn_exp g b v l w.heap.size t _ (tab_alloc H.out _) hl (Blk.new _ _ _)).mono ?_
  rintro e w1 ⟨A, c, rfl, ho, ht, htc⟩
  go_wp2
  go_returns
  have t0 : Tch No w (w.alloc (.cells #[.int .i64 t] 2)) := (Tch.refl _ _).alloc _
  exact ⟨A, c, rfl, new_mono t0 ho, ht, t0.no.and htc⟩

/-- What Fulfil and Void leave. -/
def CountP (g b : Nat) (v : Value) (l : List Ins) (st : Int) (p : Ins → Bool) (w : World) (e : Ending) (w' : World) : Prop :=
  e = .returned (.int .i64 (hitsL st p l).length) ∧ Tab w' g b v (turnL st p l) ∧ Tch (Foot g v) w w'

set_option maxHeartbeats 400000 in
theorem fulfil_c (g b : Nat) (v : Value) (l : List Ins) (id : Int) (act : ByteArray) (t : Int) (w : World) (ht : Tab w g b v l) (hl : l.length ≤ 1000000) :
    Calls Try.prog 16 #[.pointer (some ⟨g, 0, none⟩), .int .i64 id, .string act, .int .i64 t] w (CountP g b v l 2 (pF id act t) w) := by
  have H := Lib.hid ht
  clear ht
  go_enter Try.func16, Try.ntmps16
  go_wp2_with fail
  have b1 := ((Blk.new w 3 #[.int .i64 id]).alloc (.cells #[.string act] 9)).alloc (.cells #[.int .i64 t] 2)
  have b2 := (Blk.new (w.alloc (.cells #[.int .i64 id] 3)) 9 #[.string act]).alloc (.cells #[.int .i64 t] 2)
  have b3 := Blk.new ((w.alloc (.cells #[.int .i64 id] 3)).alloc (.cells #[.string act] 9)) 2 #[.int .i64 t]
  rw [show (w.alloc (.cells #[.int .i64 id] 3)).heap.size = w.heap.size + 1 by simp] at b2
  rw [show ((w.alloc (.cells #[.int .i64 id] 3)).alloc (.cells #[.string act] 9)).heap.size = w.heap.size + 1 + 1 by simp] at b3
  refine (turn_ful g b v l w.heap.size (w.heap.size + 1) (w.heap.size + 1 + 1) id act t _ (tab_alloc (tab_alloc (tab_alloc H.out _) _) _) hl b1 b2 b3).mono ?_
  rintro e w1 ⟨A, c, rfl, ho, ht, htc⟩
  clear b1 b2 b3
  go_wp2
  go_returns
  have t0 : Tch No w (((w.alloc (.cells #[.int .i64 id] 3)).alloc (.cells #[.string act] 9)).alloc (.cells #[.int .i64 t] 2)) := (((Tch.refl _ _).alloc _).alloc _).alloc _
  exact ⟨rfl, ht, t0.no.and htc⟩

set_option maxHeartbeats 400000 in
theorem void_c (g b : Nat) (v : Value) (l : List Ins) (id : Int) (w : World) (ht : Tab w g b v l) (hl : l.length ≤ 1000000) :
    Calls Try.prog 32 #[.pointer (some ⟨g, 0, none⟩), .int .i64 id] w (CountP g b v l 4 (pV id) w) := by
  have H := Lib.hid ht
  clear ht
  go_enter Try.func32, Try.ntmps32
  go_wp2_with fail
  refine (turn_void g b v l w.heap.size id _ (tab_alloc H.out _) hl (Blk.new _ _ _)).mono ?_
  rintro e w1 ⟨A, c, rfl, ho, ht, htc⟩
  go_wp2
  go_returns
  have t0 : Tch No w (w.alloc (.cells #[.int .i64 id] 3)) := (Tch.refl _ _).alloc _
  exact ⟨rfl, ht, t0.no.and htc⟩

theorem turn_nil (st : Int) (f : Value) (w : World) : Calls Try.prog 35 #[.pointer none, .int .i64 st, f] w fun e w' => e = .returned (.slice none 0 0) ∧ w = w' := by
  go_enter Try.func35, Try.ntmps35
  go_wp2
  go_returns
  exact ⟨rfl, rfl⟩
theorem expire_nil (t : Int) (w : World) : Calls Try.prog 15 #[.pointer none, .int .i64 t] w fun e w' => e = .returned (.slice none 0 0) ∧ Tch No w w' := by
  go_enter Try.func15, Try.ntmps15
  go_wp2_with (go_at_call 35; refine (turn_nil _ _ _).mono ?_; rintro e w' ⟨rfl, rfl⟩)
  go_returns
  exact ⟨rfl, (Tch.refl _ _).alloc _⟩
theorem void_nil (id : Int) (w : World) : Calls Try.prog 32 #[.pointer none, .int .i64 id] w fun e w' => e = .returned (.int .i64 0) ∧ Tch No w w' := by
  go_enter Try.func32, Try.ntmps32
  go_wp2_with (go_at_call 35; refine (turn_nil _ _ _).mono ?_; rintro e w' ⟨rfl, rfl⟩)
  go_returns
  exact ⟨rfl, (Tch.refl _ _).alloc _⟩
theorem fulfil_nil (id : Int) (act : ByteArray) (t : Int) (w : World) : Calls Try.prog 16 #[.pointer none, .int .i64 id, .string act, .int .i64 t] w fun e w' => e = .returned (.int .i64 0) ∧ Tch No w w' := by
  go_enter Try.func16, Try.ntmps16
  go_wp2_with (go_at_call 35; refine (turn_nil _ _ _).mono ?_; rintro e w' ⟨rfl, rfl⟩)
  go_returns
  exact ⟨rfl, (((Tch.refl _ _).alloc _).alloc _).alloc _⟩

/-! ## Pending -/
def pendP (id : Int) (x : Ins) : Bool := x.id == id && x.state == 1
def pend (l : List Ins) (id : Int) : Nat := (l.filter (pendP id)).length
theorem pend_succ (l : List Ins) (id : Int) (i : Nat) (x : Ins) (h : l[i]? = some x) : pend (l.take (i + 1)) id = pend (l.take i) id + (if pendP id x = true then 1 else 0) := by
  obtain ⟨hi, hx⟩ := List.getElem?_eq_some_iff.1 h
  unfold pend
  rw [List.take_succ_eq_append_getElem hi, hx, List.filter_append, List.length_append]
  congr 1
  cases hp : pendP id x <;> simp [hp]
theorem pend_le (l : List Ins) (id : Int) (i : Nat) : pend (l.take i) id ≤ i := by
  unfold pend
  exact Nat.le_trans (List.length_filter_le _ _) (by simp; omega)

set_option maxHeartbeats 400000 in
theorem pending_c (g b : Nat) (v : Value) (l : List Ins) (id : Int) (w : World) (ht : Tab w g b v l) (hl : l.length ≤ 1000000) :
    Calls Try.prog 33 #[.pointer (some ⟨g, 0, none⟩), .int .i64 id] w fun e w' => e = .returned (.int .i64 (pend l id)) ∧ Tch No w w' := by
  have H := Lib.hid ht
  clear ht
  go_enter Try.func33, Try.ntmps33
  go_wp2_with (go_at_call 17; go_must (refine (all_c g b v l _ H.out hl).mono ?_); rintro e w1 ⟨A1, c1, rfl, ho, ht⟩)
  go_loopw [5, 11] (fun nv iv wr => ∃ i : Nat, i ≤ l.length ∧ iv = .int .i64 i ∧ nv = .int .i64 (pend (l.take i) id) ∧ Tch No w1 wr) (fun _ iv _ => l.length - (intOf iv).toNat)
  case atStart => exact ⟨0, by omega, rfl, rfl, Tch.refl _ _⟩
  case round =>
    obtain ⟨i, hil, rfl, rfl, htc⟩ := hrel
    have hpl := pend_le l id i
    by_cases hlt : i < l.length
    · obtain ⟨x, hx⟩ : ∃ x, l[i]? = some x := ⟨l[i], List.getElem?_eq_getElem hlt⟩
      have hps := pend_succ l id i x hx
      have ho2 := htc.own ho (fun k _ h => h)
      obtain ⟨a, c', hA, _, halt⟩ := ho2.form (by omega)
      injection hA with hA _ hc'
      subst hA hc'
      have fl := fun j hj => flat_get icells_length l i j hj x hx
      have d0 := own_cell ho2 (i * 6 + 0) _ (fl 0 (by omega))
      have d1 := own_cell ho2 (i * 6 + 1) _ (fl 1 (by omega))
      have d2 := own_cell ho2 (i * 6 + 2) _ (fl 2 (by omega))
      have d3 := own_cell ho2 (i * 6 + 3) _ (fl 3 (by omega))
      have d4 := own_cell ho2 (i * 6 + 4) _ (fl 4 (by omega))
      have d5 := own_cell ho2 (i * 6 + 5) _ (fl 5 (by omega))
      rw [Nat.add_zero] at d0
      have T := Lib.hid htc
      have HP := Lib.hid hps
      clear fl ho2 htc hps hx ho ht
      by_cases h1 : x.id = id
      · have h2 : (x.id == id) = true := by simpa using h1
        by_cases h3 : x.state = 1
        · have h4 : (x.state == 1) = true := by simpa using h3
          have HH : Hid (pendP id x = true) := by show pendP id x = true; unfold pendP; rw [h2, h4]; rfl
          clear h1 h3
          go_wp2
          refine ⟨⟨i + 1, by omega, by simp, ?_, T.out.alloc _⟩, by simp [intOf]; omega⟩
          rw [HP.out, if_pos HH.out]; simp
        · have h4 : (x.state == 1) = false := by simpa using h3
          have HH : Hid (pendP id x = false) := by show pendP id x = false; unfold pendP; rw [h2, h4]; rfl
          clear h1 h3
          go_wp2
          refine ⟨⟨i + 1, by omega, by simp, ?_, T.out.alloc _⟩, by simp [intOf]; omega⟩
          rw [HP.out, if_neg (by rw [HH.out]; simp)]; simp
      · have h2 : (x.id == id) = false := by simpa using h1
        have HH : Hid (pendP id x = false) := by show pendP id x = false; unfold pendP; rw [h2]; rfl
        clear h1
        go_wp2
        refine ⟨⟨i + 1, by omega, by simp, ?_, T.out.alloc _⟩, by simp [intOf]; omega⟩
        rw [HP.out, if_neg (by rw [HH.out]; simp)]; simp
    · have hin : i = l.length := by omega
      subst hin
      have e0 : l.take l.length = l := List.take_length
      rw [e0]
      clear ho e0 hpl
      have T := Lib.hid (ht.and htc)
      clear htc ht
      go_wp2
      go_returns
      exact ⟨rfl, T.out⟩
theorem pending_nil (id : Int) (w : World) : Calls Try.prog 33 #[.pointer none, .int .i64 id] w fun e w' => e = .returned (.int .i64 0) ∧ w = w' := by
  go_enter Try.func33, Try.ntmps33
  go_wp2_with (go_at_call 17; go_must (refine (all_nil _).mono ?_); rintro e w1 ⟨rfl, rfl⟩)
  go_loop [5, 11] (fun nv iv => nv = .int .i64 0 ∧ iv = .int .i64 0) (fun _ _ => 0)
  case atStart => exact ⟨rfl, rfl⟩
  case round =>
    obtain ⟨rfl, rfl⟩ := hrel
    go_wp2
    go_returns
    exact ⟨rfl, rfl⟩
end Go.Proofs.Ytmfhilddemgabaa
