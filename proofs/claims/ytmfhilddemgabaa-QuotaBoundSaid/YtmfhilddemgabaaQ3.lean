/- The quota layer: contracts of (*quota.Bucket).At, Take, Clone, Wait and of quota.New. Conditions: the bucket is one block of five cells, its numbers are those of a bucket. -/
import Derived.Test.YtmfhilddemgabaaProg
import Derived.Test.YtmfhilddemgabaaQ2
import Derived.Tactics
import Derived.Tactics2
import Derived.WalkKit
import Derived.WalkSpells
import Derived.WalkLawsBesides
import Derived.StillTactics
import Derived.StillTailTactics
import Derived.OwnWalk
import Derived.Laws.Pointers
import Derived.Laws.ResultCell
import Derived.Deep.RegionHeld3
import Derived.Deep.QuietTactic
import Derived.BigQuiet
import Derived.LoopTactic
import Derived.Deep.LoopGhost
import Derived.Deep.DeepCutAuto
import Derived.Deep.DeepFit
import Derived.Maps.AppendAt
import Derived.Below
import Derived.Lib.Hide
import Derived.Handy
import Derived.KernelRfl
namespace Go.Proofs.Ytmfhilddemgabaa
set_option linter.unusedVariables false
set_option linter.unusedSimpArgs false
open Go.RowKit

def Int1 (n : Int) (w : World) (e : Ending) (w' : World) : Prop := e = .returned (.int .i64 n) ∧ ∃ k, w' = w.drewN k
theorem Bkt.drewN {w : World} {g : Nat} {s : Bk} (h : Bkt w g s) (n : Nat) : Bkt (w.drewN n) g s := h

set_option maxHeartbeats 400000 in
theorem at_c (g : Nat) (s : Bk) (t : Int) (w : World) (h : Bkt w g s) (hs : s.Ok) (ht' : t ≤ 9223372036854775807) :
    Calls Try.prog 28 #[.pointer (some ⟨g, 0, none⟩), .int .i64 t] w (Int1 (atV s t) w) := by
  obtain ⟨c0, c1, c2, c3, c4⟩ := h.cells
  have hl := later_fit s hs t ht'
  have hle := later_le s t
  have hb := till_bounds s hs s.size
  have hk0 : 0 ≤ laterV s t - s.last := by omega
  have hk1 : laterV s t - s.last ≤ 9223372036854775807 := by have := hs.l0; omega
  have Hs := Lib.hid hs
  have Hb := Lib.hid h
  by_cases hd : (tillV s s.size).2 = true ∧ (tillV s s.size).1 ≤ laterV s t - s.last
  · have H := Lib.hid (at_full s hs _ hk0 hd.1 hd.2)
    have hz : (tillV s s.size).1 ≤ laterV s t - s.last := hd.2
    have Ht := Lib.hid hd.1
    clear hd
    obtain ⟨o1, o2, o3, o4, o5, o6, o7, o8⟩ := hs
    clear h
    go_enter Try.func28, Try.ntmps28
    go_wp2
    go_quiet ((go_at_call 41; exact Calls.quiet_of_same (Calls.mono (later_c g s t _ Hb.out) fun _ _ ⟨he, hw⟩ => ⟨he, hw.symm⟩)))
    go_wp2_with fail
    refine (till_c g s s.size _ (Hb.out.drewN _) Hs.out (by omega) (by omega)).mono ?_
    rintro e w' ⟨rfl, m, rfl⟩
    rw [Ht.out]
    go_wp2
    go_returns
    exact ⟨ret_int H.out, _, rfl⟩
  · have hd' : (tillV s s.size).2 = false ∨ laterV s t - s.last < (tillV s s.size).1 := by
      cases hx : (tillV s s.size).2
      · exact .inl rfl
      · simp [hx] at hd; exact .inr (by omega)
    have H := Lib.hid (at_part s hs _ hk0 hd')
    have hp := part_small s hs _ hk0 hk1 hd'
    clear hd
    obtain ⟨o1, o2, o3, o4, o5, o6, o7, o8⟩ := hs
    clear h
    rcases hd' with hd | hd
    · have Ht := Lib.hid hd
      clear hd
      go_enter Try.func28, Try.ntmps28
      go_wp2
      go_quiet ((go_at_call 41; exact Calls.quiet_of_same (Calls.mono (later_c g s t _ Hb.out) fun _ _ ⟨he, hw⟩ => ⟨he, hw.symm⟩)))
      go_wp2_with fail
      refine (till_c g s s.size _ (Hb.out.drewN _) Hs.out (by omega) (by omega)).mono ?_
      rintro e w' ⟨rfl, m, rfl⟩
      rw [Ht.out]
      go_wp2
      go_quiet (fail)
      go_wp2
      go_returns
      exact ⟨ret_int H.out, _, World.drewN_drewN ..⟩
    · go_enter Try.func28, Try.ntmps28
      go_wp2
      go_quiet ((go_at_call 41; exact Calls.quiet_of_same (Calls.mono (later_c g s t _ Hb.out) fun _ _ ⟨he, hw⟩ => ⟨he, hw.symm⟩)))
      go_wp2_with fail
      refine (till_c g s s.size _ (Hb.out.drewN _) Hs.out (by omega) (by omega)).mono ?_
      rintro e w' ⟨rfl, m, rfl⟩
      generalize (tillV s s.size).2 = b
      cases b
      all_goals
        go_wp2
        go_quiet (fail)
        go_wp2
        go_returns
        exact ⟨ret_int H.out, _, World.drewN_drewN ..⟩

def newCells (s : Bk) : Array Value := #[.bool true, .int .i64 s.size, .int .i64 s.rate, .int .i64 s.have_, .int .i64 s.last]
theorem new_w {a b s r : Int} (w : World) (h1 : s = min (max a 0) 2147483648) (h2 : r = min (max b 0) 2147483648) :
    w.alloc (.cells (newCells (newS a b)) 58) = w.alloc (.cells #[.bool true, .int .i64 s, .int .i64 r, .int .i64 s, .int .i64 0] 58) := by
  subst h1; subst h2; rfl
theorem new_c (a b : Int) (w : World) :
    Calls Try.prog 19 #[.int .i64 a, .int .i64 b] w fun e w' => e = .returned (.pointer (some ⟨w.heap.size, 0, none⟩)) ∧ w.alloc (.cells (newCells (newS a b)) 58) = w' := by
  have ha : a < 0 ∨ (¬ a < 0 ∧ ¬ 2147483648 < a) ∨ (¬ a < 0 ∧ 2147483648 < a) := by omega
  have hb : b < 0 ∨ (¬ b < 0 ∧ ¬ 2147483648 < b) ∨ (¬ b < 0 ∧ 2147483648 < b) := by omega
  rcases ha with ha | ⟨ha, ha'⟩ | ⟨ha, ha'⟩ <;> rcases hb with hb | ⟨hb, hb'⟩ | ⟨hb, hb'⟩
  all_goals
    go_enter Try.func19, Try.ntmps19
    go_wp2
  all_goals
    go_returns
    exact ⟨rfl, new_w w (by omega) (by omega)⟩

/-- What a Take leaves: only the bucket's block has turned. -/
def TakeP (g : Nat) (s : Bk) (t n : Int) (w : World) (e : Ending) (w' : World) : Prop := e = .returned (.bool (takeB s t n)) ∧ w.grownBy w' (some g) ∧ Bkt w' g (takeS s t n)

theorem at_bounds (s : Bk) (hs : s.Ok) (t : Int) (ht : t ≤ 9223372036854775807) : 0 ≤ atV s t ∧ atV s t ≤ 2147483648 := by
  have h1 := later_fit s hs t ht
  have h2 := later_le s t
  have h3 := after_bounds s hs (laterV s t - s.last) (by omega)
  have := hs.s1
  unfold atV; omega
theorem take_yes {g : Nat} {s : Bk} {t n : Int} {w : World} (h : Bkt w g s) (m : Nat) (h0 : 0 ≤ n) (h1 : n ≤ atV s t) :
    TakeP g s t n w (.returned (.bool true)) ((((w.drewN m).setCell ⟨g, 3, none⟩ (.int .i64 (atV s t))).setCell ⟨g, 4, none⟩ (.int .i64 (laterV s t))).setCell ⟨g, 3, none⟩ (.int .i64 (atV s t - n))) := by
  refine ⟨ret_bool ?_, gr_set (gr_set (gr_set (gr_drewN (gr_refl _ _) _) _ _) _ _) _ _, ?_⟩
  · unfold takeB; simp [h0, h1]
  · have := (((h.drewN m).set_ 3 (.int .i64 (atV s t))).set_ 4 (.int .i64 (laterV s t))).set_ 3 (.int .i64 (atV s t - n))
    unfold Bkt takeS
    rw [if_pos ⟨h0, h1⟩]
    exact this
theorem take_no {g : Nat} {s : Bk} {t n : Int} {w : World} (h : Bkt w g s) (m : Nat) (h1 : ¬ (0 ≤ n ∧ n ≤ atV s t)) :
    TakeP g s t n w (.returned (.bool false)) (((w.drewN m).setCell ⟨g, 3, none⟩ (.int .i64 (atV s t))).setCell ⟨g, 4, none⟩ (.int .i64 (laterV s t))) := by
  refine ⟨ret_bool ?_, gr_set (gr_set (gr_drewN (gr_refl _ _) _) _ _) _ _, ?_⟩
  · unfold takeB; simp only [h1, decide_false]
  · have := ((h.drewN m).set_ 3 (.int .i64 (atV s t))).set_ 4 (.int .i64 (laterV s t))
    unfold Bkt takeS
    rw [if_neg h1]
    exact this

set_option maxHeartbeats 400000 in
theorem take_c (g : Nat) (s : Bk) (t n : Int) (w : World) (h : Bkt w g s) (hs : s.Ok) (ht' : t ≤ 9223372036854775807) :
    Calls Try.prog 23 #[.pointer (some ⟨g, 0, none⟩), .int .i64 t, .int .i64 n] w (TakeP g s t n w) := by
  obtain ⟨c0, c1, c2, c3, c4⟩ := h.cells
  have f := h.frozen
  have hb := at_bounds s hs t ht'
  have hn : n < 0 ∨ (0 ≤ n ∧ n ≤ atV s t) ∨ (¬ n < 0 ∧ atV s t < n) := by omega
  rcases hn with hn | hn | hn
  all_goals
    go_enter Try.func23, Try.ntmps23
    go_wp2_with fail
    refine (at_c g s t _ h hs ht').mono ?_
    rintro e w' ⟨rfl, m, rfl⟩
    go_wp2_with fail
    refine (later_c g s t _ (h.drewN _)).mono ?_
    rintro e w' ⟨rfl, rfl⟩
    go_wp2
    go_returns
    first
      | exact take_yes h _ hn.1 hn.2
      | exact take_no h _ (by omega)

end Go.Proofs.Ytmfhilddemgabaa
