/- The quota layer: contracts of (*quota.Bucket).Clone, Wait, of the law package few, begin, after, soon. Conditions: the bucket is one block of five cells, its numbers are those of a bucket. -/
import Derived.Test.YtmfhilddemgabaaProg
import Derived.Test.YtmfhilddemgabaaQ3
import Derived.Tactics
import Derived.Tactics2
import Derived.WalkKit
import Derived.WalkSpells
import Derived.WalkLawsBesides
import Derived.StillTactics
import Derived.StillTailTactics
import Derived.OwnWalk
import Derived.Laws.Pointers
import Derived.Laws.ResultCell
import Derived.Deep.RegionHeld3
import Derived.Deep.QuietTactic
import Derived.BigQuiet
import Derived.LoopTactic
import Derived.Deep.LoopGhost
import Derived.Deep.DeepCutAuto
import Derived.Deep.DeepFit
import Derived.Maps.AppendAt
import Derived.Below
import Derived.Lib.Hide
import Derived.Handy
import Derived.KernelRfl
namespace Go.Proofs.Ytmfhilddemgabaa
set_option linter.unusedVariables false
set_option linter.unusedSimpArgs false
open Go.RowKit

theorem gr_below {w w' : World} {g B : Nat} (h : w.grownBy w' (some g)) (hB : B ≤ w.heap.size) (hg : B ≤ g) : Below B w w' :=
  ⟨h.os, h.tape, h.output, h.size, fun k hk => h.block k (by omega) (fun e => by injection e with e; omega)⟩

theorem bkt_new (w : World) (s : Bk) : Bkt (w.alloc (.cells (newCells s) 58)) w.heap.size s := Blk.new _ _ _

set_option maxHeartbeats 400000 in
theorem clone_c (g : Nat) (s : Bk) (w : World) (h : Bkt w g s) :
    Calls Try.prog 27 #[.pointer (some ⟨g, 0, none⟩)] w fun e w' => e = .returned (.pointer (some ⟨w.heap.size, 0, none⟩)) ∧ w.alloc (.cells (newCells s) 58) = w' := by
  obtain ⟨c0, c1, c2, c3, c4⟩ := h.cells
  go_enter Try.func27, Try.ntmps27
  go_wp2
  go_returns
  exact ⟨rfl, rfl⟩

def WaitP (r : Int × Bool) (w : World) (e : Ending) (w' : World) : Prop := e = .returned (.tuple #[.int .i64 r.1, .bool r.2]) ∧ Below w.heap.size w w'

set_option maxHeartbeats 400000 in
theorem wait_c (g : Nat) (s : Bk) (t n : Int) (w : World) (h : Bkt w g s) (hs : s.Ok) (ht' : t ≤ 9223372036854775807) (hn : -9223372036854775808 ≤ n) (hn' : n ≤ 9223372036854775807) :
    Calls Try.prog 26 #[.pointer (some ⟨g, 0, none⟩), .int .i64 t, .int .i64 n] w (WaitP (tillV (takeS s t 0) n) w) := by
  go_enter Try.func26, Try.ntmps26
  go_wp2_with fail
  refine (clone_c g s _ h).mono ?_
  rintro e w' ⟨rfl, rfl⟩
  go_wp2_with fail
  refine (take_c w.heap.size s t 0 _ (bkt_new w s) hs ht').mono ?_
  rintro e w1 ⟨rfl, hg, hb⟩
  go_wp2_with fail
  refine (till_c w.heap.size _ n _ hb (take_ok s hs t 0 ht') hn hn').mono ?_
  rintro e w2 ⟨rfl, m, rfl⟩
  go_wp2_with fail
  go_returns
  refine ⟨rfl, ?_⟩
  have h1 : Below w.heap.size w (w.alloc (.cells (newCells s) 58)) := (Below.refl _ _).alloc (Nat.le_refl _) _
  have h2 := h1.trans (gr_below hg (by simp) (Nat.le_refl _))
  exact ⟨h2.os, h2.tape, h2.output, h2.size, h2.block⟩

set_option maxHeartbeats 400000 in
theorem alive_c (w : World) : Calls Try.prog 18 #[] w fun e w' => e = .returned (.bool true) ∧ Below w.heap.size w w' := by
  go_enter Try.func18, Try.ntmps18
  go_wp2_with fail
  refine (new_c 10 1 _).mono ?_
  rintro e w1 ⟨rfl, rfl⟩
  go_wp2_with fail
  refine (at_c _ (newS 10 1) 0 _ (bkt_new w _) (newS_ok _ _) (by omega)).mono ?_
  rintro e w2 ⟨rfl, m, rfl⟩
  have e1 : atV (newS 10 1) 0 = 10 := by decide
  rw [e1]
  go_wp2_with fail
  refine (take_c w.heap.size (newS 10 1) 0 10 _ ((bkt_new w _).drewN m) (newS_ok _ _) (by omega)).mono ?_
  rintro e w1 ⟨rfl, hg, hb⟩
  have e1 : takeB (newS 10 1) 0 10 = true := by decide
  rw [e1]
  go_wp2_with fail
  refine (wait_c w.heap.size _ 1 5 _ hb (take_ok _ (newS_ok _ _) _ _ (by omega)) (by omega) (by omega) (by omega)).mono ?_
  rintro e w2 ⟨rfl, hw2⟩
  have e1 : (tillV (takeS (takeS (newS 10 1) 0 10) 1 0) 5) = (4, true) := by decide
  rw [e1]
  go_wp2_with fail
  have hb2 := hb.below hw2 hb.lt
  refine (at_c w.heap.size _ 3 _ hb2 (take_ok _ (newS_ok _ _) _ _ (by omega)) (by omega)).mono ?_
  rintro e w3 ⟨rfl, m3, rfl⟩
  have e1 : atV (takeS (newS 10 1) 0 10) 3 = 3 := by decide
  rw [e1]
  go_wp2_with fail
  refine (take_c w.heap.size _ 3 4 _ (hb2.drewN m3) (take_ok _ (newS_ok _ _) _ _ (by omega)) (by omega)).mono ?_
  rintro e w4 ⟨rfl, hg4, hb4⟩
  have e1 : takeB (takeS (newS 10 1) 0 10) 3 4 = false := by decide
  rw [e1]
  go_wp2_with fail
  go_returns
  refine ⟨rfl, ?_⟩
  have h1 : Below w.heap.size w ((w.alloc (.cells (newCells (newS 10 1)) 58)).drewN m) := by
    have := (Below.refl w.heap.size w).alloc (Nat.le_refl _) (.cells (newCells (newS 10 1)) 58)
    exact ⟨this.os, this.tape, this.output, this.size, this.block⟩
  have h2 := h1.trans (gr_below hg (by simp) (Nat.le_refl _))
  have h3 := h2.trans (hw2.mono h2.size)
  have h4 : Below w.heap.size w (w2.drewN m3) := ⟨h3.os, h3.tape, h3.output, h3.size, h3.block⟩
  exact h4.trans (gr_below hg4 h4.size (Nat.le_refl _))

theorem ret_room {a b s r : Int} (h1 : s = min (max a 0) 2147483648) (h2 : r = min (max b 0) 2147483648) : Ending.returned (.agg #[.int .i64 s, .int .i64 r, .int .i64 s, .int .i64 0]) =
    .returned (.agg #[.int .i64 (newS a b).size, .int .i64 (newS a b).rate, .int .i64 (newS a b).have_, .int .i64 0]) := by
  subst h1; subst h2; rfl
set_option maxHeartbeats 400000 in
theorem begin_c (a b : Int) (w : World) :
    Calls Try.prog 20 #[.int .i64 a, .int .i64 b] w fun e w' => e = .returned (.agg #[.int .i64 (newS a b).size, .int .i64 (newS a b).rate, .int .i64 (newS a b).have_, .int .i64 0]) ∧ Below w.heap.size w w' := by
  have ha : a < 0 ∨ (¬ a < 0 ∧ ¬ 2147483648 < a) ∨ (¬ a < 0 ∧ 2147483648 < a) := by omega
  have hb : b < 0 ∨ (¬ b < 0 ∧ ¬ 2147483648 < b) ∨ (¬ b < 0 ∧ 2147483648 < b) := by omega
  rcases ha with ha | ⟨ha, ha'⟩ | ⟨ha, ha'⟩ <;> rcases hb with hb | ⟨hb, hb'⟩ | ⟨hb, hb'⟩
  all_goals
    go_enter Try.func20, Try.ntmps20
    go_wp2
  all_goals
    go_returns
    exact ⟨ret_room (by omega) (by omega), (Below.refl _ _).alloc (Nat.le_refl _) _⟩

end Go.Proofs.Ytmfhilddemgabaa
