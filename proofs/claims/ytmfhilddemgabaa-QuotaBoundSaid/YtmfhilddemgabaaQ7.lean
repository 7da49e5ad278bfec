/- The quota layer: contract of the law package step. Conditions: the numbers are those of a bucket. -/
import Derived.Test.YtmfhilddemgabaaProg
import Derived.Test.YtmfhilddemgabaaQ6
import Derived.Tactics
import Derived.Tactics2
import Derived.WalkKit
import Derived.WalkSpells
import Derived.WalkLawsBesides
import Derived.StillTactics
import Derived.StillTailTactics
import Derived.OwnWalk
import Derived.Laws.Pointers
import Derived.Laws.ResultCell
import Derived.Deep.RegionHeld3
import Derived.Deep.QuietTactic
import Derived.BigQuiet
import Derived.LoopTactic
import Derived.Deep.LoopGhost
import Derived.Deep.DeepCutAuto
import Derived.Deep.DeepFit
import Derived.Maps.AppendAt
import Derived.Below
import Derived.Lib.Hide
import Derived.Handy
import Derived.KernelRfl
namespace Go.Proofs.Ytmfhilddemgabaa
set_option linter.unusedVariables false
set_option linter.unusedSimpArgs false
open Go.RowKit

theorem bcell {W w1 : World} (hb : Below W.heap.size W w1) : (∀ b o, b < W.heap.size → w1.cell? ⟨b, o, none⟩ = W.cell? ⟨b, o, none⟩) ∧ (∀ b o, b < W.heap.size → w1.frozen? ⟨b, o, none⟩ = W.frozen? ⟨b, o, none⟩) :=
  ⟨fun b o h => hb.cell (p := ⟨b, o, none⟩) h, fun b o h => hb.frozen (p := ⟨b, o, none⟩) h⟩
theorem belowN {B : Nat} {w X : World} (h : Below B w X) (n : Nat) : Below B w (X.drewN n) := ⟨h.os, h.tape, h.output, h.size, h.block⟩
theorem below_into {w X w1 : World} (h : Below w.heap.size w X) (hb : Below X.heap.size X w1) : Below w.heap.size w w1 := h.trans (hb.mono h.size)
theorem below_a {w X : World} (h : Below w.heap.size w X) (o : Obj) : Below w.heap.size w (X.alloc o) := h.alloc h.size o
theorem below_a3 (w : World) (o p q : Obj) : Below w.heap.size w (((w.alloc o).alloc p).alloc q) := below_a (below_a (below_a (Below.refl _ _) o) p) q
theorem below_s4 {w X : World} (h : Below w.heap.size w X) {b : Nat} (hb : w.heap.size ≤ b) (u v x y : Value) : Below w.heap.size w ((((X.setCell ⟨b, 0, none⟩ u).setCell ⟨b, 1, none⟩ v).setCell ⟨b, 2, none⟩ x).setCell ⟨b, 3, none⟩ y) :=
  (((h.setCell hb u).setCell hb v).setCell hb x).setCell hb y
theorem below_gr {w w' : World} (h : Below w.heap.size w w') (r : Option Nat) : w.grownBy w' r := ⟨h.os, h.tape, h.output, h.size, fun k hk _ => h.block k hk⟩
theorem ret_step {s : Bk} {b : Bool} (h : b = true) : Ending.returned (.tuple #[.agg #[.int .i64 s.size, .int .i64 s.rate, .int .i64 s.have_, .int .i64 s.last], .bool b]) = .returned (.tuple #[.agg #[.int .i64 s.size, .int .i64 s.rate, .int .i64 s.have_, .int .i64 s.last], .bool true]) := by rw [h]

theorem d4 {w w1 : World} {o p : Obj} {a b c d : Value} {t : TypeId} {m : Nat} (hb : Below ((((w.alloc o).alloc p).alloc (.cells #[a, b, c, d] t)).drewN m).heap.size ((((w.alloc o).alloc p).alloc (.cells #[a, b, c, d] t)).drewN m) w1) :
    w1.cell? ⟨w.heap.size + 1 + 1, 0, none⟩ = some a ∧ w1.cell? ⟨w.heap.size + 1 + 1, 1, none⟩ = some b ∧ w1.cell? ⟨w.heap.size + 1 + 1, 2, none⟩ = some c ∧ w1.cell? ⟨w.heap.size + 1 + 1, 3, none⟩ = some d := by
  have h0 : Blk ((((w.alloc o).alloc p).alloc (.cells #[a, b, c, d] t)).drewN m) (w.heap.size + 1 + 1) t #[a, b, c, d] := by
    have := Blk.drewN (Blk.new ((w.alloc o).alloc p) t #[a, b, c, d]) m
    rw [show ((w.alloc o).alloc p).heap.size = w.heap.size + 1 + 1 by simp] at this
    exact this
  have h1 := h0.below hb h0.lt
  exact ⟨h1.cell 0, h1.cell 1, h1.cell 2, h1.cell 3⟩
def StepP (g : Nat) (s' : Bk) (w : World) (e : Ending) (w' : World) : Prop :=
  e = .returned (.tuple #[.agg #[.int .i64 s'.size, .int .i64 s'.rate, .int .i64 s'.have_, .int .i64 s'.last], .bool true]) ∧ w.grownBy w' (some g) ∧ Bkt w' g s'

set_option maxHeartbeats 800000 in
theorem step_other (g : Nat) (s : Bk) (kd t n : Int) (w : World) (h : Bkt w g s) (hs : s.Ok) (ht : -9223372036854775808 ≤ t) (ht' : t ≤ 9223372036854775807) (h1 : (kd == 1) = false) (h2 : (kd == 2) = false) (h3 : (kd != 1) = true) :
    Calls Try.prog 22 #[.pointer (some ⟨g, 0, none⟩), .agg #[.int .i64 s.size, .int .i64 s.rate, .int .i64 s.have_, .int .i64 s.last], .agg #[.int .i64 kd, .int .i64 t, .int .i64 n]] w (StepP g s w) := by
  have hlt := h.lt
  have hl := later_fit s hs t ht'
  have hle := later_le s t
  have hl0 := hs.l0
  have q3 : w.heap.size < w.heap.size + 1 + 1 + 1 := by omega
  have q2 : ¬ w.heap.size + 1 + 1 = w.heap.size := by omega
  have q2' : ¬ w.heap.size = w.heap.size + 1 + 1 := by omega
  have hmx : s.last ≤ t ∨ t < s.last := by omega
  rcases hmx with hmx | hmx
  · have e1 : laterV s t = t := by unfold laterV; omega
    have E1 : Hid ((atV s t == afterV s (t - s.last)) = true) := by unfold Hid atV; rw [e1]; simp
    clear e1
    go_enter Try.func22, Try.ntmps22
    go_wp2_with fail
    go_region_held3 (fun w' => w'.cell? ⟨w.heap.size, 0, none⟩ = some (.int .i64 s.size) ∧ w'.cell? ⟨w.heap.size, 1, none⟩ = some (.int .i64 s.rate) ∧ w'.cell? ⟨w.heap.size, 2, none⟩ = some (.int .i64 s.have_) ∧ w'.cell? ⟨w.heap.size, 3, none⟩ = some (.int .i64 s.last) ∧
        w'.cell? ⟨w.heap.size + 1, 1, none⟩ = some (.int .i64 t))
      (go_keep)
      (first
        | (go_at_call 28; refine (at_c g s t _ (Bkt.drewN ((h.alloc _).alloc _ |>.alloc _) _) hs ht').mono ?_; rintro e w' ⟨rfl, m, rfl⟩)
        | (go_at_call 40; refine (after_c s _ _ hs ?_ ?_).mono ?_; omega; omega; rintro e w1 ⟨rfl, hb⟩; obtain ⟨hc, hf⟩ := bcell hb; obtain ⟨d0, d1, d2, d3⟩ := d4 hb))
    go_wp2
    have hbb := below_into (belowN (below_a3 w _ _ _) _) hb
    refine bodyPost_ret (v := .tuple #[.agg #[.int .i64 s.size, .int .i64 s.rate, .int .i64 s.have_, .int .i64 s.last], .bool (atV s t == afterV s (t - s.last))]) (by simp [results, Try.results22, go_sem, d0, d1, d2, d3]) rfl ?_
    exact ⟨ret_step E1.out, below_gr (below_s4 hbb (by omega) _ _ _ _) _, h.below (below_s4 hbb (by omega) _ _ _ _) hlt⟩
  · have e1 : laterV s t = s.last := by unfold laterV; omega
    have E1 : Hid ((atV s t == afterV s 0) = true) := by unfold Hid atV; rw [e1]; simp
    clear e1
    go_enter Try.func22, Try.ntmps22
    go_wp2_with fail
    go_region_held3 (fun w' => w'.cell? ⟨w.heap.size, 0, none⟩ = some (.int .i64 s.size) ∧ w'.cell? ⟨w.heap.size, 1, none⟩ = some (.int .i64 s.rate) ∧ w'.cell? ⟨w.heap.size, 2, none⟩ = some (.int .i64 s.have_) ∧ w'.cell? ⟨w.heap.size, 3, none⟩ = some (.int .i64 s.last) ∧
        w'.cell? ⟨w.heap.size + 1, 1, none⟩ = some (.int .i64 t))
      (go_keep)
      (first
        | (go_at_call 28; refine (at_c g s t _ (Bkt.drewN ((h.alloc _).alloc _ |>.alloc _) _) hs ht').mono ?_; rintro e w' ⟨rfl, m, rfl⟩)
        | (go_at_call 40; refine (after_c s _ _ hs ?_ ?_).mono ?_; omega; omega; rintro e w1 ⟨rfl, hb⟩; obtain ⟨hc, hf⟩ := bcell hb; obtain ⟨d0, d1, d2, d3⟩ := d4 hb))
    go_wp2
    have hbb := below_into (belowN (below_a3 w _ _ _) _) hb
    refine bodyPost_ret (v := .tuple #[.agg #[.int .i64 s.size, .int .i64 s.rate, .int .i64 s.have_, .int .i64 s.last], .bool (atV s t == afterV s 0)]) (by simp [results, Try.results22, go_sem, d0, d1, d2, d3]) rfl ?_
    exact ⟨ret_step E1.out, below_gr (below_s4 hbb (by omega) _ _ _ _) _, h.below (below_s4 hbb (by omega) _ _ _ _) hlt⟩
end Go.Proofs.Ytmfhilddemgabaa
