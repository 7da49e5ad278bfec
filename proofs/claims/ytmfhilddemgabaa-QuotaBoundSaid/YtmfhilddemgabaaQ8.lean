/- The quota layer: contract of the law package step, its other two kinds. Conditions: the numbers are those of a bucket. -/
import Derived.Test.YtmfhilddemgabaaProg
import Derived.Test.YtmfhilddemgabaaQ7
import Derived.Tactics
import Derived.Tactics2
import Derived.WalkKit
import Derived.WalkSpells
import Derived.WalkLawsBesides
import Derived.StillTactics
import Derived.StillTailTactics
import Derived.OwnWalk
import Derived.Laws.Pointers
import Derived.Laws.ResultCell
import Derived.Deep.RegionHeld3
import Derived.Deep.QuietTactic
import Derived.BigQuiet
import Derived.LoopTactic
import Derived.Deep.LoopGhost
import Derived.Deep.DeepCutAuto
import Derived.Deep.DeepFit
import Derived.Maps.AppendAt
import Derived.Below
import Derived.Lib.Hide
import Derived.Handy
import Derived.KernelRfl
namespace Go.Proofs.Ytmfhilddemgabaa
set_option linter.unusedVariables false
set_option linter.unusedSimpArgs false
open Go.RowKit

/-- Three blocks that were just made, behind what kept all old blocks. -/
theorem boxes3 {w w1 : World} {A B C : Array Value} {a b c : TypeId} (hb : Below (((w.alloc (.cells A a)).alloc (.cells B b)).alloc (.cells C c)).heap.size (((w.alloc (.cells A a)).alloc (.cells B b)).alloc (.cells C c)) w1) :
    Blk w1 w.heap.size a A ∧ Blk w1 (w.heap.size + 1) b B ∧ Blk w1 (w.heap.size + 1 + 1) c C ∧ w.heap.size + 1 + 1 < w1.heap.size ∧ Below w.heap.size w w1 := by
  have k1 : Blk (((w.alloc (.cells A a)).alloc (.cells B b)).alloc (.cells C c)) w.heap.size a A := ((Blk.new w a A).alloc _).alloc _
  have k2 : Blk (((w.alloc (.cells A a)).alloc (.cells B b)).alloc (.cells C c)) (w.heap.size + 1) b B := by
    have := (Blk.new (w.alloc (.cells A a)) b B).alloc (.cells C c)
    rw [show (w.alloc (.cells A a)).heap.size = w.heap.size + 1 by simp] at this
    exact this
  have k3 : Blk (((w.alloc (.cells A a)).alloc (.cells B b)).alloc (.cells C c)) (w.heap.size + 1 + 1) c C := by
    have := Blk.new ((w.alloc (.cells A a)).alloc (.cells B b)) c C
    rw [show ((w.alloc (.cells A a)).alloc (.cells B b)).heap.size = w.heap.size + 1 + 1 by simp] at this
    exact this
  refine ⟨k1.below hb k1.lt, k2.below hb k2.lt, k3.below hb k3.lt, ?_, below_into (below_a3 w _ _ _) hb⟩
  have := hb.size
  simp at this
  omega
theorem cells4 {w : World} {g : Nat} {t : TypeId} {a b c d : Value} (h : Blk w g t #[a, b, c, d]) :
    w.cell? ⟨g, 0, none⟩ = some a ∧ w.cell? ⟨g, 1, none⟩ = some b ∧ w.cell? ⟨g, 2, none⟩ = some c ∧ w.cell? ⟨g, 3, none⟩ = some d := ⟨h.cell 0, h.cell 1, h.cell 2, h.cell 3⟩
theorem cells3 {w : World} {g : Nat} {t : TypeId} {a b c : Value} (h : Blk w g t #[a, b, c]) :
    w.cell? ⟨g, 0, none⟩ = some a ∧ w.cell? ⟨g, 1, none⟩ = some b ∧ w.cell? ⟨g, 2, none⟩ = some c := ⟨h.cell 0, h.cell 1, h.cell 2⟩

theorem undrew {w w1 : World} (h : Below w.drew.heap.size w.drew w1) : Below w.heap.size w w1 := ⟨h.os, h.tape, h.output, h.size, h.block⟩
theorem undrewN {w w1 : World} {n : Nat} (h : Below (w.drewN n).heap.size (w.drewN n) w1) : Below w.heap.size w w1 := ⟨h.os, h.tape, h.output, h.size, h.block⟩

set_option maxHeartbeats 800000 in
theorem step_wait (g : Nat) (s : Bk) (t n : Int) (w : World) (h : Bkt w g s) (hs : s.Ok) (ht : -9223372036854775808 ≤ t) (ht' : t ≤ 9223372036854775807) (hn : -9223372036854775808 ≤ n) (hn' : n ≤ 9223372036854775807) :
    Calls Try.prog 22 #[.pointer (some ⟨g, 0, none⟩), .agg #[.int .i64 s.size, .int .i64 s.rate, .int .i64 s.have_, .int .i64 s.last], .agg #[.int .i64 2, .int .i64 t, .int .i64 n]] w (StepP g s w) := by
  have hlt := h.lt
  have hl := later_fit s hs t ht'
  have hle := later_le s t
  have hl0 := hs.l0
  have q2 : ¬ w.heap.size + 1 + 1 = w.heap.size := by omega
  have q2' : ¬ w.heap.size = w.heap.size + 1 + 1 := by omega
  have hk : ∃ k, laterV s t - s.last = k ∧ 0 ≤ k ∧ k ≤ 9223372036854775807 := ⟨_, rfl, by omega, by omega⟩
  obtain ⟨k, hk, hk0, hk1⟩ := hk
  have hmx : (s.last ≤ t ∧ t - s.last = k) ∨ (t < s.last ∧ k = 0) := by
    unfold laterV at hk
    by_cases h1 : s.last ≤ t
    · exact .inl ⟨h1, by omega⟩
    · exact .inr ⟨by omega, by omega⟩
  have E1 := Lib.hid hk
  clear hk
  rcases hmx with ⟨hmx, e1⟩ | ⟨hmx, e1⟩
  · have E2 := Lib.hid e1
    clear e1
    go_enter Try.func22, Try.ntmps22
    go_wp2_with fail
    rw [E2.out]
    refine (wait_c g s t n _ ((Blk.alloc h _).alloc _ |>.alloc _) hs ht' hn hn').mono ?_
    rintro e w1 ⟨rfl, hb⟩
    rw [till_full, E1.out]
    obtain ⟨b1, b2, b3, z, hbb⟩ := boxes3 hb
    obtain ⟨c0, c1, c2, c3⟩ := cells4 b1
    obtain ⟨x0, x1, x2⟩ := cells3 b2
    obtain ⟨d0, d1, d2, d3⟩ := cells4 b3
    have f3 := b3.frozen
    have B := Lib.hid (And.intro b1 (And.intro b2 b3))
    clear b1 b2 b3 hb
    go_wp2_with fail
    go_region_held3 (fun w' => w'.cell? ⟨w.heap.size, 0, none⟩ = some (.int .i64 s.size) ∧ w'.cell? ⟨w.heap.size, 1, none⟩ = some (.int .i64 s.rate) ∧ w'.cell? ⟨w.heap.size, 2, none⟩ = some (.int .i64 s.have_) ∧ w'.cell? ⟨w.heap.size, 3, none⟩ = some (.int .i64 s.last) ∧
        w'.cell? ⟨w.heap.size + 1, 2, none⟩ = some (.int .i64 n))
      (go_keep)
      (first
        | (go_at_call 39; go_must (refine (soon_c s k n _ hs hk0 hk1).mono ?_); rintro e w2 ⟨rfl, hb2⟩; replace hb2 := undrew hb2; have hbw := below_into hbb hb2; have zw := Nat.lt_of_lt_of_le z hb2.size; have B2 := Lib.hid (And.intro (B.out.1.below hb2 B.out.1.lt) (And.intro (B.out.2.1.below hb2 B.out.2.1.lt) (B.out.2.2.below hb2 B.out.2.2.lt))); obtain ⟨c0, c1, c2, c3⟩ := cells4 B2.out.1; obtain ⟨x0, x1, x2⟩ := cells3 B2.out.2.1; obtain ⟨d0, d1, d2, d3⟩ := cells4 B2.out.2.2; have f3 := B2.out.2.2.frozen; clear hb2))
    go_wp2
    refine bodyPost_ret (v := .tuple #[.agg #[.int .i64 s.size, .int .i64 s.rate, .int .i64 s.have_, .int .i64 s.last], .bool true]) (by simp [results, Try.results22, go_sem, *]) rfl ?_
    exact ⟨rfl, below_gr (below_s4 hbw (by omega) _ _ _ _) _, h.below (below_s4 hbw (by omega) _ _ _ _) hlt⟩
  · subst e1
    go_enter Try.func22, Try.ntmps22
    go_wp2_with fail
    refine (wait_c g s t n _ ((Blk.alloc h _).alloc _ |>.alloc _) hs ht' hn hn').mono ?_
    rintro e w1 ⟨rfl, hb⟩
    rw [till_full, E1.out]
    obtain ⟨b1, b2, b3, z, hbb⟩ := boxes3 hb
    obtain ⟨c0, c1, c2, c3⟩ := cells4 b1
    obtain ⟨x0, x1, x2⟩ := cells3 b2
    obtain ⟨d0, d1, d2, d3⟩ := cells4 b3
    have f3 := b3.frozen
    have B := Lib.hid (And.intro b1 (And.intro b2 b3))
    clear b1 b2 b3 hb
    go_wp2_with fail
    go_region_held3 (fun w' => w'.cell? ⟨w.heap.size, 0, none⟩ = some (.int .i64 s.size) ∧ w'.cell? ⟨w.heap.size, 1, none⟩ = some (.int .i64 s.rate) ∧ w'.cell? ⟨w.heap.size, 2, none⟩ = some (.int .i64 s.have_) ∧ w'.cell? ⟨w.heap.size, 3, none⟩ = some (.int .i64 s.last) ∧
        w'.cell? ⟨w.heap.size + 1, 2, none⟩ = some (.int .i64 n))
      (go_keep)
      (first
        | (go_at_call 39; go_must (refine (soon_c s 0 n _ hs hk0 hk1).mono ?_); rintro e w2 ⟨rfl, hb2⟩; replace hb2 := undrew hb2; have hbw := below_into hbb hb2; have zw := Nat.lt_of_lt_of_le z hb2.size; have B2 := Lib.hid (And.intro (B.out.1.below hb2 B.out.1.lt) (And.intro (B.out.2.1.below hb2 B.out.2.1.lt) (B.out.2.2.below hb2 B.out.2.2.lt))); obtain ⟨c0, c1, c2, c3⟩ := cells4 B2.out.1; obtain ⟨x0, x1, x2⟩ := cells3 B2.out.2.1; obtain ⟨d0, d1, d2, d3⟩ := cells4 B2.out.2.2; have f3 := B2.out.2.2.frozen; clear hb2))
    go_wp2
    refine bodyPost_ret (v := .tuple #[.agg #[.int .i64 s.size, .int .i64 s.rate, .int .i64 s.have_, .int .i64 s.last], .bool true]) (by simp [results, Try.results22, go_sem, *]) rfl ?_
    exact ⟨rfl, below_gr (below_s4 hbw (by omega) _ _ _ _) _, h.below (below_s4 hbw (by omega) _ _ _ _) hlt⟩

theorem ungrew {w w1 : World} {n : Nat} {r : Option Nat} (h : (w.drewN n).grownBy w1 r) : w.grownBy w1 r := ⟨h.os, h.tape, h.output, h.size, h.block⟩
theorem gr_trans {w X w1 : World} {r : Option Nat} (h : Below w.heap.size w X) (k : X.grownBy w1 r) : w.grownBy w1 r :=
  ⟨k.os.trans h.os, k.tape.trans h.tape, k.output.trans h.output, Nat.le_trans h.size k.size, fun i hi hne => (k.block i (Nat.lt_of_lt_of_le hi h.size) hne).trans (h.block i hi)⟩
theorem gr_s4 {w X : World} {r : Option Nat} (h : w.grownBy X r) {b : Nat} (hb : w.heap.size ≤ b) (u v x y : Value) : w.grownBy ((((X.setCell ⟨b, 0, none⟩ u).setCell ⟨b, 1, none⟩ v).setCell ⟨b, 2, none⟩ x).setCell ⟨b, 3, none⟩ y) r := by
  have st : ∀ (X : World) (i : Nat) (u : Value), w.grownBy X r → w.grownBy (X.setCell ⟨b, i, none⟩ u) r := fun X i u h =>
    ⟨h.os, h.tape, h.output, by simpa [World.setCell] using h.size, fun k hk hne => (Below.heap_setCell X _ u k (by simp; omega)).trans (h.block k hk hne)⟩
  exact st _ _ _ (st _ _ _ (st _ _ _ (st _ _ _ h)))
theorem Blk.s4 {X : World} {g : Nat} {tt : TypeId} {cs : Array Value} (h : Blk X g tt cs) {b : Nat} (hb : g ≠ b) (u v x y : Value) : Blk ((((X.setCell ⟨b, 0, none⟩ u).setCell ⟨b, 1, none⟩ v).setCell ⟨b, 2, none⟩ x).setCell ⟨b, 3, none⟩ y) g tt cs :=
  (((h.far (p := ⟨b, 0, none⟩) hb u).far (p := ⟨b, 1, none⟩) hb v).far (p := ⟨b, 2, none⟩) hb x).far (p := ⟨b, 3, none⟩) hb y
theorem ret_take {s : Bk} {t n v l : Int} (hv : v = (takeS s t n).have_) (hl : l = (takeS s t n).last) :
    Ending.returned (.tuple #[.agg #[.int .i64 s.size, .int .i64 s.rate, .int .i64 v, .int .i64 l], .bool true]) =
    .returned (.tuple #[.agg #[.int .i64 (takeS s t n).size, .int .i64 (takeS s t n).rate, .int .i64 (takeS s t n).have_, .int .i64 (takeS s t n).last], .bool true]) := by
  subst hv; subst hl; rfl
theorem take_facts (s : Bk) (t n : Int) (v : Int) (b : Bool) (h : ((n < 0 ∨ atV s t < n) ∧ v = atV s t ∧ b = false) ∨ (0 ≤ n ∧ n ≤ atV s t ∧ v = atV s t - n ∧ b = true)) : v = (takeS s t n).have_ ∧ takeB s t n = b := by
  unfold takeS takeB
  rcases h with ⟨h, rfl, rfl⟩ | ⟨h, h', rfl, rfl⟩
  · simp only; rw [if_neg (by omega)]; exact ⟨rfl, by simp; omega⟩
  · simp only; rw [if_pos ⟨h, h'⟩]; exact ⟨rfl, by simp [h, h']⟩

theorem take_fin {g : Nat} {s : Bk} {t n v l : Int} {w w2 : World} {u0 u1 u2 u3 : Value} (hlt : g < w.heap.size) (hv : v = (takeS s t n).have_) (hl : l = (takeS s t n).last) (hbw : w.grownBy w2 (some g)) (h2 : Bkt w2 g (takeS s t n)) :
    StepP g (takeS s t n) w (.returned (.tuple #[.agg #[.int .i64 s.size, .int .i64 s.rate, .int .i64 v, .int .i64 l], .bool true]))
      ((((w2.setCell ⟨w.heap.size + 1 + 1, 0, none⟩ u0).setCell ⟨w.heap.size + 1 + 1, 1, none⟩ u1).setCell ⟨w.heap.size + 1 + 1, 2, none⟩ u2).setCell ⟨w.heap.size + 1 + 1, 3, none⟩ u3) :=
  ⟨ret_take hv hl, gr_s4 hbw (by omega) _ _ _ _, Blk.s4 h2 (by omega) _ _ _ _⟩

set_option maxHeartbeats 1600000 in
theorem step_take (g : Nat) (s : Bk) (t n : Int) (w : World) (h : Bkt w g s) (hs : s.Ok) (ht : -9223372036854775808 ≤ t) (ht' : t ≤ 9223372036854775807) (hn : -9223372036854775808 ≤ n) (hn' : n ≤ 9223372036854775807) :
    Calls Try.prog 22 #[.pointer (some ⟨g, 0, none⟩), .agg #[.int .i64 s.size, .int .i64 s.rate, .int .i64 s.have_, .int .i64 s.last], .agg #[.int .i64 1, .int .i64 t, .int .i64 n]] w (StepP g (takeS s t n) w) := by
  have hlt := h.lt
  have hl := later_fit s hs t ht'
  have hle := later_le s t
  have hl0 := hs.l0
  have hab := at_bounds s hs t ht'
  have q2 : ¬ w.heap.size + 1 + 1 = w.heap.size := by omega
  have q2' : ¬ w.heap.size = w.heap.size + 1 + 1 := by omega
  have hk : ∃ k l, laterV s t - s.last = k ∧ 0 ≤ k ∧ k ≤ 9223372036854775807 ∧ afterV s k = atV s t ∧ l = (takeS s t n).last := ⟨_, _, rfl, by omega, by omega, rfl, rfl⟩
  obtain ⟨k, l, hk, hk0, hk1, hk2, hl2⟩ := hk
  have hmx : (s.last ≤ t ∧ t - s.last = k ∧ t = l) ∨ (t < s.last ∧ k = 0 ∧ s.last = l) := by
    unfold takeS laterV at *
    simp only at hl2
    by_cases h1 : s.last ≤ t
    · exact .inl ⟨h1, by omega, by omega⟩
    · exact .inr ⟨by omega, by omega, by omega⟩
  have hN : ∃ v b, v = (takeS s t n).have_ ∧ takeB s t n = b ∧ ((n < 0 ∧ atV s t = v ∧ b = false) ∨ (0 ≤ n ∧ atV s t < n ∧ atV s t = v ∧ b = false) ∨ (0 ≤ n ∧ n ≤ atV s t ∧ atV s t - n = v ∧ b = true)) := by
    by_cases h0 : n < 0
    · have := take_facts s t n (atV s t) false (.inl ⟨.inl h0, rfl, rfl⟩)
      exact ⟨_, _, this.1, this.2, .inl ⟨h0, rfl, rfl⟩⟩
    · by_cases h1 : atV s t < n
      · have := take_facts s t n (atV s t) false (.inl ⟨.inr h1, rfl, rfl⟩)
        exact ⟨_, _, this.1, this.2, .inr (.inl ⟨by omega, h1, rfl, rfl⟩)⟩
      · have := take_facts s t n (atV s t - n) true (.inr ⟨by omega, by omega, rfl, rfl⟩)
        exact ⟨_, _, this.1, this.2, .inr (.inr ⟨by omega, by omega, rfl, rfl⟩)⟩
  obtain ⟨v, b, hv, hbl, hN⟩ := hN
  have E3 := Lib.hid hk2
  have Ev := Lib.hid hv
  have Eb := Lib.hid hbl
  have El := Lib.hid hl2
  clear hk hk2 hv hbl hl2
  rcases hmx with ⟨hmx, e1, e4⟩ | ⟨hmx, e1, e4⟩ <;> rcases hN with ⟨hN, e5, rfl⟩ | ⟨hN, hN', e5, rfl⟩ | ⟨hN, hN', e5, rfl⟩
  all_goals
    have E2 := Lib.hid e1
    have E4 := Lib.hid e4
    have E5 := Lib.hid e5
    clear e1 e4 e5
    have hd1 : atV s t < n → decide (n ≤ atV s t) = false := fun h => by simp; omega
    have hd2 : n ≤ atV s t → decide (n ≤ atV s t) = true := fun h => by simp; omega
    go_enter Try.func22, Try.ntmps22
    go_wp2_with fail
    refine (after_c s _ _ hs (by omega) (by omega)).mono ?_
    rintro e w1 ⟨rfl, hb⟩
    first | rw [E2.out, E3.out] | rw [← E2.out, E3.out]
    obtain ⟨b1, b2, b3, z, hbb⟩ := boxes3 hb
    obtain ⟨c0, c1, c2, c3⟩ := cells4 b1
    obtain ⟨x0, x1, x2⟩ := cells3 b2
    obtain ⟨d0, d1, d2, d3⟩ := cells4 b3
    have f3 := b3.frozen
    have B := Lib.hid (And.intro b1 (And.intro b2 b3))
    have h1 := Blk.below h hbb hlt
    clear b1 b2 b3 hb
    go_wp2_with fail
    go_region_held3 (fun w' => w'.cell? ⟨w.heap.size, 0, none⟩ = some (.int .i64 s.size) ∧ w'.cell? ⟨w.heap.size, 1, none⟩ = some (.int .i64 s.rate) ∧
        w'.cell? ⟨w.heap.size + 1, 1, none⟩ = some (.int .i64 t) ∧ w'.cell? ⟨w.heap.size + 1, 2, none⟩ = some (.int .i64 n))
      (go_keep)
      (first
        | (go_at_call 23; go_must (refine (take_c g s t n _ (h1.drewN 1) hs ht').mono ?_); rintro e w2 ⟨rfl, hb2, h2⟩; replace hb2 := ungrew hb2; have hbw := gr_trans hbb hb2; have zw := Nat.lt_of_lt_of_le z hb2.size; have B2 := Lib.hid (And.intro (B.out.1.grown hb2 (by simp; omega)) (And.intro (B.out.2.1.grown hb2 (by simp; omega)) (B.out.2.2.grown hb2 (by simp; omega)))); obtain ⟨c0, c1, c2, c3⟩ := cells4 B2.out.1; obtain ⟨x0, x1, x2⟩ := cells3 B2.out.2.1; obtain ⟨d0, d1, d2, d3⟩ := cells4 B2.out.2.2; have f3 := B2.out.2.2.frozen; rw [Eb.out]; clear hb2))
    go_wp2
    first
      | (refine bodyPost_ret (v := .tuple #[.agg #[.int .i64 s.size, .int .i64 s.rate, .int .i64 (atV s t), .int .i64 t], .bool true]) ?_ rfl ?_; simp [results, Try.results22, go_sem, *]; exact take_fin hlt (E5.out.trans Ev.out) (E4.out.trans El.out) hbw h2)
      | (refine bodyPost_ret (v := .tuple #[.agg #[.int .i64 s.size, .int .i64 s.rate, .int .i64 (atV s t), .int .i64 s.last], .bool true]) ?_ rfl ?_; simp [results, Try.results22, go_sem, *]; exact take_fin hlt (E5.out.trans Ev.out) (E4.out.trans El.out) hbw h2)
      | (refine bodyPost_ret (v := .tuple #[.agg #[.int .i64 s.size, .int .i64 s.rate, .int .i64 (atV s t - n), .int .i64 t], .bool true]) ?_ rfl ?_; simp [results, Try.results22, go_sem, *]; exact take_fin hlt (E5.out.trans Ev.out) (E4.out.trans El.out) hbw h2)
      | (refine bodyPost_ret (v := .tuple #[.agg #[.int .i64 s.size, .int .i64 s.rate, .int .i64 (atV s t - n), .int .i64 s.last], .bool true]) ?_ rfl ?_; simp [results, Try.results22, go_sem, *]; exact take_fin hlt (E5.out.trans Ev.out) (E4.out.trans El.out) hbw h2)
end Go.Proofs.Ytmfhilddemgabaa
