/- Contracts. -/
import Derived.Test.YtppbgkadpomblaaProg
import Derived.Test.YtppbgkadpomblaaA10
import Derived.Tactics
import Derived.Tactics2
import Derived.WalkKit
import Derived.WalkSpells
import Derived.WalkLawsBesides
import Derived.StillTactics
import Derived.StillTailTactics
import Derived.OwnWalk
import Derived.Laws.Pointers
import Derived.Laws.ResultCell
import Derived.Deep.RegionHeld3
import Derived.Deep.RegionWith
import Derived.Deep.RegionLaw
import Derived.Deep.AppendLies
import Derived.Deep.QuietTactic
import Derived.BigQuiet
import Derived.LoopTactic
import Derived.Deep.LoopGhost
import Derived.Deep.DeepCutAuto
import Derived.Deep.DeepFit
import Derived.Maps.AppendAt
import Derived.Below
import Derived.Lib.Hide
import Derived.Handy
import Derived.KernelRfl
import Derived.IntWalk
import Derived.Laws.AppendOwnNone
import Derived.Laws.IdiomStrings
namespace Go.Proofs.Ytppbgkadpomblaa
set_option linter.unusedVariables false
set_option linter.unusedSimpArgs false
open Go.RowKit

set_option maxHeartbeats 800000 in
theorem step_clear (F : Nat → Prop) (g b : Nat) (v : Value) (l : List Cl) (A : Option Addr) (c : Nat) (o : Opp) (w : World) (ht : DqN w g b v l) (h1 : o.kind = 3) :
    Calls Try.prog 49 #[.pointer (some ⟨g, 0, none⟩), .slice A l.length c, oagg o] w (StepP g b v F [] w) := by
  have h2 : (o.kind == 1) = false := by simp; omega
  have h3 : (o.kind == 2) = false := by simp; omega
  have h4 : (o.kind == 3) = true := by simpa using h1
  have HT := Lib.hid ht
  clear h1 ht
  unfold oagg
  go_enter Try.func49, Try.ntmps49
  go_wp2_with fail
  refine (clear_c g 0 b 26 #[v] v l _ (HT.out.tch ((Tch.refl No w).alloc _))).mono ?_
  rintro e w3 ⟨rfl, d3, t3⟩
  have D3 : Hid (DqN w3 g b (.slice none 0 0) []) := d3
  have T3 : Hid (Tch (Foot g v) (w.alloc (.cells #[.int .i64 o.kind, .int .i64 o.at_] 89)) w3) := t3.mono (fun i hi => .inl (.inl hi))
  clear d3 t3
  go_wp2
  go_returns
  exact fin_none rfl ((Tch.refl No w).alloc _) T3.out (fun k hk => by simp [Value.ownBlock] at hk) D3.out

set_option maxHeartbeats 800000 in
theorem step_other (F : Nat → Prop) (g b : Nat) (v : Value) (l : List Cl) (A : Option Addr) (c : Nat) (o : Opp) (w : World) (ht : DqN w g b v l) (hr : Rd w (FF g v F) 2 A l.length (crows l)) (hnil : SNil A l.length c) (h1 : o.kind ≠ 1) (h2 : o.kind ≠ 2) (h3 : o.kind ≠ 3) :
    Calls Try.prog 49 #[.pointer (some ⟨g, 0, none⟩), .slice A l.length c, oagg o] w (StepP g b v F l w) := by
  have k2 : (o.kind == 1) = false := by simpa using h1
  have k3 : (o.kind == 2) = false := by simpa using h2
  have k4 : (o.kind == 3) = false := by simpa using h3
  have HT := Lib.hid ht
  have HR := Lib.hid hr
  have HS := Lib.hid hnil
  clear h1 h2 h3 ht hr hnil
  unfold oagg
  go_enter Try.func49, Try.ntmps49
  go_wp2
  go_returns
  exact fin_old rfl rfl HS.out HR.out (Tch.refl _ w) HT.out (fun k hk => .inl hk) ((Tch.refl No w).alloc _)

theorem step_c (F : Nat → Prop) (g b : Nat) (v : Value) (l : List Cl) (A : Option Addr) (c : Nat) (o : Opp) (w : World) (ht : DqN w g b v l) (hb : b ≤ w.heap.size) (hr : Rd w (FF g v F) 2 A l.length (crows l)) (hF : ∀ k, F k → k < w.heap.size) (hnil : SNil A l.length c) (k : Nat) (hg : Good k l) (hk : k ≤ 30000) :
    Calls Try.prog 49 #[.pointer (some ⟨g, 0, none⟩), .slice A l.length c, oagg o] w (StepP g b v F (stepL l o) w) := by
  have hl : l.length ≤ 30000 := by have := hg.len; omega
  have hok := hg.cells (by omega)
  unfold stepL
  by_cases h1 : o.kind = 1
  · rw [if_pos h1]
    rcases last_split l with rfl | ⟨p, x, rfl⟩
    · exact step_push0 F g b v A c o w ht hb hF hnil h1
    · have hlen : (p ++ [x]).length = p.length + 1 := by simp
      rw [hlen] at hr hnil hl ⊢
      have hx := hg.ok x (by simp)
      rcases (by omega : o.at_ < x.at_ ∨ o.at_ = x.at_ ∨ x.at_ < o.at_) with h2 | h2 | h2
      · rw [(push_less p x _ h2).1]
        exact step_push1 F g b v p x A c o w ht hb hr hF hnil (by omega) hok h1 h2
      · rw [(push_same p x _ h2).1]
        exact step_push2 F g b v p x A c o w ht hb hr hF hnil (by omega) hok h1 h2 (by omega) (by omega)
      · rw [(push_more p x _ h2).1]
        exact step_push3 F g b v p x A c o w ht hb hr hF hnil (by omega) hok h1 h2
  · rw [if_neg h1]
    by_cases h2 : o.kind = 2
    · rw [if_pos h2]
      exact step_prune F g b v l A c o w ht hr hF hl hg.up h2
    · rw [if_neg h2]
      by_cases h3 : o.kind = 3
      · rw [if_pos h3]
        exact step_clear F g b v l A c o w ht h3
      · rw [if_neg h3]
        exact step_other F g b v l A c o w ht hr hnil h1 h2 h3

theorem rd_op {w : World} {S : Nat → Prop} {A : Option Addr} {n : Nat} {l : List Opp} (hr : Rd w S 2 A n (l.flatMap ocells)) (i : Nat) (hi : i < n) :
    ∃ g off x, A = some ⟨g, off, none⟩ ∧ l[i]? = some x ∧ w.cell? ⟨g, off + i * 2, none⟩ = some (.int .i64 x.kind) ∧ w.cell? ⟨g, off + i * 2 + 1, none⟩ = some (.int .i64 x.at_) := by
  have hn : l.length = n := by have := hr.1; rw [flat_length ocells_length] at this; omega
  obtain ⟨g, off, x, hA, hS, hg, hx, hc⟩ := rd_at ocells_length hr i hi hn
  refine ⟨g, off, x, hA, hx, hc 0 (by omega) _ rfl, ?_⟩
  rw [Nat.add_assoc]; exact hc 1 (by omega) _ rfl

/-- The page's list and the deque stand alike, and what has been touched. -/
def Alike (F : Nat → Prop) (g b : Nat) (v : Value) (l : List Cl) (w : World) (A : Option Addr) (c : Nat) (v' : Value) (wr : World) : Prop :=
  SNil A l.length c ∧ DqN wr g b v' l ∧ Rd wr (FF g v' F) 2 A l.length (crows l) ∧ Tch (Foot g v) w wr ∧ (∀ k, v'.ownBlock = some k → v.ownBlock = some k ∨ w.heap.size ≤ k)
theorem alike_no {F : Nat → Prop} {g b c : Nat} {v v' : Value} {l : List Cl} {w wr w2 : World} {A : Option Addr} (h : Alike F g b v l w A c v' wr) (t : Tch No wr w2) : Alike F g b v l w A c v' w2 :=
  ⟨h.1, h.2.1.tch t, h.2.2.1.tch t.no, h.2.2.2.1.and t.no, h.2.2.2.2⟩
theorem alike_step {F : Nat → Prop} {g b c : Nat} {v v' : Value} {l l' : List Cl} {w wr w2 : World} {A : Option Addr} (h : Alike F g b v l w A c v' wr) {A2 : Option Addr} {c2 : Nat} {v2 : Value} (h2 : Alike F g b v' l' wr A2 c2 v2 w2) : Alike F g b v l' w A2 c2 v2 w2 := by
  have hs := h.2.2.2.1.size
  refine ⟨h2.1, h2.2.1, h2.2.2.1, h.2.2.2.1.trans h2.2.2.2.1 ?_, ?_⟩
  · rintro i (h1 | h1)
    · exact .inl (.inl h1)
    · rcases h.2.2.2.2 i h1 with h3 | h3
      · exact .inl (.inr h3)
      · exact .inr h3
  · intro k hk
    rcases h2.2.2.2.2 k hk with h3 | h3
    · exact h.2.2.2.2 k h3
    · exact .inr (by omega)
theorem alike_rd {F : Nat → Prop} {g b c : Nat} {v v' : Value} {l : List Cl} {w wr : World} {A : Option Addr} (h : Alike F g b v l w A c v' wr) : Rd wr No 2 A l.length (crows l) := h.2.2.1.mono (fun _ _ f => f.elim)

set_option maxHeartbeats 1600000 in
theorem run_c (F : Nat → Prop) (g b : Nat) (v : Value) (l : List Cl) (A : Option Addr) (c : Nat) (B : Option Addr) (n d : Nat) (ops : List Opp) (w : World) (ht : Alike F g b v l w A c v w) (hF : ∀ k, F k → k < w.heap.size) (hb : b ≤ w.heap.size) (ho : Rd w (Foot g v) 2 B n (ops.flatMap ocells)) (k0 : Nat) (hg : Good k0 l) (hk : k0 + n ≤ 30000) :
    Calls Try.prog 18 #[.pointer (some ⟨g, 0, none⟩), .slice A l.length c, .slice B n d] w (StepP g b v F (runL l ops) w) := by
  have hn : ops.length = n := by have := ho.1; rw [flat_length ocells_length] at this; omega
  have HA := Lib.hid ht
  have HO := Lib.hid ho
  have hgr : ∀ i, i ≤ n → Good (k0 + i) (runL l (ops.take i)) := fun i hi => by
    have := good_run hg (ops.take i) (by simp; omega)
    rw [List.length_take, Nat.min_eq_left (by omega)] at this
    exact this
  have HG := Lib.hid hgr
  have HG0 := Lib.hid hg
  have hl0 := hg.len
  clear ht ho hgr hg
  go_enter Try.func18, Try.ntmps18
  go_wp2_with fail
  refine (like_c g 0 b 26 #[v] v l A c _ HA.out.2.1 (alike_rd HA.out) (by omega) (HG0.out.cells (by omega))).mono ?_
  rintro e w1 ⟨rfl, t1⟩
  have A0 := Lib.hid (alike_no HA.out t1)
  clear t1
  go_wp2_with fail
  go_loopw [1, 8, 9] (fun mv okv iv wr => ∃ i A' c' v', i ≤ n ∧ iv = .int .i64 (i : Nat) ∧ okv = .bool true ∧ mv = .slice A' (runL l (ops.take i)).length c' ∧ Alike F g b v (runL l (ops.take i)) w A' c' v' wr) (fun _ _ iv _ => n - (intOf iv).toNat)
  case atStart => exact ⟨0, A, c, v, by omega, rfl, rfl, rfl, A0.out⟩
  case round =>
    obtain ⟨i, A', c', v', hin, rfl, rfl, rfl, ha⟩ := hrel
    clear A0 HA
    have gi := HG.out i hin
    have hli := gi.len
    by_cases hlt : i < n
    · obtain ⟨p, off, o, hB, hx, a0, a1⟩ := rd_op (HO.out.tch ha.2.2.2.1) i hlt
      subst hB
      have hs := runL_succ l ops i o hx
      have HS := Lib.hid hs
      have HA := Lib.hid ha
      have hb2 : b ≤ wr.heap.size := Nat.le_trans hb ha.2.2.2.1.size
      have hF2 : ∀ k, F k → k < wr.heap.size := fun k hk => Nat.lt_of_lt_of_le (hF k hk) ha.2.2.2.1.size
      have gi2 := HG.out (i + 1) (by omega)
      rw [hs] at gi2
      have GI := Lib.hid (And.intro gi gi2)
      have hl2 := gi2.len
      clear ha hs hx gi gi2
      go_wp2_with fail
      refine (step_c F g b v' _ A' c' o wr HA.out.2.1 hb2 HA.out.2.2.1 hF2 HA.out.1 (k0 + i) GI.out.1 (by omega)).mono ?_
      rintro e w1 ⟨A2, c2, v2, rfl, h2⟩
      have AL := Lib.hid (alike_step HA.out h2)
      clear h2
      go_wp2_with fail
      refine (like_c g 0 b 26 #[v2] v2 _ A2 c2 _ AL.out.2.1 (alike_rd AL.out) (by omega) (GI.out.2.cells (by omega))).mono ?_
      rintro e w3 ⟨rfl, t3⟩
      have AL3 := Lib.hid (alike_no AL.out t3)
      clear t3
      go_wp2
      exact ⟨⟨i + 1, A2, c2, v2, by omega, by simp, rfl, by rw [HS.out], by rw [HS.out]; exact AL3.out⟩, by simp [intOf]; omega⟩
    · have : i = n := by omega
      subst this
      have e0 : ops.take i = ops := List.take_of_length_le (by omega)
      rw [e0] at ha hli gi
      rw [e0]
      have HA := Lib.hid ha
      clear ha e0 gi
      go_wp2
      go_returns
      exact ⟨A', c', v', rfl, HA.out.1, HA.out.2⟩

/-- The beginning of a run on a new deque. -/
theorem alike_new (F : Nat → Prop) (w : World) : Alike F w.heap.size w.heap.size (.slice none 0 0) [] (w.alloc (.cells #[.slice none 0 0] 26)) none 0 (.slice none 0 0) (w.alloc (.cells #[.slice none 0 0] 26)) :=
  ⟨fun _ => ⟨rfl, rfl, rfl⟩, dq_new w _, Rd.nil, Tch.refl _ _, fun k hk => .inl hk⟩
theorem good_nil : Good 0 [] := ⟨trivial, fun x hx => (by cases hx), by simp⟩
theorem ops_new {w w1 : World} {A : Option Addr} {n : Nat} {xs : List Opp} (h : Rd w No 2 A n (xs.flatMap ocells)) (t : Tch No w w1) : Rd (w1.alloc (.cells #[.slice none 0 0] 26)) (Foot w1.heap.size (.slice none 0 0)) 2 A n (xs.flatMap ocells) := by
  have h1 := h.tch t
  obtain ⟨hl, hc⟩ := h1
  refine ⟨hl, fun hp => ?_⟩
  obtain ⟨g, off, hA, _, hlt, hcell⟩ := hc hp
  refine ⟨g, off, hA, ?_, by simp; omega, fun j u hu => ?_⟩
  · rintro (f | f)
    · omega
    · simp [Value.ownBlock] at f
  · exact ((Tch.refl No w1).alloc (.cells #[.slice none 0 0] 26)).cell (fun f => f) (hcell j u hu)

set_option maxHeartbeats 1600000 in
theorem runs_walk (A : Option Addr) (n c : Nat) (w : World) (h : n ≤ c) (hm : c ≤ 9223372036854775807) (xs : List Opp) (hr : Rd w No 2 A n (xs.flatMap ocells) ∧ ∀ x ∈ xs, (Fit x.kind ∧ Fit x.at_)) :
    Calls Try.prog 4 #[.slice A n c] w fun e w' => e = .returned (.bool true) ∧ Below w.heap.size w w' := by
  have HR := Lib.hid hr.1
  have hf := (few80_le n).1
  clear hr
  go_enter Try.func4, Try.ntmps4
  go_wp2_with fail
  refine (alive_c w).mono ?_
  rintro e w1 ⟨rfl, t1⟩
  have T1 := Lib.hid t1
  clear t1
  go_wp2_with fail
  refine (few_c No A n c xs _ h hm (HR.out.tch (T1.out.and ((Tch.refl No w1).alloc _)))).mono ?_
  rintro e w2 ⟨rfl, rfl⟩
  have HO := Lib.hid (ops_new (few_rd HR.out) T1.out)
  have AL := Lib.hid (alike_new No w1)
  go_wp2_with fail
  refine (run_c No w1.heap.size w1.heap.size (.slice none 0 0) [] none 0 A (few80 n) c _ _ AL.out (fun _ f => f.elim) (by simp) HO.out 0 good_nil (by omega)).mono ?_
  rintro e w3 ⟨A3, c3, v3, rfl, _, _, _, t3, _⟩
  go_wp2
  go_returns
  refine ⟨rfl, Tch.noBelow ((T1.out.alloc _).trans t3 ?_)⟩
  rintro i (f | f)
  · exact .inr (by have := T1.out.size; omega)
  · simp [Value.ownBlock] at f
end Go.Proofs.Ytppbgkadpomblaa
