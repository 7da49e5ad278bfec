/- Contracts. -/
import Derived.Test.YtppbgkadpomblaaProg
import Derived.Test.YtppbgkadpomblaaA4
import Derived.Tactics
import Derived.Tactics2
import Derived.WalkKit
import Derived.WalkSpells
import Derived.WalkLawsBesides
import Derived.StillTactics
import Derived.StillTailTactics
import Derived.OwnWalk
import Derived.Laws.Pointers
import Derived.Laws.ResultCell
import Derived.Deep.RegionHeld3
import Derived.Deep.RegionWith
import Derived.Deep.RegionLaw
import Derived.Deep.AppendLies
import Derived.Deep.QuietTactic
import Derived.BigQuiet
import Derived.LoopTactic
import Derived.Deep.LoopGhost
import Derived.Deep.DeepCutAuto
import Derived.Deep.DeepFit
import Derived.Maps.AppendAt
import Derived.Below
import Derived.Lib.Hide
import Derived.Handy
import Derived.KernelRfl
import Derived.IntWalk
namespace Go.Proofs.Ytppbgkadpomblaa
set_option linter.unusedVariables false
set_option linter.unusedSimpArgs false
open Go.RowKit

theorem prune_nil (f : Int) (w : World) : Calls Try.prog 22 #[.pointer none, .int .i64 f] w fun e w' => e = .returned (.int .i64 0) ∧ w = w' := by
  go_enter Try.func22, Try.ntmps22
  go_wp2_with fail
  go_loop [5] (fun nv => nv = .int .i64 0) (fun _ => 0)
  case atStart => exact rfl
  case round =>
    subst hrel
    go_wp2_with (go_at_call 43; refine (len_nil _).mono ?_; rintro e w' ⟨rfl, rfl⟩)
    go_returns
    exact ⟨rfl, rfl⟩

/-- The cells of element i of a slice that reads as a list. -/
theorem rd_at {α : Type} {f : α → List Value} {s : Nat} (hf : ∀ x, (f x).length = s) {w : World} {S : Nat → Prop} {A : Option Addr} {n : Nat} {l : List α} (hr : Rd w S s A n (l.flatMap f)) (i : Nat) (hi : i < n) (hn : l.length = n) :
    ∃ g off x, A = some ⟨g, off, none⟩ ∧ ¬ S g ∧ g < w.heap.size ∧ l[i]? = some x ∧ ∀ j, j < s → ∀ u, (f x)[j]? = some u → w.cell? ⟨g, off + (i * s + j), none⟩ = some u := by
  obtain ⟨g, off, hA, hg, hlt, hc⟩ := hr.2 (by omega)
  refine ⟨g, off, l[i], hA, hg, hlt, List.getElem?_eq_getElem (by omega), fun j hj u hu => hc _ u ?_⟩
  rw [flat_get hf l i j hj _ (List.getElem?_eq_getElem (by omega))]
  exact hu
theorem rd_cl {w : World} {S : Nat → Prop} {A : Option Addr} {n : Nat} {l : List Cl} (hr : Rd w S 2 A n (crows l)) (i : Nat) (hi : i < n) :
    ∃ g off x, A = some ⟨g, off, none⟩ ∧ ¬ S g ∧ g < w.heap.size ∧ l[i]? = some x ∧ w.cell? ⟨g, off + i * 2, none⟩ = some (.int .i64 x.at_) ∧ w.cell? ⟨g, off + i * 2 + 1, none⟩ = some (.int .i64 x.n) := by
  have hn : l.length = n := by have := hr.1; rw [crows_length] at this; omega
  obtain ⟨g, off, x, hA, hS, hg, hx, hc⟩ := rd_at ccells_length hr i hi hn
  refine ⟨g, off, x, hA, hS, hg, hx, hc 0 (by omega) _ rfl, ?_⟩
  rw [Nat.add_assoc]; exact hc 1 (by omega) _ rfl
theorem rd_len {w : World} {S : Nat → Prop} {A : Option Addr} {n : Nat} {l : List Cl} (hr : Rd w S 2 A n (crows l)) : l.length = n := by have := hr.1; rw [crows_length] at this; omega

def Yes (w : World) (e : Ending) (w' : World) : Prop := e = .returned (.bool true) ∧ ∃ k, w' = w.drewN k
/-- It says yes, and touches nothing that was there. -/
def YesNo (w : World) (e : Ending) (w' : World) : Prop := e = .returned (.bool true) ∧ Tch No w w'

set_option maxHeartbeats 400000 in
theorem same_c (S : Nat → Prop) (A B : Option Addr) (n c d : Nat) (l : List Cl) (w : World) (ha : Rd w S 2 A n (crows l)) (hb : Rd w S 2 B n (crows l)) (hn : n ≤ 1000000) :
    Calls Try.prog 47 #[.slice A n c, .slice B n d] w (Yes w) := by
  have HA := Lib.hid ha
  have HB := Lib.hid hb
  clear ha hb
  go_enter Try.func47, Try.ntmps47
  go_wp2_with fail
  go_loopw [5] (fun iv wr => ∃ i : Nat, i ≤ n ∧ iv = .int .i64 i ∧ ∃ k, wr = w.drewN k) (fun iv _ => n - (intOf iv).toNat)
  case atStart => exact ⟨0, by omega, rfl, 0, rfl⟩
  case round =>
    obtain ⟨i, hin, rfl, k, rfl⟩ := hrel
    by_cases hlt : i < n
    · obtain ⟨g, off, x, hA, _, _, hx, a0, a1⟩ := rd_cl HA.out i hlt
      obtain ⟨g', off', x', hB, _, _, hx', b0, b1⟩ := rd_cl HB.out i hlt
      have hxx : x = x' := by rw [hx] at hx'; injection hx'
      subst hxx
      subst hA hB
      clear hx hx'
      have hi0 : (0 : Int) ≤ (i : Int) := Int.natCast_nonneg _
      have hi1 : (i : Int) < (n : Int) := by omega
      go_wp2_with fail
      go_quiet (fail)
      go_wp2
      exact ⟨⟨i + 1, by omega, by simp, k + nq, rfl⟩, by simp [intOf]; omega⟩
    · have : i = n := by omega
      subst this
      go_wp2
      go_returns
      exact ⟨rfl, k, rfl⟩

theorem rd_own {w : World} {b n c : Nat} {A : Option Addr} {xs : List Value} (h : w.ownsRow b 30 2 (.slice A n c) n xs) : Rd w No 2 A n xs := by
  obtain ⟨A', c', e, hr⟩ := Rd.of_own (S := No) h (fun _ _ f => f)
  injection e with e _ _
  subst e
  exact hr
theorem ends_of (l : List Cl) (h : 0 < l.length) : ∃ x y, l.head? = some x ∧ l[0]? = some x ∧ l.getLast? = some y ∧ l[l.length - 1]? = some y := by
  rcases last_split l with rfl | ⟨p, y, rfl⟩
  · simp at h
  · cases p with
    | nil => exact ⟨y, y, rfl, rfl, rfl, rfl⟩
    | cons x p => exact ⟨x, y, rfl, rfl, by rw [List.getLast?_append]; rfl, by simp⟩

set_option maxHeartbeats 1600000 in
set_option maxRecDepth 100000 in
theorem like_c (g o b : Nat) (t : TypeId) (cs : Array Value) (v : Value) (l : List Cl) (A : Option Addr) (c : Nat) (w : World) (h : Dq w g o b t cs v l) (hr : Rd w No 2 A l.length (crows l)) (hl : l.length ≤ 100000) (hok : CellsOk l) :
    Calls Try.prog 17 #[.pointer (some ⟨g, o, none⟩), .slice A l.length c] w (YesNo w) := by
  have H := Lib.hid h
  have HR := Lib.hid hr
  have HK := Lib.hid hok
  clear h hr hok
  go_enter Try.func17, Try.ntmps17
  go_wp2_with fail
  go_loop [5, 6] (fun nv iv => ∃ i : Nat, i ≤ l.length ∧ iv = .int .i64 i ∧ nv = .int .i64 (sumL (l.take i))) (fun _ iv => l.length - (intOf iv).toNat)
  case atStart => exact ⟨0, by omega, rfl, rfl⟩
  case round =>
    obtain ⟨i, hil, rfl, rfl⟩ := hrel
    have hb := sumL_bd (l.take i) (fun x hx => HK.out x (List.mem_of_mem_take hx))
    have hb0 := hb.1
    have hb1 : sumL (l.take i) ≤ 32768 * i := by have := hb.2; rw [List.length_take, Nat.min_eq_left hil] at this; exact this
    clear hb
    by_cases hlt : i < l.length
    · obtain ⟨q, off, x, hA, _, _, hx, d0, d1⟩ := rd_cl HR.out i hlt
      subst hA
      have hps : sumL (l.take (i + 1)) = sumL (l.take i) + x.n := by rw [take_succ_of hx, sumL_snoc]
      obtain ⟨hn0, hn1⟩ := HK.out x (List.mem_of_getElem? hx)
      have HP := Lib.hid hps
      clear hps hx
      go_wp2
      exact ⟨⟨i + 1, by omega, by simp, by rw [HP.out]⟩, by simp [intOf]; omega⟩
    · have hin : i = l.length := by omega
      subst hin
      have e0 : l.take l.length = l := List.take_length
      rw [e0]
      rw [e0] at hb0 hb1
      clear e0
      rcases Nat.eq_zero_or_pos l.length with h0 | h0
      · have hl0 : l = [] := List.eq_nil_of_length_eq_zero h0
        have E1 : Hid (l.head? = none) := by show l.head? = none; rw [hl0]; rfl
        have E2 : Hid (l.getLast? = none) := by show l.getLast? = none; rw [hl0]; rfl
        have n0 : (l.length == 0) = true := by simpa using h0
        have n1 : decide ((0 : Int) < (l.length : Int)) = false := by simp; omega
        have n2 : decide (0 < l.length) = false := by simp; omega
        have z0 : (default : Cl).at_ = 0 := rfl
        have z1 : (default : Cl).n = 0 := rfl
        clear hl0 h0
        go_wp2_with fail
        refine (first_c g o b t cs v l _ H.out (by omega)).mono ?_
        rintro e w1 ⟨rfl, t1⟩
        rw [E1.out]
        dsimp only [Option.getD, Option.isSome]
        have T1 := Lib.hid t1
        clear t1
        go_wp2_with fail
        refine (last_c g o b t cs v l _ (H.out.tch (T1.out.alloc _)) (by omega)).mono ?_
        rintro e w2 ⟨rfl, t2⟩
        rw [E2.out]
        dsimp only [Option.getD, Option.isSome]
        have B1 : Hid (Blk w2 w1.heap.size 30 #[.int .i64 0, .int .i64 0]) := t2.blk (Blk.new w1 30 _) (fun f => f)
        have T2 := Lib.hid ((T1.out.alloc _).and t2)
        clear t2
        go_wp2_with fail
        refine (all_c g o b t cs v l _ (H.out.tch (T2.out.alloc _)) (by omega)).mono ?_
        rintro e w3 ⟨A3, c3, rfl, o3, t3⟩
        have B3 : Hid (Blk w3 w1.heap.size 30 #[.int .i64 0, .int .i64 0] ∧ Blk w3 w2.heap.size 30 #[.int .i64 0, .int .i64 0]) := ⟨t3.blk (B1.out.alloc _) (fun f => f), t3.blk (Blk.new w2 30 _) (fun f => f)⟩
        have T3 := Lib.hid ((T2.out.alloc _).and t3)
        have R3 : Hid (Rd w3 No 2 A3 l.length (crows l)) := rd_own o3
        clear t3 o3
        go_wp2_with fail
        refine (same_c No A3 A l.length c3 c l _ R3.out (HR.out.tch T3.out) (by omega)).mono ?_
        rintro e w4 ⟨rfl, k4, rfl⟩
        have T4 := Lib.hid (T3.out.drewN k4)
        obtain ⟨AA, CC, hv⟩ := H.out.form
        have c0 := (H.out.tch T4.out).at_
        rw [hv] at c0
        have C0 := Lib.hid c0
        clear c0 hv
        go_wp2_with fail
        refine (len_c g o _ _ _ _ C0.out).mono ?_
        rintro e w5 ⟨rfl, rfl⟩
        go_wp2_with fail
        refine (sum_c g o b t cs v l _ (H.out.tch T4.out) (by omega) HK.out).mono ?_
        rintro e w5 ⟨rfl, t5⟩
        have B5 : Hid (Blk w5 w1.heap.size 30 #[.int .i64 0, .int .i64 0] ∧ Blk w5 w2.heap.size 30 #[.int .i64 0, .int .i64 0]) := ⟨t5.blk (B3.out.1.drewN k4) (fun f => f), t5.blk (B3.out.2.drewN k4) (fun f => f)⟩
        have T5 := Lib.hid (T4.out.and t5)
        clear t5
        obtain ⟨p0, p1⟩ := cells2 B5.out.1
        obtain ⟨q0, q1⟩ := cells2 B5.out.2
        go_wp2
        go_returns
        exact ⟨rfl, T5.out⟩
      · obtain ⟨x, y, hx, hx0, hy, hy0⟩ := ends_of l h0
        have E1 := Lib.hid hx
        have E2 := Lib.hid hy
        have E3 := Lib.hid (And.intro hx0 hy0)
        have n0 : (l.length == 0) = false := beq_eq_false_iff_ne.2 (by omega)
        have n1 : decide ((0 : Int) < (l.length : Int)) = true := by simp; omega
        have n2 : decide (0 < l.length) = true := by simp; omega
        clear hx hx0 hy hy0
        go_wp2_with fail
        refine (first_c g o b t cs v l _ H.out (by omega)).mono ?_
        rintro e w1 ⟨rfl, t1⟩
        rw [E1.out]
        dsimp only [Option.getD, Option.isSome]
        have T1 := Lib.hid t1
        clear t1
        go_wp2_with fail
        refine (last_c g o b t cs v l _ (H.out.tch (T1.out.alloc _)) (by omega)).mono ?_
        rintro e w2 ⟨rfl, t2⟩
        rw [E2.out]
        dsimp only [Option.getD, Option.isSome]
        have B1 : Hid (Blk w2 w1.heap.size 30 #[.int .i64 x.at_, .int .i64 x.n]) := t2.blk (Blk.new w1 30 _) (fun f => f)
        have T2 := Lib.hid ((T1.out.alloc _).and t2)
        clear t2
        go_wp2_with fail
        refine (all_c g o b t cs v l _ (H.out.tch (T2.out.alloc _)) (by omega)).mono ?_
        rintro e w3 ⟨A3, c3, rfl, o3, t3⟩
        have B3 : Hid (Blk w3 w1.heap.size 30 #[.int .i64 x.at_, .int .i64 x.n] ∧ Blk w3 w2.heap.size 30 #[.int .i64 y.at_, .int .i64 y.n]) := ⟨t3.blk (B1.out.alloc _) (fun f => f), t3.blk (Blk.new w2 30 _) (fun f => f)⟩
        have T3 := Lib.hid ((T2.out.alloc _).and t3)
        have R3 : Hid (Rd w3 No 2 A3 l.length (crows l)) := rd_own o3
        clear t3 o3
        go_wp2_with fail
        refine (same_c No A3 A l.length c3 c l _ R3.out (HR.out.tch T3.out) (by omega)).mono ?_
        rintro e w4 ⟨rfl, k4, rfl⟩
        have T4 := Lib.hid (T3.out.drewN k4)
        obtain ⟨AA, CC, hv⟩ := H.out.form
        have c0 := (H.out.tch T4.out).at_
        rw [hv] at c0
        have C0 := Lib.hid c0
        clear c0 hv
        go_wp2_with fail
        refine (len_c g o _ _ _ _ C0.out).mono ?_
        rintro e w5 ⟨rfl, rfl⟩
        go_wp2_with fail
        refine (sum_c g o b t cs v l _ (H.out.tch T4.out) (by omega) HK.out).mono ?_
        rintro e w5 ⟨rfl, t5⟩
        have B5 : Hid (Blk w5 w1.heap.size 30 #[.int .i64 x.at_, .int .i64 x.n] ∧ Blk w5 w2.heap.size 30 #[.int .i64 y.at_, .int .i64 y.n]) := ⟨t5.blk (B3.out.1.drewN k4) (fun f => f), t5.blk (B3.out.2.drewN k4) (fun f => f)⟩
        have T5 := Lib.hid (T4.out.and t5)
        clear t5
        obtain ⟨p0, p1⟩ := cells2 B5.out.1
        obtain ⟨q0, q1⟩ := cells2 B5.out.2
        obtain ⟨qq, off, x', hA, _, _, hx', d0, d1⟩ := rd_cl (HR.out.tch T5.out) 0 h0
        obtain ⟨qq', off', y', hA', _, _, hy', f0, f1⟩ := rd_cl (HR.out.tch T5.out) (l.length - 1) (by omega)
        subst hA
        obtain ⟨rfl, rfl⟩ : qq = qq' ∧ off = off' := by simpa using hA'
        have hxx : x' = x := by rw [E3.out.1] at hx'; injection hx' with e; exact e.symm
        have hyy : y' = y := by rw [E3.out.2] at hy'; injection hy' with e; exact e.symm
        subst hxx hyy
        clear hx' hy' hA'
        rw [Nat.zero_mul, Nat.add_zero] at d0 d1
        have hw1 : IntKind.i64.wrap ((l.length : Int) - 1) = (l.length : Int) - 1 := IntWalk.i64_in _ (by omega)
        have hw2 : ((l.length : Int) - 1).toNat = l.length - 1 := by omega
        have hw3 : (1 : Int) ≤ (l.length : Int) := by omega
        have hw4 : (0 : Int) ≤ (l.length : Int) - 1 := by omega
        go_wp2_with fail
        go_quiet (fail)
        go_wp2
        go_returns
        exact ⟨rfl, T5.out.drewN _⟩
end Go.Proofs.Ytppbgkadpomblaa
