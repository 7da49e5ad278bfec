/- Contracts. -/
import Derived.Test.YtppbgkadpomblaaProg
import Derived.Test.YtppbgkadpomblaaA11
import Derived.Tactics
import Derived.Tactics2
import Derived.WalkKit
import Derived.WalkSpells
import Derived.WalkLawsBesides
import Derived.StillTactics
import Derived.StillTailTactics
import Derived.OwnWalk
import Derived.Laws.Pointers
import Derived.Laws.ResultCell
import Derived.Deep.RegionHeld3
import Derived.Deep.RegionWith
import Derived.Deep.RegionLaw
import Derived.Deep.AppendLies
import Derived.Deep.QuietTactic
import Derived.BigQuiet
import Derived.LoopTactic
import Derived.Deep.LoopGhost
import Derived.Deep.DeepCutAuto
import Derived.Deep.DeepFit
import Derived.Maps.AppendAt
import Derived.Below
import Derived.Lib.Hide
import Derived.Handy
import Derived.KernelRfl
import Derived.IntWalk
import Derived.Laws.AppendOwnNone
import Derived.Laws.IdiomStrings
namespace Go.Proofs.Ytppbgkadpomblaa
set_option linter.unusedVariables false
set_option linter.unusedSimpArgs false
open Go.RowKit

/-! ## two deques -/
theorem foot_clone {w2 w3 : World} {gk : Nat} {vk : Value} {l : List Cl} (hd : DqN w3 gk w2.heap.size vk l) (hg : w2.heap.size ≤ gk) : ∀ k, Foot gk vk k → w2.heap.size ≤ k ∧ k < w3.heap.size := by
  rintro k (f | f)
  · rw [f]; exact ⟨hg, hd.lt⟩
  · exact ⟨own_base hd.own k f, own_lt hd.own k f⟩
theorem clone_alike {w0 w2 w3 : World} {g b gk c1 : Nat} {v v1 vk : Value} {l1 : List Cl} {A1 : Option Addr} (h1 : Alike No g b v l1 w0 A1 c1 v1 w2) (hd : DqN w3 gk w2.heap.size vk l1) (hg : w2.heap.size ≤ gk) (t : Tch No w2 w3) :
    Alike (Foot gk vk) g b v1 l1 w3 A1 c1 v1 w3 := by
  refine ⟨h1.1, h1.2.1.tch t, ?_, Tch.refl _ _, fun k hk => .inl hk⟩
  have hf := foot_clone hd hg
  have r2 : Rd w2 (FF g v1 (Foot gk vk)) 2 A1 l1.length (crows l1) := h1.2.2.1.mono (fun k hk f => by
    rcases f with f | f
    · exact .inl f
    · have := hf k f; omega)
  exact r2.tch t.no
theorem other_alike {w2 w3 w4 : World} {g b gk bk c1 c2 : Nat} {v1 v2 vk : Value} {l1 l2 : List Cl} {A1 A2 : Option Addr} (h1 : Alike (Foot gk vk) g b v1 l1 w3 A1 c1 v1 w3) (hgl : g < w2.heap.size) (hvl : ∀ k, v1.ownBlock = some k → k < w2.heap.size) (hf : ∀ k, Foot gk vk k → w2.heap.size ≤ k ∧ k < w3.heap.size)
    (hd : DqN w3 gk bk vk l1) (h2 : Alike (Foot gk vk) g b v1 l2 w3 A2 c2 v2 w4) : Alike (Foot g v2) gk bk vk l1 w4 A1 c1 vk w4 := by
  have hdis : ∀ k, Foot gk vk k → ¬ Foot g v1 k := fun k fk f => by
    have := hf k fk
    rcases f with f | f
    · omega
    · have := hvl k f; omega
  refine ⟨h1.1, hd.tchS h2.2.2.2.1 (hdis gk (.inl rfl)) (fun i hi => hdis i (.inr hi)), ?_, Tch.refl _ _, fun k hk => .inl hk⟩
  have r3 : Rd w3 (fun k => FF gk vk (Foot g v2) k ∨ Foot g v1 k) 2 A1 l1.length (crows l1) := h1.2.2.1.mono (fun k hk f => by
    rcases f with (f | f | f) | f
    · exact .inr f
    · exact .inl (.inl f)
    · rcases h2.2.2.2.2 k f with h | h
      · exact .inl (.inr h)
      · omega
    · exact .inl f)
  have r4 := r3.tch (h2.2.2.2.1.mono (fun i hi => .inl (.inr hi)))
  exact r4.mono (fun k hk f => .inl f)
theorem back_alike {w2 w3 w4 w5 : World} {g b gk bk c2 c3 : Nat} {v1 v2 v3 vk : Value} {l2 l3 : List Cl} {A2 A3 : Option Addr} (hgl : g < w2.heap.size) (hvl : ∀ k, v1.ownBlock = some k → k < w2.heap.size) (hf : ∀ k, Foot gk vk k → w2.heap.size ≤ k ∧ k < w3.heap.size)
    (h2 : Alike (Foot gk vk) g b v1 l2 w3 A2 c2 v2 w4) (h3 : Alike (Foot g v2) gk bk vk l3 w4 A3 c3 v3 w5) : DqN w5 g b v2 l2 ∧ Rd w5 No 2 A2 l2.length (crows l2) := by
  have hdis : ∀ k, Foot g v2 k → ¬ Foot gk vk k := fun k f fk => by
    have := hf k fk
    rcases f with f | f
    · omega
    · rcases h2.2.2.2.2 k f with h | h
      · have := hvl k h; omega
      · omega
  refine ⟨h2.2.1.tchS h3.2.2.2.1 (hdis g (.inl rfl)) (fun i hi => hdis i (.inr hi)), ?_⟩
  have r4 := h2.2.2.1.tch (h3.2.2.2.1.mono (fun i hi => .inl (.inr hi)))
  exact r4.mono (fun k hk f => f.elim)
theorem ops_in {w w1 : World} {S : Nat → Prop} {A : Option Addr} {n : Nat} {xs : List Opp} (h : Rd w No 2 A n (xs.flatMap ocells)) (t : Tch No w w1) (hS : ∀ k, S k → w.heap.size ≤ k) : Rd w1 S 2 A n (xs.flatMap ocells) := by
  obtain ⟨hl, hc⟩ := h
  refine ⟨hl, fun hp => ?_⟩
  obtain ⟨g, off, hA, _, hlt, hcell⟩ := hc hp
  exact ⟨g, off, hA, fun f => by have := hS g f; omega, by have := t.size; omega, fun j u hu => t.cell (fun f => f) (hcell j u hu)⟩
theorem tch_up {S : Nat → Prop} {w0 a b : World} (h0 : Tch No w0 a) (t : Tch S a b) (hS : ∀ k, S k → w0.heap.size ≤ k) : Tch No w0 b := h0.trans t fun k hk => .inr (hS k hk)
theorem few_good (n : Nat) (xs : List Opp) : Good 80 (runL [] (xs.take (few80 n))) := by
  have h := good_run good_nil (xs.take (few80 n)) (by have := (few80_le n).1; simp; omega)
  have h1 : (xs.take (few80 n)).length ≤ 80 := by have := (few80_le n).1; simp; omega
  exact ⟨h.up, fun x hx => by have := h.ok x hx; omega, by have := h.len; omega⟩

set_option maxHeartbeats 3200000 in
set_option maxRecDepth 100000 in
theorem clones_walk (A : Option Addr) (n c : Nat) (A' : Option Addr) (n' c' : Nat) (A'' : Option Addr) (n'' c'' : Nat) (w : World) (h : n ≤ c) (hm : c ≤ 9223372036854775807) (xs : List Opp) (hr : Rd w No 2 A n (xs.flatMap ocells) ∧ ∀ x ∈ xs, (Fit x.kind ∧ Fit x.at_))
    (h' : n' ≤ c') (hm' : c' ≤ 9223372036854775807) (xs' : List Opp) (hr' : Rd w No 2 A' n' (xs'.flatMap ocells) ∧ ∀ x ∈ xs', (Fit x.kind ∧ Fit x.at_))
    (h'' : n'' ≤ c'') (hm'' : c'' ≤ 9223372036854775807) (xs'' : List Opp) (hr'' : Rd w No 2 A'' n'' (xs''.flatMap ocells) ∧ ∀ x ∈ xs'', (Fit x.kind ∧ Fit x.at_)) :
    Calls Try.prog 5 #[.slice A n c, .slice A' n' c', .slice A'' n'' c''] w fun e w' => e = .returned (.bool true) ∧ Below w.heap.size w w' := by
  have HR := Lib.hid hr.1
  have HR' := Lib.hid hr'.1
  have HR'' := Lib.hid hr''.1
  have hf := (few80_le n).1
  have hf' := (few80_le n').1
  have hf'' := (few80_le n'').1
  have G1 := Lib.hid (few_good n xs)
  have hl1 := (few_good n xs).len
  clear hr hr' hr''
  go_enter Try.func5, Try.ntmps5
  go_wp2_with fail
  refine (alive_c w).mono ?_
  rintro e w1 ⟨rfl, t1⟩
  have T1 := Lib.hid t1
  clear t1
  go_wp2_with fail
  refine (few_c No A n c xs _ h hm (HR.out.tch (T1.out.and ((Tch.refl No w1).alloc _)))).mono ?_
  rintro e w2 ⟨rfl, rfl⟩
  have HO := Lib.hid (ops_new (few_rd HR.out) T1.out)
  have AL := Lib.hid (alike_new No w1)
  go_wp2_with fail
  refine (run_c No w1.heap.size w1.heap.size (.slice none 0 0) [] none 0 A (few80 n) c _ _ AL.out (fun _ f => f.elim) (by simp) HO.out 0 good_nil (by omega)).mono ?_
  rintro e w2 ⟨A1, c1, v1, rfl, al1⟩
  generalize runL [] (xs.take (few80 n)) = l1 at *
  have AL1 : Hid (Alike No w1.heap.size w1.heap.size (.slice none 0 0) l1 (w1.alloc (.cells #[.slice none 0 0] 26)) A1 c1 v1 w2) := al1
  have T2 : Hid (Tch No w w2) := tch_up (T1.out.alloc _) al1.2.2.2.1 (by
    rintro k (f | f)
    · have := T1.out.size; omega
    · simp [Value.ownBlock] at f)
  have hgl := al1.2.1.lt
  have HVL := Lib.hid (own_lt al1.2.1.own)
  have hw1 := T1.out.size
  clear al1
  go_wp2_with fail
  refine (dclone_c w1.heap.size 0 w1.heap.size 26 #[v1] v1 l1 _ AL1.out.2.1 (by omega)).mono ?_
  rintro e w3 ⟨gk, vk, rfl, hgk, dk, t3⟩
  have DK : Hid (DqN w3 gk w2.heap.size vk l1) := dk
  have AC := Lib.hid (clone_alike AL1.out dk hgk t3)
  have FC := Lib.hid (foot_clone DK.out hgk)
  have T3 := Lib.hid (T2.out.and t3)
  have hw3 := t3.size
  clear dk t3
  go_wp2_with fail
  refine (few_c No A' n' c' xs' _ h' hm' (HR'.out.tch T3.out)).mono ?_
  rintro e w4 ⟨rfl, rfl⟩
  have hO' := ops_in (S := Foot w1.heap.size v1) (few_rd HR'.out) T3.out (by
    rintro k (f | f)
    · omega
    · have := own_base AL1.out.2.1.own k f; omega)
  have HO' := Lib.hid hO'
  clear hO'
  go_wp2_with fail
  refine (run_c (Foot gk vk) w1.heap.size w1.heap.size v1 l1 A1 c1 A' (few80 n') c' _ _ AC.out (fun k f => (FC.out k f).2) (by omega) HO'.out 80 G1.out (by omega)).mono ?_
  rintro e w4 ⟨A2, c2, v2, rfl, al2⟩
  have hG2 := good_run G1.out (xs'.take (few80 n')) (by simp; omega)
  have hlen2 : (xs'.take (few80 n')).length ≤ 80 := by simp; omega
  generalize runL l1 (xs'.take (few80 n')) = l2 at *
  have AL2 : Hid (Alike (Foot gk vk) w1.heap.size w1.heap.size v1 l2 w3 A2 c2 v2 w4) := al2
  have AO := Lib.hid (other_alike AC.out hgl HVL.out FC.out DK.out al2)
  have T4 : Hid (Tch No w w4) := tch_up T3.out al2.2.2.2.1 (by
    rintro k (f | f)
    · omega
    · have := own_base AL1.out.2.1.own k f; omega)
  have hw4 := al2.2.2.2.1.size
  have G2 := Lib.hid hG2
  have hl2 := hG2.len
  have HV2 := Lib.hid (own_lt al2.2.1.own)
  have hg4 := al2.2.1.lt
  clear al2 hG2
  go_wp2_with fail
  refine (few_c No A'' n'' c'' xs'' _ h'' hm'' (HR''.out.tch T4.out)).mono ?_
  rintro e w5 ⟨rfl, rfl⟩
  have hw2 := T2.out.size
  have hO'' := ops_in (S := Foot gk vk) (few_rd HR''.out) T4.out (fun k f => by have := FC.out k f; omega)
  have HO'' := Lib.hid hO''
  clear hO''
  go_wp2_with fail
  refine (run_c (Foot w1.heap.size v2) gk w2.heap.size vk l1 A1 c1 A'' (few80 n'') c'' _ _ AO.out (by
    rintro k (f | f)
    · omega
    · exact HV2.out k f) (by omega) HO''.out 80 G1.out (by omega)).mono ?_
  rintro e w5 ⟨A3, c3, v3, rfl, al3⟩
  have hG3 := good_run G1.out (xs''.take (few80 n'')) (by simp; omega)
  have hlen3 : (xs''.take (few80 n'')).length ≤ 80 := by simp; omega
  generalize runL l1 (xs''.take (few80 n'')) = l3 at *
  have AL3 : Hid (Alike (Foot w1.heap.size v2) gk w2.heap.size vk l3 w4 A3 c3 v3 w5) := al3
  have BK := Lib.hid (back_alike hgl HVL.out FC.out AL2.out al3)
  have T5 : Hid (Tch No w w5) := tch_up T4.out al3.2.2.2.1 (fun k f => by have := FC.out k f; omega)
  have G3 := Lib.hid hG3
  have hl3 := hG3.len
  clear al3 hG3
  go_wp2_with fail
  refine (like_c w1.heap.size 0 w1.heap.size 26 #[v2] v2 l2 A2 c2 _ BK.out.1 BK.out.2 (by omega) (G2.out.cells (by omega))).mono ?_
  rintro e w6 ⟨rfl, t6⟩
  have A6 := Lib.hid (alike_no AL3.out t6)
  have T6 := Lib.hid (T5.out.and t6)
  clear t6
  go_wp2_with fail
  refine (like_c gk 0 w2.heap.size 26 #[v3] v3 l3 A3 c3 _ A6.out.2.1 (alike_rd A6.out) (by omega) (G3.out.cells (by omega))).mono ?_
  rintro e w7 ⟨rfl, t7⟩
  go_wp2
  go_returns
  exact ⟨rfl, (T6.out.and t7).noBelow⟩

set_option maxHeartbeats 1600000 in
set_option maxRecDepth 100000 in
theorem like_nil (w : World) : Calls Try.prog 17 #[.pointer none, .slice none 0 0] w (YesNo w) := by
  have z0 : (default : Cl).at_ = 0 := rfl
  have z1 : (default : Cl).n = 0 := rfl
  go_enter Try.func17, Try.ntmps17
  go_wp2_with fail
  go_loop [5, 6] (fun nv iv => nv = .int .i64 0 ∧ iv = .int .i64 0) (fun _ _ => 0)
  case atStart => exact ⟨rfl, rfl⟩
  case round =>
    obtain ⟨rfl, rfl⟩ := hrel
    go_wp2_with fail
    refine (first_nil _).mono ?_
    rintro e w1 ⟨rfl, t1⟩
    dsimp only [Option.getD, Option.isSome]
    have T1 := Lib.hid t1
    clear t1
    go_wp2_with fail
    refine (last_nil _).mono ?_
    rintro e w2 ⟨rfl, t2⟩
    dsimp only [Option.getD, Option.isSome]
    have B1 : Hid (Blk w2 w1.heap.size 30 #[.int .i64 0, .int .i64 0]) := t2.blk (Blk.new w1 30 _) (fun f => f)
    have T2 := Lib.hid ((T1.out.alloc _).and t2)
    clear t2
    go_wp2_with fail
    refine (all_nil _).mono ?_
    rintro e w3 ⟨rfl, rfl⟩
    have B2 : Hid (Blk (w2.alloc (.cells #[.int .i64 0, .int .i64 0] 30)) w1.heap.size 30 #[.int .i64 0, .int .i64 0] ∧ Blk (w2.alloc (.cells #[.int .i64 0, .int .i64 0] 30)) w2.heap.size 30 #[.int .i64 0, .int .i64 0]) := ⟨B1.out.alloc _, Blk.new w2 30 _⟩
    have T3 : Hid (Tch No w (w2.alloc (.cells #[.int .i64 0, .int .i64 0] 30))) := T2.out.alloc _
    go_wp2_with fail
    refine (same_c No none none 0 0 0 [] _ Rd.nil Rd.nil (by omega)).mono ?_
    rintro e w4 ⟨rfl, k4, rfl⟩
    go_wp2_with fail
    refine (len_nil _).mono ?_
    rintro e w5 ⟨rfl, rfl⟩
    go_wp2_with fail
    refine (sum_nil _).mono ?_
    rintro e w5 ⟨rfl, rfl⟩
    obtain ⟨p0, p1⟩ := cells2 (B2.out.1.drewN k4)
    obtain ⟨q0, q1⟩ := cells2 (B2.out.2.drewN k4)
    go_wp2
    go_returns
    exact ⟨rfl, T3.out.drewN k4⟩

set_option maxHeartbeats 1600000 in
theorem nobody_walk (at_ : Int) (w : World) (h0 : -9223372036854775808 ≤ at_) (h1 : at_ ≤ 9223372036854775807) : Calls Try.prog 6 #[.int .i64 at_] w fun e w' => e = .returned (.bool true) ∧ Below w.heap.size w w' := by
  go_enter Try.func6, Try.ntmps6
  go_wp2_with fail
  refine (alive_c w).mono ?_
  rintro e w1 ⟨rfl, t1⟩
  have T1 := Lib.hid t1
  clear t1
  go_wp2_with fail
  refine (clear_nil _).mono ?_
  rintro e w2 ⟨rfl, rfl⟩
  go_wp2_with fail
  refine (push_nil at_ _).mono ?_
  rintro e w2 ⟨rfl, t2⟩
  have T2 := Lib.hid (T1.out.and t2)
  clear t2
  go_wp2_with fail
  refine (prune_nil at_ _).mono ?_
  rintro e w3 ⟨rfl, rfl⟩
  go_wp2_with fail
  refine (like_nil _).mono ?_
  rintro e w3 ⟨rfl, t3⟩
  have T3 := Lib.hid (T2.out.and t3)
  clear t3
  go_wp2_with fail
  refine (dclone_nil _).mono ?_
  rintro e w4 ⟨rfl, rfl⟩
  go_wp2
  go_returns
  exact ⟨rfl, T3.out.noBelow⟩
end Go.Proofs.Ytppbgkadpomblaa
