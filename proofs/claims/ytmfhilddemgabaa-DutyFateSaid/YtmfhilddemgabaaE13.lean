/- The duty law's package: alive. Conditions: none. -/
import Derived.Test.YtmfhilddemgabaaProg
import Derived.Test.YtmfhilddemgabaaE12
import Derived.Tactics
import Derived.Tactics2
import Derived.WalkKit
import Derived.WalkSpells
import Derived.WalkLawsBesides
import Derived.StillTactics
import Derived.StillTailTactics
import Derived.OwnWalk
import Derived.Laws.Pointers
import Derived.Laws.ResultCell
import Derived.Deep.RegionHeld3
import Derived.Deep.RegionWith
import Derived.Deep.RegionLaw
import Derived.Deep.AppendLies
import Derived.Deep.QuietTactic
import Derived.BigQuiet
import Derived.LoopTactic
import Derived.Deep.LoopGhost
import Derived.Deep.DeepCutAuto
import Derived.Deep.DeepFit
import Derived.Maps.AppendAt
import Derived.Below
import Derived.Lib.Hide
import Derived.Handy
import Derived.KernelRfl
namespace Go.Proofs.Ytmfhilddemgabaa
set_option linter.unusedVariables false
set_option linter.unusedSimpArgs false
open Go.RowKit

def zA : Ins := ⟨1, 0, ⟨#[97]⟩, 5, false, 0⟩
def zB : Ins := ⟨1, 0, ⟨#[98]⟩, 5, false, 0⟩
def z1 : List Ins := [⟨1, 0, ⟨#[97]⟩, 5, false, 1⟩]
def z2 : List Ins := [⟨1, 0, ⟨#[97]⟩, 5, false, 1⟩, ⟨1, 0, ⟨#[98]⟩, 5, false, 1⟩]
def z3 : List Ins := [⟨1, 0, ⟨#[97]⟩, 5, false, 2⟩, ⟨1, 0, ⟨#[98]⟩, 5, false, 1⟩]
def z4 : List Ins := [⟨1, 0, ⟨#[97]⟩, 5, false, 2⟩, ⟨1, 0, ⟨#[98]⟩, 5, false, 3⟩]
def h4 : List Ins := [⟨1, 0, ⟨#[98]⟩, 5, false, 3⟩]
theorem z_a : ([] : List Ins) ++ [{ zA with state := 1 }] = z1 := rfl
theorem z_b : z1 ++ [{ zB with state := 1 }] = z2 := rfl
theorem z_c : turnL 2 (pF 1 ⟨#[97]⟩ 5) z2 = z3 := by kernel_rfl
theorem z_d : (hitsL 2 (pF 1 ⟨#[97]⟩ 5) z2).length = 1 := by kernel_rfl
theorem z_e : turnL 3 (pE 6) z3 = z4 := by kernel_rfl
theorem z_f : hitsL 3 (pE 6) z3 = h4 := by kernel_rfl
theorem z_g : pend z4 1 = 0 := by kernel_rfl

/-- A new table. -/
theorem tab_new (w : World) (b : Nat) : Tab (w.alloc (.cells #[.slice none 0 0] 30)) w.heap.size b (.slice none 0 0) [] := ⟨Blk.new w 30 _, World.ownsRow_nil ..⟩
/-- It says yes, and touches nothing that was there. -/
def YesNo (w : World) (e : Ending) (w' : World) : Prop := e = .returned (.bool true) ∧ Tch No w w'

/-- What is touched of a table that lies above B. -/
theorem foot_no {w0 w w' : World} {g b : Nat} {v : Value} {l : List Ins} (h0 : Tch No w0 w) (ht : Tab w g b v l) (hg : w0.heap.size ≤ g) (hb : w0.heap.size ≤ b) (t : Tch (Foot g v) w w') : Tch No w0 w' :=
  h0.trans t fun i f => by
    rcases f with f | f
    · right; omega
    · right; have := own_base ht.2 i f; omega

set_option maxHeartbeats 1600000 in
theorem alive_c (w : World) : Calls Try.prog 12 #[] w (YesNo w) := by
  have T0 : Hid (Tab (w.alloc (.cells #[.slice none 0 0] 30)) w.heap.size w.heap.size (.slice none 0 0) []) := tab_new w _
  have N0 : Hid (Tch No w (w.alloc (.cells #[.slice none 0 0] 30))) := (Tch.refl No w).alloc _
  go_enter Try.func12, Try.ntmps12
  go_wp2_with (first
    | (go_at_call 14; refine (add_c w.heap.size w.heap.size _ z1 zB _ T1.out b1 (by decide)).mono ?_; rintro e w2 ⟨rfl, a2, c2, ht2, t2, hat2⟩; have n2 := foot_no N1.out T1.out (Nat.le_refl _) (Nat.le_refl _) t2; have N2 := Lib.hid n2; have T2 : Hid (Tab w2 w.heap.size w.heap.size (.slice (some ⟨a2, 0, none⟩) 2 c2) z2) := ht2; have L1 : Hid ((z1.length : Int) = 1) := (rfl : (z1.length : Int) = 1); rw [L1.out]; clear ht2 t2 hat2 n2)
    | (go_at_call 14; refine (add_c w.heap.size w.heap.size (.slice none 0 0) [] zA _ T0.out (by simp) (by simp)).mono ?_; rintro e w1 ⟨rfl, a1, c1, ht1, t1, hat1⟩; have n1 := foot_no N0.out T0.out (Nat.le_refl _) (Nat.le_refl _) t1; have N1 := Lib.hid n1; have T1 : Hid (Tab w1 w.heap.size w.heap.size (.slice (some ⟨a1, 0, none⟩) 1 c1) z1) := ht1; have b1 := n1.size; clear ht1 t1 hat1 n1)
    | (go_at_call 16; refine (fulfil_c w.heap.size w.heap.size _ z2 1 ⟨#[97]⟩ 5 _ T2.out (by decide)).mono ?_; rintro e w3 ⟨rfl, ht3, t3⟩; rw [z_c] at ht3; rw [z_d]; have n3 := foot_no N2.out T2.out (Nat.le_refl _) (Nat.le_refl _) t3; have N3 := Lib.hid n3; have T3 := Lib.hid ht3; clear ht3 t3 n3)
    | (go_at_call 15; refine (expire_c w.heap.size w.heap.size _ z3 6 _ T3.out (by decide)).mono ?_; rintro e w4 ⟨A4, c4, rfl, ho4, ht4, t4⟩; rw [z_e] at ht4; rw [z_f] at ho4; rw [z_f]; have n4 := foot_no N3.out T3.out (Nat.le_refl _) (Nat.le_refl _) t4; have N4 := Lib.hid n4; have T4 := Lib.hid ht4; obtain ⟨a4, c5, e4, _, _⟩ := ho4.form (by decide); injection e4 with e4 _ e5; subst e4; subst e5; have d2 := own_cell ho4 2 _ rfl; have d5 := own_cell ho4 5 _ rfl; have L4 : Hid (h4.length = 1) := (rfl : h4.length = 1); rw [L4.out]; clear ho4 ht4 t4 n4)
    | (go_at_call 33; go_must (refine (pending_c w.heap.size w.heap.size _ z4 1 _ T4.out (by decide)).mono ?_); rintro e w5 ⟨rfl, t5⟩; rw [z_g]))
  go_returns
  exact ⟨rfl, N4.out.and t5⟩

/-- The beginning of a run on a new table. -/
theorem alike_new (w : World) : Alike No w.heap.size w.heap.size (.slice none 0 0) [] (w.alloc (.cells #[.slice none 0 0] 30)) none 0 (.slice none 0 0) (w.alloc (.cells #[.slice none 0 0] 30)) :=
  ⟨fun _ => ⟨rfl, rfl⟩, tab_new w _, Rd.nil, Tch.refl _ _, fun k hk => .inl hk⟩
theorem ops_new {w w1 : World} {A : Option Addr} {n : Nat} {xs : List Opp} (h : Rd w No 8 A n (orows xs)) (t : Tch No w w1) : Rd (w1.alloc (.cells #[.slice none 0 0] 30)) (Foot w1.heap.size (.slice none 0 0)) 8 A n (orows xs) := by
  have h1 := h.tch t
  obtain ⟨hl, hc⟩ := h1
  refine ⟨hl, fun hp => ?_⟩
  obtain ⟨g, off, hA, _, hlt, hcell⟩ := hc hp
  refine ⟨g, off, hA, ?_, by simp; omega, fun j u hu => ?_⟩
  · rintro (f | f)
    · omega
    · simp [Value.ownBlock] at f
  · exact ((Tch.refl No w1).alloc (.cells #[.slice none 0 0] 30)).cell (fun f => f) (hcell j u hu)

set_option maxHeartbeats 1600000 in
theorem runs_walk (A : Option Addr) (n c : Nat) (w : World) (h : n ≤ c) (hm : c ≤ 9223372036854775807) (xs : List Opp) (hr : Rd w No 8 A n (orows xs)) :
    Calls Try.prog 8 #[.slice A n c] w fun e w' => e = .returned (.bool true) ∧ Below w.heap.size w w' := by
  have HR := Lib.hid hr
  have hf := (few60_le n).1
  clear hr
  go_enter Try.func8, Try.ntmps8
  go_wp2_with (go_at_call 12; refine (alive_c w).mono ?_; rintro e w1 ⟨rfl, t1⟩; have T1 := Lib.hid t1; clear t1)
  refine (few_c No A n c xs _ h hm (HR.out.tch (T1.out.and ((Tch.refl No w1).alloc _)))).mono ?_
  rintro e w2 ⟨rfl, rfl⟩
  have ho := ops_new (few_rd HR.out) T1.out
  have HO := Lib.hid ho
  have hal := alike_new w1
  have AL := Lib.hid hal
  clear ho hal
  go_wp2_with (go_at_call 29; go_must (refine (run_c No w1.heap.size w1.heap.size (.slice none 0 0) [] none 0 A (few60 n) c _ _ AL.out (fun _ f => f.elim) (by simp) HO.out (by simp; omega)).mono ?_); rintro e w3 ⟨A3, c3, v3, rfl, _, _, _, t3, _⟩)
  go_returns
  refine ⟨rfl, Tch.noBelow ((T1.out.alloc _).trans t3 ?_)⟩
  rintro i (f | f)
  · exact .inr (by have := T1.out.size; omega)
  · simp [Value.ownBlock] at f
end Go.Proofs.Ytmfhilddemgabaa
