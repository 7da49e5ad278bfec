/- The deque law's package: few; what scripts make of a list. -/
import Derived.Test.YtppbgkadpomblaaProg
import Derived.Test.YtppbgkadpomblaaO1
import Derived.Tactics
import Derived.Tactics2
import Derived.WalkKit
import Derived.WalkSpells
import Derived.WalkLawsBesides
import Derived.StillTactics
import Derived.StillTailTactics
import Derived.OwnWalk
import Derived.Laws.Pointers
import Derived.Laws.ResultCell
import Derived.Deep.RegionHeld3
import Derived.Deep.RegionWith
import Derived.Deep.RegionLaw
import Derived.Deep.AppendLies
import Derived.Deep.QuietTactic
import Derived.BigQuiet
import Derived.LoopTactic
import Derived.Deep.LoopGhost
import Derived.Deep.DeepCutAuto
import Derived.Deep.DeepFit
import Derived.Maps.AppendAt
import Derived.Below
import Derived.Lib.Hide
import Derived.Handy
import Derived.KernelRfl
import Derived.IntWalk
import Derived.Laws.AppendOwnNone
import Derived.Laws.IdiomStrings
namespace Go.Proofs.Ytppbgkadpomblaa
set_option linter.unusedVariables false
set_option linter.unusedSimpArgs false
open Go.RowKit

def few80 (n : Nat) : Nat := if 80 < n then 80 else n
theorem few80_le (n : Nat) : few80 n ≤ 80 ∧ few80 n ≤ n := by unfold few80; split <;> omega
theorem few_c (S : Nat → Prop) (A : Option Addr) (n c : Nat) (l : List Opp) (w : World) (h : n ≤ c) (hm : c ≤ 9223372036854775807) (hr : Rd w S 2 A n (l.flatMap ocells)) :
    Calls Try.prog 19 #[.slice A n c] w fun e w' => e = .returned (.slice A (few80 n) c) ∧ w = w' := by
  by_cases h5 : 80 < n
  · obtain ⟨g, off, hA, _⟩ := hr.2 (by omega)
    subst hA
    clear hr
    go_enter Try.func19, Try.ntmps19
    go_wp2
    go_returns
    rw [show few80 n = 80 from if_pos h5]
    exact ⟨rfl, rfl⟩
  · clear hr
    go_enter Try.func19, Try.ntmps19
    go_wp2
    go_returns
    rw [show few80 n = n from if_neg h5]
    exact ⟨rfl, rfl⟩
theorem few_rd {S : Nat → Prop} {A : Option Addr} {n : Nat} {l : List Opp} {w : World} (hr : Rd w S 2 A n (l.flatMap ocells)) : Rd w S 2 A (few80 n) ((l.take (few80 n)).flatMap ocells) := by
  have hl : l.length = n := by have := hr.1; rw [flat_length ocells_length] at this; omega
  have := hr.take (few80_le n).2
  rw [flat_take ocells_length l _ (by rw [hl]; exact (few80_le n).2)] at this
  exact this

/-! ## what the page's list becomes -/
/-- The times rise, and each count is between 1 and so much. -/
def Up : List Cl → Prop
  | [] => True
  | [x] => True
  | x :: y :: l => x.at_ < y.at_ ∧ Up (y :: l)
structure Good (k : Nat) (l : List Cl) : Prop where
  up : Up l
  ok : ∀ x ∈ l, 0 ≤ x.n ∧ x.n ≤ k
  len : l.length ≤ k
theorem Good.cells {k : Nat} {l : List Cl} (h : Good k l) (hk : k ≤ 32768) : CellsOk l := fun x hx => by have := h.ok x hx; omega
theorem up_drop {l : List Cl} (h : Up l) (k : Nat) : Up (l.drop k) := by
  induction k generalizing l with
  | zero => exact h
  | succ k ih =>
    cases l with
    | nil => exact h
    | cons x l =>
      rw [List.drop_succ_cons]
      refine ih ?_
      cases l with
      | nil => trivial
      | cons y l => exact h.2
theorem up_snoc {l : List Cl} {x : Cl} (h : Up l) (hx : ∀ y, l.getLast? = some y → y.at_ < x.at_) : Up (l ++ [x]) := by
  induction l with
  | nil => trivial
  | cons a l ih =>
    cases l with
    | nil => exact ⟨hx a rfl, trivial⟩
    | cons b l =>
      refine ⟨h.1, ih h.2 (fun y hy => hx y ?_)⟩
      rw [List.getLast?_cons_cons]; exact hy
theorem up_last {p : List Cl} {x y : Cl} (h : Up (p ++ [x])) (e : x.at_ = y.at_) : Up (p ++ [y]) := by
  induction p with
  | nil => trivial
  | cons a p ih =>
    cases p with
    | nil => exact ⟨by have := h.1; omega, trivial⟩
    | cons b p => exact ⟨h.1, ih h.2⟩
/-- Of rising times those below a bound stand ahead. -/
theorem up_filter {l : List Cl} (h : Up l) (f : Int) : l.filter (fun x => decide (f ≤ x.at_)) = pruneL l f := by
  unfold pruneL cutN
  induction l with
  | nil => rfl
  | cons x l ih =>
    have hl : Up l := by have := up_drop h 1; simpa using this
    by_cases hx : x.at_ < f
    · rw [List.takeWhile_cons_of_pos (by simpa using hx), List.length_cons, List.drop_succ_cons, List.filter_cons_of_neg (by simp; omega)]
      exact ih hl
    · rw [List.takeWhile_cons_of_neg (by simpa using hx), List.length_nil, List.drop_zero, List.filter_cons_of_pos (by simp; omega)]
      congr 1
      apply List.filter_eq_self.2
      intro y hy
      have : ∀ (l : List Cl) (x : Cl), Up (x :: l) → ¬ x.at_ < f → ∀ y ∈ l, f ≤ y.at_ := by
        intro l
        induction l with
        | nil => intro x _ _ y hy; cases hy
        | cons z l ih2 =>
          intro x h hx y hy
          have hz : ¬ z.at_ < f := by have := h.1; omega
          rcases List.mem_cons.1 hy with rfl | hy
          · omega
          · exact ih2 z h.2 hz y hy
      simpa using this l x h hx y hy
theorem good_push {k : Nat} {l : List Cl} (h : Good k l) (hk : k < 32768) (t : Int) : Good (k + 1) (pushL l t) := by
  rcases last_split l with rfl | ⟨p, x, rfl⟩
  · refine ⟨trivial, fun x hx => ?_, by simp [pushL]⟩
    simp [pushL] at hx
    subst hx
    simp only
    omega
  · have hx := h.ok x (by simp)
    have hln := h.len
    simp at hln
    rcases (by omega : t < x.at_ ∨ t = x.at_ ∨ x.at_ < t) with h1 | h1 | h1
    · rw [(push_less p x t h1).1]
      exact ⟨h.up, fun y hy => by have := h.ok y hy; omega, by have := h.len; omega⟩
    · rw [(push_same p x t h1).1]
      refine ⟨up_last h.up rfl, fun y hy => ?_, by simp; omega⟩
      rcases List.mem_append.1 hy with hy | hy
      · have := h.ok y (by simp [hy]); omega
      · simp at hy; subst hy; simp only; omega
    · rw [(push_more p x t h1).1]
      refine ⟨up_snoc h.up (fun y hy => by simp at hy; subst hy; exact h1), fun y hy => ?_, by simp; omega⟩
      rcases List.mem_append.1 hy with hy | hy
      · have := h.ok y hy; omega
      · simp at hy; subst hy; simp only; omega
theorem good_prune {k : Nat} {l : List Cl} (h : Good k l) (t : Int) : Good (k + 1) (pruneL l t) :=
  ⟨up_drop h.up _, fun x hx => by have := h.ok x (List.mem_of_mem_drop hx); omega, by unfold pruneL; rw [List.length_drop]; have := h.len; omega⟩
def stepL (l : List Cl) (o : Opp) : List Cl := if o.kind = 1 then pushL l o.at_ else if o.kind = 2 then pruneL l o.at_ else if o.kind = 3 then [] else l
theorem good_step {k : Nat} {l : List Cl} (h : Good k l) (hk : k < 32768) (o : Opp) : Good (k + 1) (stepL l o) := by
  unfold stepL
  split
  · exact good_push h hk _
  · split
    · exact good_prune h _
    · split
      · exact ⟨trivial, fun x hx => (by cases hx), by simp⟩
      · exact ⟨h.up, fun x hx => by have := h.ok x hx; omega, by have := h.len; omega⟩
def runL (l : List Cl) (ops : List Opp) : List Cl := ops.foldl stepL l
theorem runL_succ (l : List Cl) (ops : List Opp) (i : Nat) (o : Opp) (h : ops[i]? = some o) : runL l (ops.take (i + 1)) = stepL (runL l (ops.take i)) o := by
  unfold runL
  rw [take_succ_of h, List.foldl_append]
  rfl
theorem good_run {k : Nat} {l : List Cl} (h : Good k l) (ops : List Opp) (hk : k + ops.length ≤ 32768) : Good (k + ops.length) (runL l ops) := by
  induction ops generalizing l k with
  | nil => exact h
  | cons o ops ih =>
    simp only [List.length_cons] at hk ⊢
    have := ih (good_step h (by omega) o) (by omega)
    rw [show k + (ops.length + 1) = k + 1 + ops.length by omega]
    exact this
end Go.Proofs.Ytppbgkadpomblaa
