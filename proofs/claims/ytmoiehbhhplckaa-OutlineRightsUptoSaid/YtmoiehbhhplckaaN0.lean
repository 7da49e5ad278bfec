/- Plain arithmetic: what sums, products, decimals come to. No program in sight. Conditions: none. -/
import Derived.RowKit
namespace Go.Proofs.Ytmoiehbhhplckaa
set_option linter.unusedVariables false
set_option linter.unusedSimpArgs false
open Go.RowKit

/-- A number of 64 bits with a sign. -/
def Fit (x : Int) : Prop := -9223372036854775808 ≤ x ∧ x ≤ 9223372036854775807
instance (x : Int) : Decidable (Fit x) := by unfold Fit; exact inferInstance

def addV (a b : Int) : Int × Bool := if Fit (a + b) then (a + b, true) else (0, false)
def subV (a b : Int) : Int × Bool := if Fit (a - b) then (a - b, true) else (0, false)
def negV (a : Int) : Int × Bool := if Fit (-a) then (-a, true) else (0, false)
def mulV (a b : Int) : Int × Bool := if Fit (a * b) then (a * b, true) else (0, false)

theorem addV_yes {a b : Int} (h : Fit (a + b)) : a + b = (addV a b).1 ∧ true = (addV a b).2 := by unfold addV; rw [if_pos h]; exact ⟨rfl, rfl⟩
theorem addV_no {a b : Int} (h : ¬ Fit (a + b)) : 0 = (addV a b).1 ∧ false = (addV a b).2 := by unfold addV; rw [if_neg h]; exact ⟨rfl, rfl⟩
theorem subV_yes {a b : Int} (h : Fit (a - b)) : a - b = (subV a b).1 ∧ true = (subV a b).2 := by unfold subV; rw [if_pos h]; exact ⟨rfl, rfl⟩
theorem subV_no {a b : Int} (h : ¬ Fit (a - b)) : 0 = (subV a b).1 ∧ false = (subV a b).2 := by unfold subV; rw [if_neg h]; exact ⟨rfl, rfl⟩
theorem mulV_yes {a b : Int} (h : Fit (a * b)) : a * b = (mulV a b).1 ∧ true = (mulV a b).2 := by unfold mulV; rw [if_pos h]; exact ⟨rfl, rfl⟩
theorem mulV_no {a b : Int} (h : ¬ Fit (a * b)) : 0 = (mulV a b).1 ∧ false = (mulV a b).2 := by unfold mulV; rw [if_neg h]; exact ⟨rfl, rfl⟩
theorem negV_yes {a : Int} (h : Fit (-a)) : -a = (negV a).1 ∧ true = (negV a).2 := by unfold negV; rw [if_pos h]; exact ⟨rfl, rfl⟩
theorem negV_no {a : Int} (h : ¬ Fit (-a)) : 0 = (negV a).1 ∧ false = (negV a).2 := by unfold negV; rw [if_neg h]; exact ⟨rfl, rfl⟩
theorem addV_fit (a b : Int) : Fit (addV a b).1 := by unfold addV; split <;> first | assumption | (unfold Fit; omega)
theorem mulV_fit (a b : Int) : Fit (mulV a b).1 := by unfold mulV; split <;> first | assumption | (unfold Fit; omega)

/-- A product that was wrapped round, divided by a factor, is the other factor just if the product fits. -/
theorem wrapped_quo {a b p k : Int} (hb0 : b ≠ 0) (hp : p = a * b + k * 18446744073709551616) (hp0 : Fit p) (hb : Fit b) (h : Int.tdiv p b = a) : k = 0 := by
  have h1 := Int.mul_tdiv_add_tmod p b
  rw [h] at h1
  have h2 : (Int.tmod p b).natAbs < b.natAbs := by
    rw [Int.natAbs_tmod]
    exact Nat.mod_lt _ (by omega)
  have h3 : Int.tmod p b = k * 18446744073709551616 := by
    have : b * a = a * b := Int.mul_comm _ _
    omega
  unfold Fit at hb
  rw [h3] at h2
  by_cases hk : k = 0
  · exact hk
  · exfalso
    have : 18446744073709551616 ≤ (k * 18446744073709551616).natAbs := by
      rw [Int.natAbs_mul]
      have : 1 ≤ k.natAbs := by omega
      have h18 : Int.natAbs 18446744073709551616 = 18446744073709551616 := rfl
      rw [h18]
      omega
    omega

theorem wrap_form (x : Int) : ∃ k, wrap64 x = x + k * 18446744073709551616 := by
  refine ⟨-((x + 9223372036854775808) / 18446744073709551616), ?_⟩
  unfold wrap64
  omega
theorem wrap_fit (x : Int) : Fit (wrap64 x) := by unfold wrap64 Fit; omega
theorem wrap_of_fit {x : Int} (h : Fit x) : wrap64 x = x := by unfold Fit at h; unfold wrap64; omega
theorem tdiv_fit {p b : Int} (hp : Fit p) (hb : b ≠ 0) (hm : b ≠ -1) : Fit (p.tdiv b) := by
  have h1 : (p.tdiv b).natAbs ≤ p.natAbs / 2 ∨ b = 1 := by
    rw [Int.natAbs_tdiv]
    by_cases h : b = 1
    · exact .inr h
    · exact .inl (Nat.div_le_div_left (by omega) (by omega))
  rcases h1 with h1 | h1
  · unfold Fit at hp ⊢; omega
  · subst h1; rw [Int.tdiv_one]; exact hp
theorem mul_zero_way {a b : Int} (h : a = 0 ∨ b = 0) : 0 = (mulV a b).1 ∧ true = (mulV a b).2 := by
  have h0 : a * b = 0 := by rcases h with h | h <;> simp [h]
  have := mulV_yes (a := a) (b := b) (by rw [h0]; unfold Fit; omega)
  rw [h0] at this
  exact this
theorem mul_neg_way {a b : Int} (h : a = -1) : (negV b).1 = (mulV a b).1 ∧ (negV b).2 = (mulV a b).2 := by
  subst h
  have : mulV (-1) b = negV b := by unfold mulV negV; rw [Int.neg_one_mul]
  rw [this]; exact ⟨rfl, rfl⟩
theorem mul_neg_way2 {a b : Int} (h : b = -1) : (negV a).1 = (mulV a b).1 ∧ (negV a).2 = (mulV a b).2 := by
  subst h
  have : mulV a (-1) = negV a := by unfold mulV negV; rw [Int.mul_neg_one]
  rw [this]; exact ⟨rfl, rfl⟩
theorem mul_yes_way {a b : Int} (ha : Fit a) (hb : Fit b) (h0 : b ≠ 0) (h1 : b ≠ -1) (h : (wrap64 ((wrap64 (a * b)).tdiv b) != a) = false) : wrap64 (a * b) = (mulV a b).1 ∧ true = (mulV a b).2 := by
  obtain ⟨k, hk⟩ := wrap_form (a * b)
  have hf := wrap_fit (a * b)
  rw [wrap_of_fit (tdiv_fit hf h0 h1)] at h
  have h2 : (wrap64 (a * b)).tdiv b = a := by simpa using h
  have h3 := wrapped_quo h0 hk hf hb h2
  subst h3
  have h4 : wrap64 (a * b) = a * b := by omega
  rw [h4] at hf ⊢
  exact mulV_yes hf
theorem mul_no_way {a b : Int} (ha : Fit a) (h0 : b ≠ 0) (h : (wrap64 ((wrap64 (a * b)).tdiv b) != a) = true) : 0 = (mulV a b).1 ∧ false = (mulV a b).2 := by
  refine mulV_no fun hf => ?_
  rw [wrap_of_fit hf, Int.mul_tdiv_cancel _ h0, wrap_of_fit ha] at h
  simp at h


theorem add_wraps {a b : Int} (ha : Fit a) (hb : Fit b) : (wrap64 (a + b) = a + b ∧ Fit (a + b)) ∨ (¬ Fit (a + b) ∧ 0 ≤ a ∧ 0 ≤ b ∧ wrap64 (a + b) < 0) ∨ (¬ Fit (a + b) ∧ a < 0 ∧ b < 0 ∧ 0 ≤ wrap64 (a + b)) := by
  unfold Fit at *; unfold wrap64; omega
theorem sub_wraps {a b : Int} (ha : Fit a) (hb : Fit b) : (wrap64 (a - b) = a - b ∧ Fit (a - b)) ∨ (¬ Fit (a - b) ∧ 0 ≤ a ∧ b < 0 ∧ wrap64 (a - b) < 0) ∨ (¬ Fit (a - b) ∧ a < 0 ∧ 0 ≤ b ∧ 0 ≤ wrap64 (a - b)) := by
  unfold Fit at *; unfold wrap64; omega

/-! ## the size of a number, and products by sizes -/
theorem natAbs_le {a : Int} (h : Fit a) : a.natAbs ≤ 9223372036854775808 := by unfold Fit at h; omega
theorem mul_sizes (a b : Int) : (a * b = (a.natAbs * b.natAbs : Nat) ∧ ((a < 0 ∧ b < 0) ∨ (0 ≤ a ∧ 0 ≤ b))) ∨ (a * b = -((a.natAbs * b.natAbs : Nat) : Int) ∧ ((a < 0 ∧ 0 ≤ b) ∨ (0 ≤ a ∧ b < 0))) := by
  rcases (by omega : a < 0 ∨ 0 ≤ a) with ha | ha <;> rcases (by omega : b < 0 ∨ 0 ≤ b) with hb | hb
  · left
    refine ⟨?_, .inl ⟨ha, hb⟩⟩
    have e1 : (a.natAbs : Int) = -a := by omega
    have e2 : (b.natAbs : Int) = -b := by omega
    rw [Int.natCast_mul, e1, e2, Int.neg_mul_neg]
  · right
    refine ⟨?_, .inl ⟨ha, hb⟩⟩
    have e1 : (a.natAbs : Int) = -a := by omega
    have e2 : (b.natAbs : Int) = b := by omega
    rw [Int.natCast_mul, e1, e2, Int.neg_mul, Int.neg_neg]
  · right
    refine ⟨?_, .inr ⟨ha, hb⟩⟩
    have e1 : (a.natAbs : Int) = a := by omega
    have e2 : (b.natAbs : Int) = -b := by omega
    rw [Int.natCast_mul, e1, e2, Int.mul_neg, Int.neg_neg]
  · left
    refine ⟨?_, .inr ⟨ha, hb⟩⟩
    have e1 : (a.natAbs : Int) = a := by omega
    have e2 : (b.natAbs : Int) = b := by omega
    rw [Int.natCast_mul, e1, e2]

/-! ## decimals -/
/-- The digit d. -/
def dgt (d : Nat) : UInt8 := (48 + d).toUInt8
def digs (n : Nat) : List UInt8 := if n < 10 then [dgt n] else digs (n / 10) ++ [dgt (n % 10)]
decreasing_by omega
theorem digs_lt {n : Nat} (h : n < 10) : digs n = [dgt n] := by rw [digs, if_pos h]
theorem digs_ge {n : Nat} (h : ¬ n < 10) : digs n = digs (n / 10) ++ [dgt (n % 10)] := by rw [digs, if_neg h]
/-- digits of a number, none of 0. -/
def digs0 (n : Nat) : List UInt8 := if n = 0 then [] else digs n
theorem digs0_step {n : Nat} (h : n ≠ 0) (r : List UInt8) : digs0 (n / 10) ++ (dgt (n % 10) :: r) = digs0 n ++ r := by
  unfold digs0
  rw [if_neg h]
  by_cases h1 : n < 10
  · rw [if_pos (by omega), digs_lt h1, show n % 10 = n by omega]; rfl
  · rw [if_neg (by omega), digs_ge h1, List.append_assoc]; rfl
def decL (n : Int) : List UInt8 := if n < 0 then 45 :: digs n.natAbs else digs n.natAbs
theorem digs_len (n : Nat) (k : Nat) (h : n < 10 ^ (k + 1)) : (digs n).length ≤ k + 1 := by
  induction k generalizing n with
  | zero => rw [digs_lt (by omega)]; simp
  | succ k ih =>
    by_cases h1 : n < 10
    · rw [digs_lt h1]; simp
    · rw [digs_ge h1]
      have := ih (n / 10) (by rw [Nat.pow_succ] at h; omega)
      simp; omega
end Go.Proofs.Ytmoiehbhhplckaa
