/- Plain arithmetic of the quota layer: what sums, products and buckets come to. No program in sight. Conditions: none. -/
namespace Go.Proofs.Ytmfhilddemgabaa
set_option linter.unusedVariables false
set_option linter.unusedSimpArgs false

/-- A number of 64 bits with a sign. -/
def Fit (x : Int) : Prop := -9223372036854775808 ≤ x ∧ x ≤ 9223372036854775807
instance (x : Int) : Decidable (Fit x) := by unfold Fit; exact inferInstance

def addV (a b : Int) : Int × Bool := if Fit (a + b) then (a + b, true) else (0, false)
def subV (a b : Int) : Int × Bool := if Fit (a - b) then (a - b, true) else (0, false)
def negV (a : Int) : Int × Bool := if Fit (-a) then (-a, true) else (0, false)
def mulV (a b : Int) : Int × Bool := if Fit (a * b) then (a * b, true) else (0, false)

theorem addV_yes {a b : Int} (h : Fit (a + b)) : a + b = (addV a b).1 ∧ true = (addV a b).2 := by unfold addV; rw [if_pos h]; exact ⟨rfl, rfl⟩
theorem addV_no {a b : Int} (h : ¬ Fit (a + b)) : 0 = (addV a b).1 ∧ false = (addV a b).2 := by unfold addV; rw [if_neg h]; exact ⟨rfl, rfl⟩
theorem subV_yes {a b : Int} (h : Fit (a - b)) : a - b = (subV a b).1 ∧ true = (subV a b).2 := by unfold subV; rw [if_pos h]; exact ⟨rfl, rfl⟩
theorem subV_no {a b : Int} (h : ¬ Fit (a - b)) : 0 = (subV a b).1 ∧ false = (subV a b).2 := by unfold subV; rw [if_neg h]; exact ⟨rfl, rfl⟩
theorem mulV_yes {a b : Int} (h : Fit (a * b)) : a * b = (mulV a b).1 ∧ true = (mulV a b).2 := by unfold mulV; rw [if_pos h]; exact ⟨rfl, rfl⟩
theorem mulV_no {a b : Int} (h : ¬ Fit (a * b)) : 0 = (mulV a b).1 ∧ false = (mulV a b).2 := by unfold mulV; rw [if_neg h]; exact ⟨rfl, rfl⟩
theorem negV_yes {a : Int} (h : Fit (-a)) : -a = (negV a).1 ∧ true = (negV a).2 := by unfold negV; rw [if_pos h]; exact ⟨rfl, rfl⟩
theorem negV_no {a : Int} (h : ¬ Fit (-a)) : 0 = (negV a).1 ∧ false = (negV a).2 := by unfold negV; rw [if_neg h]; exact ⟨rfl, rfl⟩
theorem addV_fit (a b : Int) : Fit (addV a b).1 := by unfold addV; split <;> first | assumption | (unfold Fit; omega)
theorem mulV_fit (a b : Int) : Fit (mulV a b).1 := by unfold mulV; split <;> first | assumption | (unfold Fit; omega)

/-- A product that was wrapped round, divided by a factor, is the other factor just if the product fits. -/
theorem wrapped_quo {a b p k : Int} (hb0 : b ≠ 0) (hp : p = a * b + k * 18446744073709551616) (hp0 : Fit p) (hb : Fit b) (h : Int.tdiv p b = a) : k = 0 := by
  have h1 := Int.mul_tdiv_add_tmod p b
  rw [h] at h1
  have h2 : (Int.tmod p b).natAbs < b.natAbs := by
    rw [Int.natAbs_tmod]
    exact Nat.mod_lt _ (by omega)
  have h3 : Int.tmod p b = k * 18446744073709551616 := by
    have : b * a = a * b := Int.mul_comm _ _
    omega
  unfold Fit at hb
  rw [h3] at h2
  by_cases hk : k = 0
  · exact hk
  · exfalso
    have : 18446744073709551616 ≤ (k * 18446744073709551616).natAbs := by
      rw [Int.natAbs_mul]
      have : 1 ≤ k.natAbs := by omega
      have h18 : Int.natAbs 18446744073709551616 = 18446744073709551616 := rfl
      rw [h18]
      omega
    omega

/-! ## a bucket -/
structure Bk where
  size : Int
  rate : Int
  have_ : Int
  last : Int

structure Bk.Ok (s : Bk) : Prop where
  s0 : 0 ≤ s.size
  s1 : s.size ≤ 2147483648
  r0 : 0 ≤ s.rate
  r1 : s.rate ≤ 2147483648
  h0 : 0 ≤ s.have_
  h1 : s.have_ ≤ s.size
  l0 : 0 ≤ s.last
  l1 : s.last ≤ 9223372036854775807

def tillV (s : Bk) (n : Int) : Int × Bool :=
  if n < 0 ∨ s.size < n then (0, false) else if n ≤ s.have_ then (0, true) else if s.rate = 0 then (0, false) else ((n - s.have_ + s.rate - 1) / s.rate, true)

/-- How much is there, k behind the last time. -/
def afterV (s : Bk) (k : Int) : Int := min s.size (s.have_ + s.rate * k)
def laterV (s : Bk) (at_ : Int) : Int := max at_ s.last
def atV (s : Bk) (at_ : Int) : Int := afterV s (laterV s at_ - s.last)
def takeS (s : Bk) (at_ n : Int) : Bk :=
  { s with have_ := if 0 ≤ n ∧ n ≤ atV s at_ then atV s at_ - n else atV s at_, last := laterV s at_ }
def takeB (s : Bk) (at_ n : Int) : Bool := decide (0 ≤ n ∧ n ≤ atV s at_)
def newS (size rate : Int) : Bk := ⟨min (max size 0) 2147483648, min (max rate 0) 2147483648, min (max size 0) 2147483648, 0⟩

theorem newS_ok (a b : Int) : (newS a b).Ok := by unfold newS; constructor <;> simp only <;> omega

theorem later_le (s : Bk) (at_ : Int) : s.last ≤ laterV s at_ ∧ at_ ≤ laterV s at_ := by unfold laterV; omega
theorem later_fit (s : Bk) (hs : s.Ok) (at_ : Int) (h : at_ ≤ 9223372036854775807) : 0 ≤ laterV s at_ ∧ laterV s at_ ≤ 9223372036854775807 := by
  have := hs.l0; have := hs.l1; unfold laterV; omega

theorem after_bounds (s : Bk) (hs : s.Ok) (k : Int) (hk : 0 ≤ k) : 0 ≤ afterV s k ∧ afterV s k ≤ s.size := by
  have := hs.h0; have := hs.s0
  have := Int.mul_nonneg hs.r0 hk
  unfold afterV; omega

theorem take_ok (s : Bk) (hs : s.Ok) (at_ n : Int) (h : at_ ≤ 9223372036854775807) : (takeS s at_ n).Ok := by
  have h1 := later_fit s hs at_ h
  have h2 := later_le s at_
  have h3 := after_bounds s hs (laterV s at_ - s.last) (by omega)
  obtain ⟨a, b, c, d, e, f, g, i⟩ := hs
  unfold takeS atV
  constructor <;> simp only <;> (try assumption) <;> (try split) <;> omega

theorem till_bounds (s : Bk) (hs : s.Ok) (n : Int) : 0 ≤ (tillV s n).1 ∧ (tillV s n).1 ≤ 4294967296 := by
  obtain ⟨a, b, c, d, e, f, g, i⟩ := hs
  unfold tillV
  repeat' split
  all_goals (try (simp only; omega))
  rename_i h1 h2 h3
  have hr : 0 < s.rate := by omega
  have hn : 0 ≤ n - s.have_ + s.rate - 1 := by omega
  have h4 : (n - s.have_ + s.rate - 1) / s.rate ≤ n - s.have_ + s.rate - 1 := Int.ediv_le_self _ hn
  have h5 : 0 ≤ (n - s.have_ + s.rate - 1) / s.rate := Int.ediv_nonneg hn (Int.le_of_lt hr)
  simp only
  omega

/-- The program's At: full, once it is told to be. -/
theorem at_full (s : Bk) (hs : s.Ok) (k : Int) (hk : 0 ≤ k) (ht : (tillV s s.size).2 = true) (hf : (tillV s s.size).1 ≤ k) : s.size = afterV s k := by
  obtain ⟨a, b, c, d, e, f, g, i⟩ := hs
  have hm := Int.mul_nonneg c hk
  unfold tillV at ht hf
  unfold afterV
  rw [if_neg (by omega)] at ht hf
  split at ht
  · omega
  · rename_i h1
    rw [if_neg h1] at hf
    split at ht
    · cases ht
    · rename_i h2
      rw [if_neg h2] at hf
      simp only at hf
      have hr : 0 < s.rate := by omega
      have h3 := Int.lt_ediv_add_one_mul_self (s.size - s.have_ + s.rate - 1) hr
      have h4 : ((s.size - s.have_ + s.rate - 1) / s.rate) * s.rate ≤ k * s.rate := Int.mul_le_mul_of_nonneg_right hf c
      rw [Int.add_mul] at h3
      have h5 : k * s.rate = s.rate * k := Int.mul_comm _ _
      omega
theorem at_part (s : Bk) (hs : s.Ok) (k : Int) (hk : 0 ≤ k) (h : (tillV s s.size).2 = false ∨ k < (tillV s s.size).1) : s.have_ + s.rate * k = afterV s k := by
  obtain ⟨a, b, c, d, e, f, g, i⟩ := hs
  unfold tillV at h
  unfold afterV
  rw [if_neg (by omega)] at h
  split at h
  · simp at h; omega
  · split at h
    · rename_i h2; rw [h2]; omega
    · rename_i h1 h2
      simp only [reduceCtorEq, false_or] at h
      have hr : 0 < s.rate := by omega
      have h3 := Int.ediv_mul_le (s.size - s.have_ + s.rate - 1) (Int.ne_of_gt hr)
      have h4 : (k + 1) * s.rate ≤ ((s.size - s.have_ + s.rate - 1) / s.rate) * s.rate := Int.mul_le_mul_of_nonneg_right (by omega) c
      rw [Int.add_mul] at h4
      have h5 : k * s.rate = s.rate * k := Int.mul_comm _ _
      omega
/-- While it fills no product is too great. -/
theorem part_small (s : Bk) (hs : s.Ok) (k : Int) (hk : 0 ≤ k) (hz : k ≤ 9223372036854775807) (h : (tillV s s.size).2 = false ∨ k < (tillV s s.size).1) : 0 ≤ s.rate * k ∧ s.rate * k ≤ 2147483648 := by
  have h1 := at_part s hs k hk h
  have hm := Int.mul_nonneg hs.r0 hk
  have := hs.s1; have := hs.h0
  unfold afterV at h1
  omega
end Go.Proofs.Ytmfhilddemgabaa
