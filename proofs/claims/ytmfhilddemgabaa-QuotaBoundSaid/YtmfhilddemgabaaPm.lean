/- Plain arithmetic of the quota layer, the page's side: after, soon. No program in sight. Conditions: none. -/
import Derived.Test.YtmfhilddemgabaaPl
namespace Go.Proofs.Ytmfhilddemgabaa
set_option linter.unusedVariables false
set_option linter.unusedSimpArgs false

theorem after_over (s : Bk) (hs : s.Ok) (k : Int) (hk : 0 ≤ k) (h : (mulV s.rate k).2 = false) : s.size = afterV s k := by
  have hm := Int.mul_nonneg hs.r0 hk
  have := hs.s1; have := hs.h0; have := hs.h1
  unfold mulV at h
  split at h
  · cases h
  · rename_i hf
    unfold Fit at hf
    unfold afterV; omega
theorem after_fit (s : Bk) (k : Int) (h : (mulV s.rate k).2 = true) : (mulV s.rate k).1 = s.rate * k ∧ Fit (s.rate * k) := by
  unfold mulV at h ⊢
  split at h
  · rename_i hf; rw [if_pos hf]; exact ⟨rfl, hf⟩
  · cases h
theorem after_over2 (s : Bk) (hs : s.Ok) (k : Int) (hk : 0 ≤ k) (h : (addV s.have_ (s.rate * k)).2 = false) : s.size = afterV s k := by
  have hm := Int.mul_nonneg hs.r0 hk
  have := hs.s1; have := hs.h0; have := hs.h1
  unfold addV at h
  split at h
  · cases h
  · rename_i hf
    unfold Fit at hf
    unfold afterV; omega
theorem after_fit2 (s : Bk) (k : Int) (h : (addV s.have_ (s.rate * k)).2 = true) : (addV s.have_ (s.rate * k)).1 = s.have_ + s.rate * k := by
  unfold addV at h ⊢
  split at h
  · rename_i hf; rw [if_pos hf]
  · cases h

/-- What is told of a wait. -/
def full (s : Bk) (k : Int) : Bk := ⟨s.size, s.rate, afterV s k, 0⟩
theorem full_ok (s : Bk) (hs : s.Ok) (k : Int) (hk : 0 ≤ k) : (full s k).Ok := by
  have h := after_bounds s hs k hk
  obtain ⟨a, b, c, d, e, f, g, i⟩ := hs
  unfold full
  constructor <;> simp only <;> omega
theorem till_full (s : Bk) (t n : Int) : tillV (takeS s t 0) n = tillV (full s (laterV s t - s.last)) n := by
  have : (takeS s t 0).have_ = (full s (laterV s t - s.last)).have_ := by
    unfold takeS full atV; simp only; split <;> omega
  unfold tillV
  rw [this]
  rfl
theorem soon_none (s : Bk) (n : Int) (h : n < 0 ∨ s.size < n ∨ (s.have_ < n ∧ s.rate = 0)) : tillV s n = (0, false) := by
  unfold tillV
  by_cases h0 : n < 0 ∨ s.size < n
  · rw [if_pos h0]
  · rw [if_neg h0, if_neg (by omega), if_pos (by omega)]
theorem soon_now (s : Bk) (n : Int) (h0 : 0 ≤ n) (h1 : n ≤ s.size) (h : n ≤ s.have_) : tillV s n = (0, true) := by
  unfold tillV
  rw [if_neg (by omega), if_pos h]
theorem soon_then (s : Bk) (hs : s.Ok) (n : Int) (h0 : 0 ≤ n) (h1 : n ≤ s.size) (h : s.have_ < n) (hr : s.rate ≠ 0) :
    ∃ k, tillV s n = (k, true) ∧ 1 ≤ k ∧ k ≤ 4294967296 ∧ n ≤ afterV s k ∧ afterV s (k - 1) < n := by
  have hb := till_bounds s hs n
  obtain ⟨a, b, c, d, e, f, g, i⟩ := hs
  have hr' : 0 < s.rate := by omega
  have h2 := Int.lt_ediv_add_one_mul_self (n - s.have_ + s.rate - 1) hr'
  have h3 := Int.ediv_mul_le (n - s.have_ + s.rate - 1) (Int.ne_of_gt hr')
  have he : tillV s n = ((n - s.have_ + s.rate - 1) / s.rate, true) := by
    unfold tillV
    rw [if_neg (by omega), if_neg (by omega), if_neg hr]
  rw [he] at hb
  simp only at hb
  refine ⟨_, he, ?_, hb.2, ?_, ?_⟩
  · have : (n - s.have_ + s.rate - 1) / s.rate ≠ 0 := by
      intro h0
      rw [h0] at h2
      omega
    omega
  · generalize (n - s.have_ + s.rate - 1) / s.rate = q at *
    rw [Int.add_mul] at h2
    have h5 : q * s.rate = s.rate * q := Int.mul_comm _ _
    unfold afterV; omega
  · generalize (n - s.have_ + s.rate - 1) / s.rate = q at *
    have h5 : q * s.rate = s.rate * q := Int.mul_comm _ _
    unfold afterV
    rw [Int.mul_sub]
    omega
end Go.Proofs.Ytmfhilddemgabaa
