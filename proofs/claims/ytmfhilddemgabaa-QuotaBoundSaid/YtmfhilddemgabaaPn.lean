/- Plain arithmetic of the quota layer: who waits as long as is told gets it. No program in sight. Conditions: none. -/
import Derived.Test.YtmfhilddemgabaaPm
namespace Go.Proofs.Ytmfhilddemgabaa
set_option linter.unusedVariables false
set_option linter.unusedSimpArgs false

theorem at_later (s : Bk) (t : Int) (h : s.last ≤ t) : atV s t = min s.size (s.have_ + s.rate * (t - s.last)) := by
  unfold atV afterV laterV
  rw [show max t s.last = t by omega]
theorem at_mono (s : Bk) (hs : s.Ok) (t u : Int) (h : s.last ≤ t) (hu : t ≤ u) : atV s t ≤ atV s u := by
  rw [at_later s t h, at_later s u (by omega)]
  have := Int.mul_le_mul_of_nonneg_left (show t - s.last ≤ u - s.last by omega) hs.r0
  omega
theorem till_at (s : Bk) (t n : Int) (h : s.last ≤ t) : tillV (takeS s t 0) n = tillV ⟨s.size, s.rate, atV s t, 0⟩ n := by
  rw [till_full]
  unfold full atV
  rfl

theorem never_takes (s : Bk) (hs : s.Ok) (t u n : Int) (h : s.last ≤ t) (hu : t ≤ u) (hn : (tillV (takeS s t 0) n).2 = false) : (tillV (takeS s t 0) n).1 = 0 ∧ takeB s u n = false := by
  rw [till_at s t n h] at hn ⊢
  unfold tillV at hn ⊢
  simp only at hn ⊢
  have hsz : atV s u ≤ s.size := by rw [at_later s u (by omega)]; omega
  split at hn
  · rename_i h0
    rw [if_pos h0]
    refine ⟨rfl, ?_⟩
    unfold takeB
    simp only [decide_eq_false_iff_not]
    omega
  · rename_i h0
    rw [if_neg h0]
    split at hn
    · cases hn
    · rename_i h1
      rw [if_neg h1]
      split at hn
      · rename_i h2
        rw [if_pos h2]
        refine ⟨rfl, ?_⟩
        unfold takeB
        simp only [decide_eq_false_iff_not]
        rw [at_later s t h] at h1
        rw [at_later s u (by omega)]
        rw [h2] at h1 ⊢
        omega
      · cases hn

theorem then_takes (s : Bk) (hs : s.Ok) (t n : Int) (h : s.last ≤ t) (hn : (tillV (takeS s t 0) n).2 = true) :
    0 ≤ (tillV (takeS s t 0) n).1 ∧ (tillV (takeS s t 0) n).1 ≤ 4294967296 ∧ takeB s (t + (tillV (takeS s t 0) n).1) n = true ∧
      ((tillV (takeS s t 0) n).1 ≠ 0 → takeB s (t + (tillV (takeS s t 0) n).1 - 1) n = false) := by
  have hk : (full s (t - s.last)).Ok := full_ok s hs _ (by omega)
  have e : tillV (takeS s t 0) n = tillV (full s (t - s.last)) n := by
    rw [till_at s t n h, show atV s t = afterV s (t - s.last) by unfold atV laterV; rw [show max t s.last = t by omega]]
    rfl
  have ea : ∀ u, t ≤ u → atV s u = afterV (full s (t - s.last)) (u - t) := by
    intro u hu
    rw [at_later s u (by omega)]
    unfold full afterV
    simp only
    have : s.rate * (u - s.last) = s.rate * (t - s.last) + s.rate * (u - t) := by rw [← Int.mul_add]; congr 1; omega
    have h1 := Int.mul_nonneg hs.r0 (show 0 ≤ u - t by omega)
    have h2 := Int.mul_nonneg hs.r0 (show 0 ≤ t - s.last by omega)
    omega
  rw [e] at hn ⊢
  have hb := till_bounds _ hk n
  refine ⟨hb.1, hb.2, ?_⟩
  by_cases h0 : n < 0 ∨ (full s (t - s.last)).size < n ∨ ((full s (t - s.last)).have_ < n ∧ (full s (t - s.last)).rate = 0)
  · rw [soon_none _ n h0] at hn; cases hn
  · by_cases h1 : n ≤ (full s (t - s.last)).have_
    · rw [soon_now _ n (by omega) (by omega) h1]
      refine ⟨?_, fun h => absurd rfl h⟩
      unfold takeB
      simp only [decide_eq_true_eq]
      refine ⟨by omega, ?_⟩
      rw [ea _ (by omega)]
      unfold afterV
      simp only [Int.add_zero, Int.sub_self, Int.mul_zero]
      omega
    · obtain ⟨q, hq, q1, q2, q3, q4⟩ := soon_then _ hk n (by omega) (by omega) (by omega) (fun e => h0 (.inr (.inr ⟨by omega, e⟩)))
      rw [hq]
      simp only
      refine ⟨?_, fun _ => ?_⟩
      · unfold takeB
        simp only [decide_eq_true_eq]
        refine ⟨by omega, ?_⟩
        rw [ea _ (by omega), show t + q - t = q by omega]
        exact q3
      · unfold takeB
        simp only [decide_eq_false_iff_not]
        rw [ea _ (by omega), show t + q - 1 - t = q - 1 by omega]
        omega
theorem add_over {a b : Int} (h : (addV a b).2 = true) : (addV a b).1 = a + b ∧ Fit (a + b) := by
  unfold addV at h ⊢
  split at h
  · rename_i hf; rw [if_pos hf]; exact ⟨rfl, hf⟩
  · cases h
theorem take_last (s : Bk) (t n : Int) : (takeS s t n).last = max t s.last := rfl
end Go.Proofs.Ytmfhilddemgabaa
