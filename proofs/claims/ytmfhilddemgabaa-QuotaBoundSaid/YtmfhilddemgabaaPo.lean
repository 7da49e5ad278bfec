/- Plain arithmetic of the quota layer: no more goes than there was room for, and what came. No program in sight. Conditions: none. -/
import Derived.Test.YtmfhilddemgabaaPn
namespace Go.Proofs.Ytmfhilddemgabaa
set_option linter.unusedVariables false
set_option linter.unusedSimpArgs false

def tot : List Int → Int
  | [] => 0
  | x :: l => x + tot l
theorem tot_append (a b : List Int) : tot (a ++ b) = tot a + tot b := by
  induction a with
  | nil => simp [tot]
  | cons x a ih => simp only [List.cons_append, tot, ih]; omega

/-- What went from call k on, and what is there, is no more than the room and what came since. -/
structure BInv (s : Bk) (ats gones : List Int) : Prop where
  la : ats.length = gones.length
  lg : gones.length ≤ 50
  go : ∀ k, k < gones.length → 0 ≤ gones.getD k 0 ∧ gones.getD k 0 ≤ s.size
  ti : ∀ k, k < gones.length → 0 ≤ ats.getD k 0 ∧ ats.getD k 0 ≤ s.last
  bd : ∀ k, k < gones.length → tot (gones.drop k) + s.have_ ≤ s.size + s.rate * (s.last - ats.getD k 0)

theorem binv_nil (s : Bk) : BInv s [] [] := ⟨rfl, by simp, fun k hk => absurd hk (by simp), fun k hk => absurd hk (by simp), fun k hk => absurd hk (by simp)⟩

theorem getD_snoc_lt (l : List Int) (x : Int) (k : Nat) (h : k < l.length) : (l ++ [x]).getD k 0 = l.getD k 0 := by
  simp only [List.getD_eq_getElem?_getD]; rw [List.getElem?_append_left h]
theorem getD_snoc_eq (l : List Int) (x : Int) : (l ++ [x]).getD l.length 0 = x := by
  simp only [List.getD_eq_getElem?_getD]; rw [List.getElem?_append_right (Nat.le_refl _)]; simp

/-- What goes at a call. -/
def goneV (s : Bk) (t n : Int) : Int := if takeB s t n = true then n else 0
theorem gone_bounds (s : Bk) (hs : s.Ok) (t n : Int) (ht : t ≤ 9223372036854775807) : 0 ≤ goneV s t n ∧ goneV s t n ≤ s.size ∧ (takeS s t n).have_ = atV s t - goneV s t n := by
  have h1 := later_fit s hs t ht
  have h2 := later_le s t
  have h3 := after_bounds s hs (laterV s t - s.last) (by omega)
  have h4 : afterV s (laterV s t - s.last) = atV s t := rfl
  have := hs.s0
  unfold goneV takeB takeS
  by_cases h : 0 ≤ n ∧ n ≤ atV s t
  · rw [if_pos (by simpa using h)]
    simp only
    rw [if_pos h]
    omega
  · rw [if_neg (by simpa using h)]
    simp only
    rw [if_neg h]
    omega

theorem binv_step {s : Bk} {ats gones : List Int} (hs : s.Ok) (h : BInv s ats gones) (hl : gones.length < 50) (t n : Int) (ht : t ≤ 9223372036854775807) :
    BInv (takeS s t n) (ats ++ [(takeS s t n).last]) (gones ++ [goneV s t n]) := by
  have hg := gone_bounds s hs t n ht
  have h1 := later_fit s hs t ht
  have h2 := later_le s t
  have h3 := after_bounds s hs (laterV s t - s.last) (by omega)
  have h4 : afterV s (laterV s t - s.last) = atV s t := rfl
  have h5 : atV s t ≤ s.have_ + s.rate * (laterV s t - s.last) := by rw [← h4]; unfold afterV; omega
  have elast : (takeS s t n).last = laterV s t := rfl
  have esize : (takeS s t n).size = s.size := rfl
  have erate : (takeS s t n).rate = s.rate := rfl
  obtain ⟨la, lg, go, ti, bd⟩ := h
  refine ⟨by simp [la], by simp; omega, fun k hk => ?_, fun k hk => ?_, fun k hk => ?_⟩
  · rw [esize]
    simp at hk
    rcases Nat.lt_or_ge k gones.length with h | h
    · rw [getD_snoc_lt _ _ _ h]; exact go k h
    · have : k = gones.length := by omega
      subst this; rw [getD_snoc_eq]; exact ⟨hg.1, hg.2.1⟩
  · rw [elast]
    simp at hk
    rcases Nat.lt_or_ge k gones.length with h | h
    · rw [getD_snoc_lt _ _ _ (by omega)]; have := ti k h; omega
    · have : k = ats.length := by omega
      subst this; rw [getD_snoc_eq]; omega
  · rw [elast, esize, erate, hg.2.2]
    simp at hk
    rcases Nat.lt_or_ge k gones.length with h | h
    · rw [getD_snoc_lt _ _ _ (by omega), List.drop_append_of_le_length (by omega), tot_append]
      have := bd k h
      have e : s.rate * (laterV s t - ats.getD k 0) = s.rate * (s.last - ats.getD k 0) + s.rate * (laterV s t - s.last) := by rw [← Int.mul_add]; congr 1; omega
      simp only [tot]
      omega
    · have : k = gones.length := by omega
      subst this
      rw [List.drop_append_of_le_length (by omega), List.drop_length, ← la, getD_snoc_eq]
      simp only [List.nil_append, tot, Int.sub_self, Int.mul_zero]
      omega

theorem tot_drop (l : List Int) (k : Nat) (h : k < l.length) : tot (l.drop k) = l.getD k 0 + tot (l.drop (k + 1)) := by
  rw [List.drop_eq_getElem_cons h]
  simp only [tot]
  congr 1
  simp [List.getD_eq_getElem?_getD, List.getElem?_eq_getElem h]
theorem tot_bounds (sz : Int) (h0 : 0 ≤ sz) (l : List Int) (h : ∀ k, k < l.length → 0 ≤ l.getD k 0 ∧ l.getD k 0 ≤ sz) : 0 ≤ tot l ∧ tot l ≤ l.length * sz := by
  induction l with
  | nil => simp [tot]
  | cons x l ih =>
    have hx := h 0 (by simp)
    have := ih (fun k hk => by have := h (k + 1) (by simpa using hk); simpa using this)
    simp only [tot, List.length_cons]
    simp at hx
    have e : ((l.length + 1 : Nat) : Int) * sz = l.length * sz + sz := by rw [Int.natCast_add, Int.add_mul]; omega
    omega
theorem drop_bounds (sz : Int) (h0 : 0 ≤ sz) (hz : sz ≤ 2147483648) (l : List Int) (hl : l.length ≤ 50) (h : ∀ k, k < l.length → 0 ≤ l.getD k 0 ∧ l.getD k 0 ≤ sz) (j : Nat) : 0 ≤ tot (l.drop j) ∧ tot (l.drop j) ≤ 107374182400 := by
  have := tot_bounds sz h0 (l.drop j) (fun k hk => by
    have hk' : j + k < l.length := by simp at hk; omega
    have := h (j + k) hk'
    simpa [List.getD_eq_getElem?_getD, List.getElem?_drop] using this)
  refine ⟨this.1, Int.le_trans this.2 ?_⟩
  have h1 : ((l.drop j).length : Int) ≤ 50 := by simp; omega
  have h2 : ((l.drop j).length : Int) * sz ≤ 50 * sz := Int.mul_le_mul_of_nonneg_right h1 h0
  omega
end Go.Proofs.Ytmfhilddemgabaa
