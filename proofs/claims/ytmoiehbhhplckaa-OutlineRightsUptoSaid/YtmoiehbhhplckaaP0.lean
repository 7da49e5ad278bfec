/- Plain arithmetic: the number that a text is. No program in sight. Conditions: none. -/
import Derived.Test.YtmoiehbhhplckaaN0
import GoSem.Op.String
namespace Go.Proofs.Ytmoiehbhhplckaa
set_option linter.unusedVariables false
set_option linter.unusedSimpArgs false
open Go.RowKit
/-! ## the number that a text is -/
def isD (c : UInt8) : Prop := 48 ≤ c.toNat ∧ c.toNat ≤ 57
instance (c : UInt8) : Decidable (isD c) := by unfold isD; exact inferInstance
def valL (l : List UInt8) : Nat := l.foldl (fun n c => n * 10 + (c.toNat - 48)) 0
theorem valL_snoc (l : List UInt8) (c : UInt8) : valL (l ++ [c]) = valL l * 10 + (c.toNat - 48) := by simp [valL]
theorem valL_acc (l : List UInt8) (n : Nat) : l.foldl (fun n c => n * 10 + (c.toNat - 48)) n = n * 10 ^ l.length + valL l := by
  induction l generalizing n with
  | nil => simp [valL]
  | cons c l ih =>
    have e : valL (c :: l) = (0 * 10 + (c.toNat - 48)) * 10 ^ l.length + valL l := by
      have := ih (0 * 10 + (c.toNat - 48))
      unfold valL at this ⊢
      rw [List.foldl_cons]
      exact this
    rw [List.foldl_cons, ih, e, List.length_cons, Nat.pow_succ]
    have : n * (10 ^ l.length * 10) = n * 10 * 10 ^ l.length := by rw [Nat.mul_comm (10 ^ l.length) 10, Nat.mul_assoc]
    rw [this, Nat.add_mul, Nat.zero_mul, Nat.zero_add]
    omega
theorem valL_app (l r : List UInt8) : valL (l ++ r) = valL l * 10 ^ r.length + valL r := by
  unfold valL
  rw [List.foldl_append]
  exact valL_acc r _
theorem valL_cons (c : UInt8) (l : List UInt8) : valL (c :: l) = (c.toNat - 48) * 10 ^ l.length + valL l := by
  have := valL_app [c] l
  rw [List.singleton_append] at this
  rw [this]
  simp [valL]
theorem valL_take_le (l : List UInt8) (i : Nat) : valL (l.take i) ≤ valL l := by
  conv => rhs; rw [← List.take_append_drop i l]
  rw [valL_app]
  have : 1 ≤ 10 ^ (l.drop i).length := Nat.one_le_pow _ _ (by omega)
  have := Nat.mul_le_mul_left (valL (l.take i)) this
  omega
theorem valL_lt (l : List UInt8) (h : ∀ c ∈ l, isD c) : valL l < 10 ^ l.length := by
  induction l with
  | nil => simp [valL]
  | cons c l ih =>
    have h1 := ih (fun x hx => h x (by simp [hx]))
    have h2 := h c (by simp)
    unfold isD at h2
    rw [valL_cons, List.length_cons, Nat.pow_succ]
    have : (c.toNat - 48) * 10 ^ l.length ≤ 9 * 10 ^ l.length := Nat.mul_le_mul_right _ (by omega)
    omega
theorem dgt_nat (d : Nat) (h : d < 10) : (dgt d).toNat = 48 + d := by
  unfold dgt
  show (48 + d) % 256 = 48 + d
  omega
theorem dgt_of (c : UInt8) (h : isD c) : dgt (c.toNat - 48) = c := by
  unfold isD at h
  apply UInt8.toNat_inj.1
  rw [dgt_nat _ (by omega)]
  omega
theorem digs_all (n : Nat) : ∀ c ∈ digs n, isD c := by
  induction n using Nat.strongRecOn with
  | _ n ih =>
    intro c hc
    by_cases h : n < 10
    · rw [digs_lt h] at hc
      simp at hc
      subst hc
      unfold isD
      rw [dgt_nat n h]; omega
    · rw [digs_ge h] at hc
      rcases List.mem_append.1 hc with hc | hc
      · exact ih (n / 10) (by omega) c hc
      · simp at hc
        subst hc
        unfold isD
        rw [dgt_nat _ (Nat.mod_lt _ (by omega))]; omega
theorem valL_digs (n : Nat) : valL (digs n) = n := by
  induction n using Nat.strongRecOn with
  | _ n ih =>
    by_cases h : n < 10
    · rw [digs_lt h]
      simp [valL, dgt_nat n h]
    · rw [digs_ge h, valL_snoc, ih (n / 10) (by omega), dgt_nat _ (Nat.mod_lt _ (by omega))]
      omega
/-- Digits without a 0 ahead are the decimals of their number. -/
theorem digs_valL (l : List UInt8) (h : ∀ c ∈ l, isD c) (hne : l ≠ []) (hz : l.length = 1 ∨ ∀ c r, l = c :: r → c.toNat ≠ 48) : digs (valL l) = l := by
  induction hn : l.length generalizing l with
  | zero => exact absurd (List.eq_nil_of_length_eq_zero hn) hne
  | succ n ih =>
    rcases List.eq_nil_or_concat l with e | ⟨p, c, e⟩
    · exact absurd e hne
    · rw [List.concat_eq_append] at e
      subst e
      have hc := h c (by simp)
      have hcd := hc
      unfold isD at hcd
      rw [valL_snoc]
      cases p with
      | nil =>
        rw [show valL [] * 10 + (c.toNat - 48) = c.toNat - 48 by simp [valL], digs_lt (by omega), dgt_of c hc]
        rfl
      | cons a r =>
        have ha : a.toNat ≠ 48 := by
          rcases hz with hz | hz
          · simp at hz
          · exact hz a (r ++ [c]) rfl
        have had := h a (by simp)
        unfold isD at had
        have hpos : 1 ≤ valL (a :: r) := by
          rw [valL_cons]
          have : 1 ≤ 10 ^ r.length := Nat.one_le_pow _ _ (by omega)
          have := Nat.mul_le_mul (show 1 ≤ a.toNat - 48 by omega) this
          omega
        have hp := ih (a :: r) (fun x hx => h x (List.mem_append_left _ hx)) (by simp) (.inr (fun c' r' e => by injection e with e _; subst e; exact ha)) (by simpa using hn)
        rw [digs_ge (by omega), show (valL (a :: r) * 10 + (c.toNat - 48)) / 10 = valL (a :: r) by omega, show (valL (a :: r) * 10 + (c.toNat - 48)) % 10 = c.toNat - 48 by omega, hp, dgt_of c hc]
theorem digs_head (n : Nat) (c : UInt8) (r : List UInt8) (h : digs n = c :: r) (hr : r ≠ []) : c.toNat ≠ 48 := by
  intro hc
  have h1 := valL_digs n
  rw [h, valL_cons, hc, Nat.sub_self, Nat.zero_mul, Nat.zero_add] at h1
  have h2 := valL_lt r (fun x hx => digs_all n x (by rw [h]; simp [hx]))
  rw [h1] at h2
  obtain ⟨k, hk⟩ : ∃ k, r.length = k + 1 := ⟨r.length - 1, by have : r.length ≠ 0 := fun e => hr (List.eq_nil_of_length_eq_zero e); omega⟩
  rw [hk] at h2
  have h3 := digs_len n k h2
  rw [h] at h3
  simp at h3
  omega
theorem digs_ne (n : Nat) : digs n ≠ [] := by
  by_cases h : n < 10
  · rw [digs_lt h]; simp
  · rw [digs_ge h]; simp

def parseV (l : List UInt8) : Int × Bool := if l = digs (valL l) ∧ valL l ≤ 9223372036854775807 then ((valL l : Int), true) else (0, false)
theorem parse_yes {l : List UInt8} (h : digs (valL l) = l) (hm : valL l ≤ 9223372036854775807) : parseV l = ((valL l : Int), true) := if_pos ⟨h.symm, hm⟩
theorem parse_no {l : List UInt8} (h : ¬ (l = digs (valL l) ∧ valL l ≤ 9223372036854775807)) : parseV l = (0, false) := if_neg h
theorem parse_bad {l : List UInt8} {i : Nat} {c : UInt8} (hi : l[i]? = some c) (h : ¬ isD c) : parseV l = (0, false) := parse_no fun ⟨e, _⟩ => h (digs_all (valL l) c (by rw [← e]; exact List.mem_of_getElem? hi))
theorem parse_big {l : List UInt8} {i : Nat} (h : 9223372036854775807 < valL (l.take i)) : parseV l = (0, false) := parse_no fun ⟨_, hm⟩ => by have := valL_take_le l i; omega
theorem parse_long {l : List UInt8} (h : 19 < l.length) : parseV l = (0, false) := parse_no fun ⟨e, hm⟩ => by
  have := digs_len (valL l) 18 (by omega)
  rw [← e] at this
  omega
theorem parse_lead {l : List UInt8} {r : List UInt8} {c : UInt8} (e : l = c :: r) (hr : r ≠ []) (hc : c.toNat = 48) : parseV l = (0, false) := parse_no fun ⟨h, _⟩ => digs_head (valL l) c r (h.symm.trans e) hr hc
theorem parse_fit (l : List UInt8) : Fit (parseV l).1 := by
  unfold parseV
  split
  · rename_i h; unfold Fit; simp only; omega
  · unfold Fit; simp only; omega

/-! ## texts of one length, held against each other -/
theorem less_val : ∀ (a b : List UInt8), a.length = b.length → (∀ c ∈ a, isD c) → (∀ c ∈ b, isD c) → (Op.bytesLess a b = true ↔ valL a < valL b) ∧ ((a == b) = true ↔ valL a = valL b) := by
  intro a
  induction a with
  | nil => intro b hl _ _; cases b with
    | nil => simp [Op.bytesLess]
    | cons _ _ => simp at hl
  | cons x a ih =>
    intro b hl ha hb
    cases b with
    | nil => simp at hl
    | cons y b =>
      have hl' : a.length = b.length := by simpa using hl
      obtain ⟨h1, h2⟩ := ih b hl' (fun c hc => ha c (by simp [hc])) (fun c hc => hb c (by simp [hc]))
      have hx := ha x (by simp)
      have hy := hb y (by simp)
      unfold isD at hx hy
      have la := valL_lt a (fun c hc => ha c (by simp [hc]))
      have lb := valL_lt b (fun c hc => hb c (by simp [hc]))
      rw [hl'] at la
      rw [valL_cons, valL_cons, hl']
      have hxy : x < y ↔ x.toNat < y.toNat := UInt8.lt_iff_toNat_lt
      have hxe : x = y ↔ x.toNat = y.toNat := UInt8.toNat_inj.symm
      have key : x.toNat < y.toNat → (x.toNat - 48) * 10 ^ b.length + 10 ^ b.length ≤ (y.toNat - 48) * 10 ^ b.length := by
        intro h
        have := Nat.mul_le_mul_right (10 ^ b.length) (show x.toNat - 48 + 1 ≤ y.toNat - 48 by omega)
        rw [Nat.add_mul, Nat.one_mul] at this
        exact this
      have key2 : y.toNat < x.toNat → (y.toNat - 48) * 10 ^ b.length + 10 ^ b.length ≤ (x.toNat - 48) * 10 ^ b.length := by
        intro h
        have := Nat.mul_le_mul_right (10 ^ b.length) (show y.toNat - 48 + 1 ≤ x.toNat - 48 by omega)
        rw [Nat.add_mul, Nat.one_mul] at this
        exact this
      rcases Nat.lt_trichotomy x.toNat y.toNat with h | h | h
      · have k := key h
        constructor
        · simp only [Op.bytesLess, Bool.or_eq_true, Bool.and_eq_true, decide_eq_true_eq, beq_iff_eq]
          constructor
          · intro _; omega
          · intro _; exact .inl (hxy.2 h)
        · simp only [List.cons_beq_cons, Bool.and_eq_true, beq_iff_eq]
          constructor
          · rintro ⟨e, _⟩; rw [hxe] at e; omega
          · intro e; omega
      · have e : x = y := hxe.2 h
        subst e
        constructor
        · simp only [Op.bytesLess, Bool.or_eq_true, Bool.and_eq_true, decide_eq_true_eq, beq_iff_eq]
          constructor
          · rintro (h3 | ⟨_, h3⟩)
            · rw [hxy] at h3; omega
            · have := h1.1 h3; omega
          · intro h3; exact .inr ⟨trivial, h1.2 (by omega)⟩
        · simp only [List.cons_beq_cons, Bool.and_eq_true, beq_iff_eq]
          constructor
          · rintro ⟨_, h3⟩
            have := h2.1 (by simpa using h3); omega
          · intro h3
            have := h2.2 (by omega)
            exact ⟨trivial, by simpa using this⟩
      · have k := key2 h
        constructor
        · simp only [Op.bytesLess, Bool.or_eq_true, Bool.and_eq_true, decide_eq_true_eq, beq_iff_eq]
          constructor
          · rintro (h3 | ⟨h3, _⟩)
            · rw [hxy] at h3; omega
            · rw [hxe] at h3; omega
          · intro _; omega
        · simp only [List.cons_beq_cons, Bool.and_eq_true, beq_iff_eq]
          constructor
          · rintro ⟨e, _⟩; rw [hxe] at e; omega
          · intro e; omega
end Go.Proofs.Ytmoiehbhhplckaa
