/- Two texts with a blank between, in plain words. Conditions: none. -/
import Derived.Test.YtmoiehbhhplckaaProg
import Derived.Test.YtmoiehbhhplckaaL8
import Derived.Tactics
import Derived.Tactics2
import Derived.WalkKit
import Derived.WalkSpells
import Derived.WalkLawsBesides
import Derived.StillTactics
import Derived.StillTailTactics
import Derived.OwnWalk
import Derived.Laws.Pointers
import Derived.Laws.ResultCell
import Derived.Deep.RegionHeld3
import Derived.Deep.RegionWith
import Derived.Deep.RegionLaw
import Derived.Deep.AppendLies
import Derived.Deep.QuietTactic
import Derived.BigQuiet
import Derived.LoopTactic
import Derived.Deep.LoopGhost
import Derived.Deep.DeepCutAuto
import Derived.Deep.DeepFit
import Derived.Maps.AppendAt
import Derived.Below
import Derived.Lib.Hide
import Derived.Handy
import Derived.KernelRfl
import Derived.IntWalk
import Derived.Laws.AppendOwnNone
import Derived.Laws.IdiomStrings
namespace Go.Proofs.Ytmoiehbhhplckaa
set_option linter.unusedVariables false
set_option linter.unusedSimpArgs false
open Go.RowKit

/-! ## two texts with a blank between, in plain words -/
theorem idx_app {l : List UInt8} (m : List UInt8) {c : UInt8} (h : 0 ≤ Lib.indexByte l c) : Lib.indexByte (l ++ m) c = Lib.indexByte l c := by
  induction l with
  | nil => exact absurd h (by show ¬ (0 : Int) ≤ -1; omega)
  | cons a l ih =>
    rw [List.cons_append]
    unfold Lib.indexByte at h ⊢
    by_cases h1 : (a == c) = true
    · rw [if_pos h1, if_pos h1]
    · rw [if_neg h1] at h ⊢
      rw [if_neg h1]
      by_cases h2 : (Lib.indexByte l c == -1) = true
      · rw [if_pos h2] at h
        exact absurd h (by omega)
      · rw [if_neg h2] at h ⊢
        have h3 := Lib.indexByte_ge l c
        have h4 : Lib.indexByte l c ≠ -1 := by simpa using h2
        have ih := ih (by omega)
        rw [ih, if_neg h2]
theorem wlen_app (r b : List UInt8) : wlen (r ++ 32 :: b) = wlen r := by
  unfold wlen
  induction r with
  | nil => rfl
  | cons a r ih =>
    rw [List.cons_append, List.takeWhile_cons, List.takeWhile_cons]
    split
    · rw [List.length_cons, List.length_cons, ih]
    · rfl
theorem pre_app (r b : List UInt8) (k : Nat) (hr : r ≠ []) : Lib.hasPrefix (r ++ 32 :: b) (sg k) = Lib.hasPrefix r (sg k) := by
  have key : ∀ x : UInt8, Lib.hasPrefix (r ++ 32 :: b) [x, 61] = Lib.hasPrefix r [x, 61] := by
    intro x
    unfold Lib.hasPrefix
    cases r with
    | nil => exact absurd rfl hr
    | cons y r =>
      cases r with
      | nil => simp [List.isPrefixOf]
      | cons z r => simp [List.isPrefixOf]
  unfold sg
  split
  · exact key 58
  · split
    · exact key 33
    · exact key 60
theorem step_app (a b : List UInt8) (p : Nat) (hp : p < a.length) (h : (stepR a p).1 = true) : stepR (a ++ 32 :: b) p = stepR a p := by
  have hc : cAt (a ++ 32 :: b) p = cAt a p := by unfold cAt; rw [List.getElem?_append_left hp]
  have hd : (a ++ 32 :: b).drop p = a.drop p ++ 32 :: b := List.drop_append_of_le_length (by omega)
  have hd1 : (a ++ 32 :: b).drop (p + 1) = a.drop (p + 1) ++ 32 :: b := List.drop_append_of_le_length (by omega)
  have hw : wend (a ++ 32 :: b) p = wend a p := by unfold wend; rw [hd, wlen_app]
  have hle := wlen_le a p (by omega)
  have ht : ((a ++ 32 :: b).drop p).take (wend a p - p) = (a.drop p).take (wend a p - p) := by
    rw [hd]
    apply List.take_append_of_le_length
    rw [List.length_drop]
    unfold wend
    omega
  have e1 : namedR (a ++ 32 :: b) p = namedR a p := by unfold namedR; rw [hw, ht]
  have e2 : numR (a ++ 32 :: b) p = numR a p := by unfold numR; rw [hw, ht]
  have e4 : signR (a ++ 32 :: b) p = signR a p := by
    have hpr : ∀ k, pre2 (a ++ 32 :: b) p k = pre2 a p k := fun k => by
      unfold pre2
      rw [hd]
      apply pre_app
      intro e
      have := congrArg List.length e
      rw [List.length_drop, List.length_nil] at this
      omega
    have ht1 : ((a ++ 32 :: b).drop p).take 1 = (a.drop p).take 1 := by
      rw [hd]
      apply List.take_append_of_le_length
      rw [List.length_drop]; omega
    unfold signR
    rw [hpr, hpr, hpr, hc, ht1]
  unfold stepR at h ⊢
  rw [hc, e1, e2, e4]
  by_cases h1 : 0 ≤ Lib.indexByte blankL (cAt a p)
  · rw [if_pos h1, if_pos h1]
  · rw [if_neg h1] at h ⊢
    rw [if_neg h1]
    by_cases h2 : isL (cAt a p) = true
    · rw [if_pos h2, if_pos h2]
    · rw [if_neg h2] at h ⊢
      rw [if_neg h2]
      by_cases h3 : isG (cAt a p) = true
      · rw [if_pos h3, if_pos h3]
      · rw [if_neg h3] at h ⊢
        rw [if_neg h3]
        by_cases h4 : cAt a p = 34
        · rw [if_pos h4] at h ⊢
          rw [if_pos h4]
          have h5 : 0 ≤ qIdx a p := by
            have : (quotR a p).ok = true := h
            unfold quotR at this
            simp at this
            exact this.1
          have hq : qIdx (a ++ 32 :: b) p = qIdx a p := by
            unfold qIdx at h5 ⊢
            rw [hd1]
            exact idx_app _ h5
          have hqb : qBody (a ++ 32 :: b) p = qBody a p := by
            unfold qBody
            rw [hq, hd1]
            apply List.take_append_of_le_length
            have : qIdx a p < (a.drop (p + 1)).length := idx_lt _ _
            omega
          unfold quotR
          rw [hq, hqb]
        · rw [if_neg h4, if_neg h4]
/-- A word further on. -/
def shT (n : Nat) (t : Tk) : Tk := ⟨t.k, t.s, t.n, n + t.at_⟩
theorem step_sh (c b : List UInt8) (p : Nat) : stepR (c ++ b) (c.length + p) = ((stepR b p).1, (stepR b p).2.1.map (shT c.length), c.length + (stepR b p).2.2) := by
  have hc : cAt (c ++ b) (c.length + p) = cAt b p := by unfold cAt; rw [List.getElem?_append_right (by omega)]; congr 2; omega
  have hd : ∀ q, (c ++ b).drop (c.length + q) = b.drop q := fun q => by rw [← List.drop_drop, List.drop_left]
  have hw : wend (c ++ b) (c.length + p) = c.length + wend b p := by unfold wend; rw [hd]; omega
  have hwp : c.length + wend b p - (c.length + p) = wend b p - p := by omega
  have hq : qIdx (c ++ b) (c.length + p) = qIdx b p := by unfold qIdx; rw [Nat.add_assoc, hd]
  have hqb : qBody (c ++ b) (c.length + p) = qBody b p := by unfold qBody; rw [hq, Nat.add_assoc, hd]
  have hpr : ∀ k, pre2 (c ++ b) (c.length + p) k = pre2 b p k := fun k => by unfold pre2; rw [hd]
  unfold stepR
  rw [hc]
  split
  · rfl
  · split
    · unfold namedR
      rw [hw, hwp, hd]
      rfl
    · split
      · unfold numR
        rw [hw, hwp, hd]
        rfl
      · split
        · unfold quotR
          rw [hq, hqb]
          simp [shT, Nat.add_assoc]
        · unfold signR
          rw [hpr, hpr, hpr, hd, hc]
          split
          · rfl
          · split
            · rfl
            · split
              · rfl
              · rfl
theorem lex_sh (c b : List UInt8) (f : Nat) : ∀ (p : Nat) (ts R : List Tk), lexF f b p ts = some R → ∀ pre, lexF f (c ++ b) (c.length + p) (pre ++ ts.map (shT c.length)) = some (pre ++ R.map (shT c.length)) := by
  induction f with
  | zero => intro p ts R h; simp [lexF] at h
  | succ f ih =>
    intro p ts R h pre
    unfold lexF at h ⊢
    by_cases hp : p < b.length
    · rw [if_pos hp] at h
      rw [if_pos (by rw [List.length_append]; omega), step_sh]
      by_cases hs : (stepR b p).1 = true
      · rw [if_pos hs] at h
        rw [if_pos hs]
        have := ih _ _ _ h pre
        rw [List.map_append, ← List.append_assoc] at this
        exact this
      · rw [if_neg hs] at h; cases h
    · rw [if_neg hp] at h
      rw [if_neg (by rw [List.length_append]; omega)]
      injection h with h
      subst h
      rw [List.map_append, List.append_assoc]
      rfl
theorem lex_mono (L : List UInt8) (f : Nat) : ∀ (p : Nat) (ts R : List Tk), lexF f L p ts = some R → ∀ g, lexF (f + g) L p ts = some R := by
  induction f with
  | zero => intro p ts R h; simp [lexF] at h
  | succ f ih =>
    intro p ts R h g
    rw [show f + 1 + g = (f + g) + 1 by omega]
    unfold lexF at h ⊢
    by_cases hp : p < L.length
    · rw [if_pos hp] at h ⊢
      by_cases hs : (stepR L p).1 = true
      · rw [if_pos hs] at h ⊢
        exact ih _ _ _ h g
      · rw [if_neg hs] at h; cases h
    · rw [if_neg hp] at h ⊢
      exact h
theorem lex_enough (L : List UInt8) (f : Nat) : ∀ (p : Nat) (ts : List Tk), p ≤ L.length → L.length + 1 ≤ f + p → ∀ g R, lexF (f + g) L p ts = some R → lexF f L p ts = some R := by
  induction f with
  | zero => intro p ts hp0 hf g R h; omega
  | succ f ih =>
    intro p ts hp0 hf g R h
    rw [show f + 1 + g = (f + g) + 1 by omega] at h
    unfold lexF at h ⊢
    by_cases hp : p < L.length
    · rw [if_pos hp] at h ⊢
      by_cases hs : (stepR L p).1 = true
      · rw [if_pos hs] at h ⊢
        have := step_nx L p hp hs
        exact ih _ _ this.2.1 (by omega) g R h
      · rw [if_neg hs] at h; cases h
    · rw [if_neg hp] at h ⊢
      exact h
theorem step_blank (a b : List UInt8) : stepR (a ++ 32 :: b) a.length = (true, [], a.length + 1) := by
  have := step_sh a (32 :: b) 0
  rw [Nat.add_zero] at this
  rw [this]
  have h0 : stepR (32 :: b) 0 = (true, [], 1) := by
    unfold stepR
    rw [if_pos (by show (0 : Int) ≤ Lib.indexByte blankL 32; decide)]
  rw [h0]
  rfl
theorem lex_a (a b : List UInt8) (f : Nat) : ∀ (p : Nat) (ts R : List Tk), p ≤ a.length → lexF f a p ts = some R → ∃ T, R = T ++ [⟨5, [], 0, a.length⟩] ∧ ∀ g R', lexF g (a ++ 32 :: b) (a.length + 1) T = some R' → ∃ g', lexF g' (a ++ 32 :: b) p ts = some R' := by
  induction f with
  | zero => intro p ts R hp0 h; simp [lexF] at h
  | succ f ih =>
    intro p ts R hp0 h
    unfold lexF at h
    by_cases hp : p < a.length
    · rw [if_pos hp] at h
      by_cases hs : (stepR a p).1 = true
      · rw [if_pos hs] at h
        have hn := step_nx a p hp hs
        obtain ⟨T, hT, hg⟩ := ih _ _ _ hn.2.1 h
        refine ⟨T, hT, fun g R' hR => ?_⟩
        obtain ⟨g', hg'⟩ := hg g R' hR
        refine ⟨g' + 1, ?_⟩
        unfold lexF
        rw [if_pos (by rw [List.length_append]; omega), step_app a b p hp hs, if_pos hs]
        exact hg'
      · rw [if_neg hs] at h; cases h
    · rw [if_neg hp] at h
      have hpa : p = a.length := by omega
      subst hpa
      injection h with h
      refine ⟨ts, h.symm, fun g R' hR => ⟨g + 1, ?_⟩⟩
      unfold lexF
      rw [if_pos (by rw [List.length_append, List.length_cons]; omega), step_blank, if_pos rfl, List.append_nil]
      exact hR
theorem lex_join (a b : List UInt8) (X Y : List Tk) (hx : allR a = some X) (hy : allR b = some Y) (hl : a.length + 1 + b.length ≤ 4096) :
    ∃ T, X = T ++ [⟨5, [], 0, a.length⟩] ∧ allR (a ++ 32 :: b) = some (T ++ Y.map (shT (a.length + 1))) := by
  unfold allR at hx hy
  rw [if_pos (by omega)] at hx
  rw [if_pos (by omega)] at hy
  obtain ⟨T, hT, hg⟩ := lex_a a b _ 0 [] X (by omega) hx
  have h1 := lex_sh (a ++ [32]) b _ 0 [] Y hy T
  rw [show (a ++ [32]) ++ b = a ++ 32 :: b by simp, show (a ++ [(32 : UInt8)]).length = a.length + 1 by simp, Nat.add_zero, List.map_nil, List.append_nil] at h1
  obtain ⟨g', hg'⟩ := hg _ _ h1
  refine ⟨T, hT, ?_⟩
  unfold allR
  rw [if_pos (by rw [List.length_append, List.length_cons]; omega)]
  have h2 := lex_mono _ _ _ _ _ hg' ((a ++ 32 :: b).length + 1)
  rw [Nat.add_comm] at h2
  exact lex_enough _ _ 0 [] (by omega) (by omega) g' _ h2
end Go.Proofs.Ytmoiehbhhplckaa
