/- The lexer: word, New. Conditions: the lexer is one block. -/
import Derived.Test.YtmoiehbhhplckaaProg
import Derived.Test.YtmoiehbhhplckaaL3
import Derived.Tactics
import Derived.Tactics2
import Derived.WalkKit
import Derived.WalkSpells
import Derived.WalkLawsBesides
import Derived.StillTactics
import Derived.StillTailTactics
import Derived.OwnWalk
import Derived.Laws.Pointers
import Derived.Laws.ResultCell
import Derived.Deep.RegionHeld3
import Derived.Deep.RegionWith
import Derived.Deep.RegionLaw
import Derived.Deep.AppendLies
import Derived.Deep.QuietTactic
import Derived.BigQuiet
import Derived.LoopTactic
import Derived.Deep.LoopGhost
import Derived.Deep.DeepCutAuto
import Derived.Deep.DeepFit
import Derived.Maps.AppendAt
import Derived.Below
import Derived.Lib.Hide
import Derived.Handy
import Derived.KernelRfl
import Derived.IntWalk
import Derived.Laws.AppendOwnNone
import Derived.Laws.IdiomStrings
namespace Go.Proofs.Ytmoiehbhhplckaa
set_option linter.unusedVariables false
set_option linter.unusedSimpArgs false
open Go.RowKit

def IsErr (u : Value) : Prop := ∃ a, u = .iface 95 (.pointer (some a))
theorem new_c (c p : Int) (w : World) : Calls Try.prog 48 #[.int .i64 c, .int .i64 p] w fun e w' => ∃ u, e = .returned u ∧ IsErr u ∧ Tch No w w' := by
  go_enter Try.func48, Try.ntmps48
  go_wp2
  go_returns
  exact ⟨_, rfl, ⟨_, rfl⟩, (Tch.refl No w).alloc _⟩
def wlen (r : List UInt8) : Nat := (r.takeWhile isT).length
def wend (L : List UInt8) (p : Nat) : Nat := p + wlen (L.drop p)
theorem wlen_of (L : List UInt8) (p k : Nat) (hp : p ≤ k) (h : ∀ i, p ≤ i → i < k → ∃ x, L[i]? = some x ∧ isT x = true) (hk : k = L.length ∨ ∃ x, L[k]? = some x ∧ isT x = false) : wlen (L.drop p) = k - p := by
  have key : ∀ (m : Nat) (r : List UInt8), (∀ i, i < m → ∃ x, r[i]? = some x ∧ isT x = true) → (m = r.length ∨ ∃ x, r[m]? = some x ∧ isT x = false) → wlen r = m := by
    intro m
    induction m with
    | zero =>
      intro r _ h2
      cases r with
      | nil => rfl
      | cons a t =>
        rcases h2 with h2 | ⟨x, h2, h3⟩
        · simp at h2
        · simp at h2; subst h2
          unfold wlen; simp [h3]
    | succ m ih =>
      intro r h1 h2
      cases r with
      | nil => obtain ⟨x, hx, _⟩ := h1 0 (by omega); simp at hx
      | cons a t =>
        obtain ⟨x, hx, hx2⟩ := h1 0 (by omega)
        simp at hx; subst hx
        have := ih t (fun i hi => by
          obtain ⟨y, hy, hy2⟩ := h1 (i + 1) (by omega)
          rw [List.getElem?_cons_succ] at hy
          exact ⟨y, hy, hy2⟩) (by
          rcases h2 with h2 | ⟨y, h2, h3⟩
          · simp at h2; exact .inl h2
          · rw [List.getElem?_cons_succ] at h2; exact .inr ⟨y, h2, h3⟩)
        unfold wlen at this ⊢
        simp [hx2, this]
  refine key _ _ (fun i hi => ?_) ?_
  · rw [List.getElem?_drop]
    exact h (p + i) (by omega) (by omega)
  · rw [List.getElem?_drop, List.length_drop]
    rcases hk with hk | hk
    · exact .inl (by omega)
    · right
      rw [show p + (k - p) = k by omega]
      exact hk
theorem wlen_le (L : List UInt8) (p : Nat) (hp : p ≤ L.length) : p + wlen (L.drop p) ≤ L.length := by
  have h : wlen (L.drop p) ≤ (L.drop p).length := by
    unfold wlen
    exact (List.takeWhile_sublist _).length_le
  rw [List.length_drop] at h
  omega
set_option maxHeartbeats 1600000 in
set_option maxRecDepth 100000 in
theorem word_c (g b : Nat) (v : Value) (s : ByteArray) (p : Nat) (l : List Tk) (w : World) (h : Lx w g b s p v l) (hp : p ≤ s.size) (hs : s.size ≤ 4096) :
    Calls Try.prog 81 #[.pointer (some ⟨g, 0, none⟩)] w fun e w' => e = .returned (.int .i64 (wend s.data.toList p)) ∧ w = w' := by
  obtain ⟨c0, c1, c2⟩ := cells3 h.blk
  have H := Lib.hid h
  clear h
  go_enter Try.func81, Try.ntmps81
  go_wp2_with fail
  go_loop [3] (fun iv => ∃ k : Nat, p ≤ k ∧ k ≤ s.size ∧ iv = .int .i64 k ∧ ∀ i, p ≤ i → i < k → ∃ x, s.data.toList[i]? = some x ∧ isT x = true) (fun iv => s.size - (intOf iv).toNat)
  case atStart => exact ⟨p, by omega, hp, rfl, fun i h1 h2 => by omega⟩
  case round =>
    obtain ⟨k, hk0, hk, rfl, hv⟩ := hrel
    have HV := Lib.hid hv
    clear hv
    by_cases hlt : k < s.size
    · have hc := byte_at s k hlt
      have HC := Lib.hid hc
      clear hc
      cases hl : isL s[k]
      · have HL := Lib.hid hl
        clear hl
        cases hg : isG s[k]
        · have HG := Lib.hid hg
          have hw := wlen_of s.data.toList p k hk0 HV.out (.inr ⟨_, HC.out, by unfold isT; rw [HL.out, HG.out]; rfl⟩)
          have HW : Hid (wend s.data.toList p = k) := by show p + wlen _ = _; rw [hw]; omega
          clear hg hw
          go_wp2_with fail
          refine (letter_c _ _).mono ?_
          rintro e w1 ⟨rfl, rfl⟩
          rw [HL.out]
          go_wp2_with fail
          refine (digit_c _ _).mono ?_
          rintro e w1 ⟨rfl, rfl⟩
          rw [HG.out]
          go_wp2_with fail
          go_returns
          exact ⟨by rw [HW.out]; rfl, rfl⟩
        · have HG := Lib.hid hg
          clear hg
          go_wp2_with fail
          refine (letter_c _ _).mono ?_
          rintro e w1 ⟨rfl, rfl⟩
          rw [HL.out]
          go_wp2_with fail
          refine (digit_c _ _).mono ?_
          rintro e w1 ⟨rfl, rfl⟩
          rw [HG.out]
          go_wp2_with fail
          exact ⟨⟨k + 1, by omega, by omega, by simp, fun i h1 h2 => by
            rcases (by omega : i = k ∨ i < k) with h | h
            · subst h; exact ⟨_, HC.out, by unfold isT; rw [HL.out, HG.out]; rfl⟩
            · exact HV.out i h1 h⟩, by simp [intOf]; omega⟩
      · have HL := Lib.hid hl
        clear hl
        go_wp2_with fail
        refine (letter_c _ _).mono ?_
        rintro e w1 ⟨rfl, rfl⟩
        rw [HL.out]
        go_wp2_with fail
        exact ⟨⟨k + 1, by omega, by omega, by simp, fun i h1 h2 => by
          rcases (by omega : i = k ∨ i < k) with h | h
          · subst h; exact ⟨_, HC.out, by unfold isT; rw [HL.out]; rfl⟩
          · exact HV.out i h1 h⟩, by simp [intOf]; omega⟩
    · have hks : k = s.size := by omega
      subst hks
      have hw := wlen_of s.data.toList p s.size hk0 HV.out (.inl (by simp))
      have HW : Hid (wend s.data.toList p = s.size) := by show p + wlen _ = _; rw [hw]; omega
      clear hw hlt
      go_wp2
      go_returns
      exact ⟨by rw [HW.out]; rfl, rfl⟩
theorem wend_le (s : ByteArray) (p : Nat) (hp : p ≤ s.size) : p ≤ wend s.data.toList p ∧ wend s.data.toList p ≤ s.size := by
  have := wlen_le s.data.toList p (by simpa using hp)
  rw [Array.length_toList] at this
  exact ⟨Nat.le_add_right _ _, this⟩
theorem lput_s (g b : Nat) (v : Value) (s : ByteArray) (p q : Nat) (l : List Tk) (k n a0 : Int) (t : ByteArray) (w : World) (h : Lx w g b s p v l) (hb : b ≤ w.heap.size) (hl : l.length ≤ 1000000) :
    Calls Try.prog 50 #[.pointer (some ⟨g, 0, none⟩), .agg #[.int .i64 k, .string t, .int .i64 n, .int .i64 a0], .int .i64 q] w (PutLP g b v s q (l ++ [⟨k, t.data.toList, n, p⟩]) w) := by
  have := lput_c g b v s p q l k n a0 t.data.toList w h hb hl
  rw [show (⟨t.data.toList.toArray⟩ : ByteArray) = t by rw [Array.toArray_toList]] at this
  exact this
theorem ext_eq (s : ByteArray) (p q : Nat) : (s.extract p q).data.toList = (s.data.toList.drop p).take (q - p) := by
  rw [ByteArray.data_extract, Array.toList_extract, List.extract_eq_take_drop]
/-- One word: it is found, or not. -/
structure LexR where
  ok : Bool
  t : Tk
  nx : Nat
def NextP (r : LexR) (g b : Nat) (v : Value) (s : ByteArray) (p : Nat) (l : List Tk) (w : World) (e : Ending) (w' : World) : Prop :=
  (r.ok = true → ∃ v', e = .returned .nilIface ∧ Lv g b v s r.nx (l ++ [r.t]) w v' w') ∧ (r.ok = false → ∃ u v', e = .returned u ∧ IsErr u ∧ Lv g b v s p l w v' w')
def namedR (L : List UInt8) (p : Nat) : LexR := ⟨decide (wend L p - p ≤ 16), ⟨1, (L.drop p).take (wend L p - p), 0, p⟩, wend L p⟩
set_option maxHeartbeats 1600000 in
set_option maxRecDepth 100000 in
theorem named_c (g b : Nat) (v : Value) (s : ByteArray) (p : Nat) (l : List Tk) (w : World) (h : Lx w g b s p v l) (hb : b ≤ w.heap.size) (hl : l.length ≤ 1000000) (hp : p ≤ s.size) (hs : s.size ≤ 4096) :
    Calls Try.prog 67 #[.pointer (some ⟨g, 0, none⟩)] w (NextP (namedR s.data.toList p) g b v s p l w) := by
  obtain ⟨c0, c1, c2⟩ := cells3 h.blk
  have H := Lib.hid h
  obtain ⟨q0, q1⟩ := wend_le s p hp
  have HW : Hid (∀ w, Lx w g b s p v l → Calls Try.prog 81 #[.pointer (some ⟨g, 0, none⟩)] w fun e w' => e = .returned (.int .i64 (wend s.data.toList p)) ∧ w = w') := fun w h => word_c g b v s p l w h hp hs
  have HR : Hid (namedR s.data.toList p = ⟨decide (wend s.data.toList p - p ≤ 16), ⟨1, (s.data.toList.drop p).take (wend s.data.toList p - p), 0, p⟩, wend s.data.toList p⟩) := rfl
  clear h
  generalize wend s.data.toList p = q at *
  generalize namedR s.data.toList p = r at *
  rcases (by omega : (16 : Int) < (q : Int) - (p : Int) ∨ (q : Int) - (p : Int) ≤ 16) with h16 | h16
  · have HOK : Hid (r.ok = false) := by show _ = _; rw [HR.out]; simp; omega
    go_enter Try.func67, Try.ntmps67
    go_wp2_with fail
    refine (HW.out _ H.out).mono ?_
    rintro e w1 ⟨rfl, rfl⟩
    go_wp2_with fail
    refine (new_c _ _ _).mono ?_
    rintro e w2 ⟨u, rfl, hu, t2⟩
    have HU := Lib.hid (And.intro hu t2)
    clear hu t2
    go_wp2
    go_returns
    exact ⟨fun h => (by rw [HOK.out] at h; cases h), fun _ => ⟨u, v, rfl, HU.out.1, lv_refl H.out HU.out.2⟩⟩
  · have HOK : Hid (r.ok = true) := by show _ = _; rw [HR.out]; simp; omega
    have hq2 : (q : Int) ≤ (s.size : Int) := by omega
    have hpq : (p : Int) ≤ (q : Int) := by omega
    go_enter Try.func67, Try.ntmps67
    go_wp2_with fail
    refine (HW.out _ H.out).mono ?_
    rintro e w1 ⟨rfl, rfl⟩
    go_wp2_with fail
    go_still_tail 13, (by kernel_rfl)
    go_wp2_with fail
    refine (lput_s g b v s p q l 1 0 0 (s.extract p q) _ (H.out.tch ((Tch.refl No w).drewN 1)) hb hl).mono ?_
    rintro e w2 ⟨v2, rfl, a2⟩
    have A2 := Lib.hid (a2.no ((Tch.refl No w).drewN 1))
    clear a2
    go_wp2
    go_returns
    exact ⟨fun _ => ⟨v2, rfl, by rw [HR.out]; simp only; rw [← ext_eq]; exact A2.out⟩, fun h => (by rw [HOK.out] at h; cases h)⟩
end Go.Proofs.Ytmoiehbhhplckaa
