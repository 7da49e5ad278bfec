/- A slice of steps that came in, opened to its cells. Conditions: none. -/
import Derived.Test.YtmfhilddemgabaaRows
import Derived.Test.YtmfhilddemgabaaR1
import Derived.Deep.Slices
import Derived.ProofKit
import Derived.OpenShut
import Derived.SizedLaws
import Derived.ShutString
namespace Go.Proofs.Ytmfhilddemgabaa
set_option linter.unusedVariables false
set_option linter.unusedSimpArgs false
open Go.ChangeShapes Go.WideShapes Go.ChangeAt Go.RowKit Go.Deep

theorem own : ownKnob Try.prog.godebug = none := by kernel_rfl
theorem laidOut : laidOutB Try.prog = true := by kernel_rfl
theorem cells48 : Try.prog.cellsOf 48 = 3 := by kernel_rfl

section
variable {H : Type} {enc : TypeId × Value → H} {w : World} {base : Nat} {spare : Nat → Bool} {held : Bool}
theorem trod_step {fuel : Nat} {cs : List Value} {y : DataW H × List MemPlace} (h : DataW.trod enc Try.prog w base spare held fuel 48 cs = some y) :
    ∃ x : Stp, x.Ok ∧ cs = [.int .i64 x.kind, .int .i64 x.at_, .int .i64 x.n] := by
  obtain ⟨xs, m, _, _, hl, hxl, hf⟩ := DataW.trod_struct Try.underlying48 h
  rw [cells48] at hl
  match cs, hl with
  | [c0, c1, c2], _ =>
    match xs, hxl with
    | [y0, y1, y2], _ =>
      have h0 := hf 0 _ rfl
      have h1 := hf 1 _ rfl
      have h2 := hf 2 _ rfl
      rw [show Try.prog.cellsOf _ = 1 by kernel_rfl] at h0 h1 h2
      simp at h0 h1 h2
      obtain ⟨a, e0, _, w0⟩ := DataW.trod_int Try.underlying3 h0
      obtain ⟨b, e1, _, w1⟩ := DataW.trod_int Try.underlying2 h1
      obtain ⟨c, e2, _, w2⟩ := DataW.trod_int Try.underlying2 h2
      simp at e0 e1 e2
      subst e0 e1 e2
      have b0 := bounds_i64 w0
      have b1 := bounds_i64 w1
      have b2 := bounds_i64 w2
      exact ⟨⟨a, b, c⟩, ⟨b0.1, b0.2, b1.1, b1.2, b2.1, b2.2⟩, rfl⟩

/-- A list whose place k is what is chosen for k. -/
theorem list_of {α : Type} [Inhabited α] (n : Nat) (P : Nat → α → Prop) (h : ∀ k, k < n → ∃ x, P k x) : ∃ xs : List α, xs.length = n ∧ ∀ k, k < n → P k (xs.getD k default) := by
  induction n with
  | zero => exact ⟨[], rfl, fun k hk => absurd hk (by omega)⟩
  | succ n ih =>
    obtain ⟨xs, hl, hx⟩ := ih (fun k hk => h k (by omega))
    obtain ⟨x, hxn⟩ := h n (by omega)
    refine ⟨xs ++ [x], by simp [hl], fun k hk => ?_⟩
    rcases Nat.lt_or_ge k n with hlt | hge
    · have : (xs ++ [x]).getD k default = xs.getD k default := by
        simp only [List.getD_eq_getElem?_getD]
        rw [List.getElem?_append_left (by omega)]
      rw [this]; exact hx k hlt
    · have hkn : k = n := by omega
      subst hkn
      have : (xs ++ [x]).getD k default = x := by
        simp only [List.getD_eq_getElem?_getD]
        rw [List.getElem?_append_right (by omega)]
        simp [hl]
      rw [this]; exact hxn

theorem spot_of_cell {a : Addr} {v : Value} (h : w.cell? a = some v) : a = ⟨a.block, a.off, none⟩ := by
  obtain ⟨b, o, s⟩ := a
  cases s with
  | none => rfl
  | some s =>
    exfalso
    unfold World.cell? at h
    split at h <;> simp at h

theorem cell_at {a : Addr} {i : Nat} {v : Value} (h : w.cell? (a.add i) = some v) : w.cell? ⟨a.block, a.off + i, none⟩ = some v := by
  have := spot_of_cell h
  rw [this] at h
  unfold Addr.add at h
  split at h
  · rename_i h0; subst h0; exact h
  · exact h

theorem open_steps {t : TypeId} (ht : Try.prog.underlying t = some (.slice 48)) {a : Option Addr} {len cap : Nat} {d : DataW H} {ps : List MemPlace} (h : DataW.Trod enc Try.prog w base spare held t (.slice a len cap) d ps) :
    len ≤ cap ∧ cap ≤ 9223372036854775807 ∧ ∃ xs, Steps3 w a len xs := by
  obtain ⟨fuel, hf⟩ := h
  rcases open_slice ht hf with ⟨hcs, _⟩ | ⟨ad, l, c, m, n, D, Pl, hcs, _, hl, hm, hmm, _, hi⟩
  · simp [Value.cells] at hcs
    obtain ⟨rfl, rfl, rfl⟩ := hcs
    exact ⟨by omega, by omega, [], rfl, fun k hk => absurd hk (by omega)⟩
  · simp [Value.cells] at hcs
    obtain ⟨rfl, rfl, rfl⟩ := hcs
    have hlm : len ≤ m := by rw [hmm]; split <;> omega
    refine ⟨hl, hm, ?_⟩
    obtain ⟨xs, hxl, hx⟩ := list_of len (fun k (x : Stp) => x.Ok ∧ w.cell? ⟨ad.block, ad.off + k * 3, none⟩ = some (.int .i64 x.kind) ∧
      w.cell? ⟨ad.block, ad.off + k * 3 + 1, none⟩ = some (.int .i64 x.at_) ∧ w.cell? ⟨ad.block, ad.off + k * 3 + 2, none⟩ = some (.int .i64 x.n)) (fun k hk => by
        obtain ⟨cs', hc, ht'⟩ := hi k (by omega)
        obtain ⟨x, hxo, rfl⟩ := trod_step ht'
        rw [cells48] at hc
        obtain ⟨_, hcl, hat⟩ := World.cells?_some hc
        have g0 := cell_at ((congrArg w.cell? (Go.Deep.add_add ad (k * 3) 0)).symm.trans (hat 0 (by omega)))
        have g1 := cell_at ((congrArg w.cell? (Go.Deep.add_add ad (k * 3) 1)).symm.trans (hat 1 (by omega)))
        have g2 := cell_at ((congrArg w.cell? (Go.Deep.add_add ad (k * 3) 2)).symm.trans (hat 2 (by omega)))
        exact ⟨x, hxo, g0, g1, g2⟩)
    refine ⟨xs, hxl, fun k hk => ?_⟩
    have had : ad = ⟨ad.block, ad.off, none⟩ := by
      obtain ⟨cs', hc, ht'⟩ := hi 0 (by omega)
      obtain ⟨x, hxo, rfl⟩ := trod_step ht'
      rw [cells48] at hc
      obtain ⟨_, hcl, hat⟩ := World.cells?_some hc
      have g0 := (congrArg w.cell? (Go.Deep.add_add ad (0 * 3) 0)).symm.trans (hat 0 (by omega))
      exact spot_of_cell g0
    exact ⟨ad.block, ad.off, congrArg some had, hx k hk⟩
end
theorem runs_row (size rate : Int) (A : Option Addr) (n c : Nat) (w : World) (_ : -9223372036854775808 ≤ size) (_ : size ≤ 9223372036854775807) (_ : -9223372036854775808 ≤ rate) (_ : rate ≤ 9223372036854775807)
    (h : n ≤ c) (hm : c ≤ 9223372036854775807) (xs : List Stp) (hx : Steps3 w A n xs) : Calls Try.prog 4 #[.int .i64 size, .int .i64 rate, .slice A n c] w (Out true w) := runs_c size rate A n c w h hm xs hx
end Go.Proofs.Ytmfhilddemgabaa
