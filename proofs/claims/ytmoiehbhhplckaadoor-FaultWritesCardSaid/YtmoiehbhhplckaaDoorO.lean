/- Slices of structs of ints and truths that came in, opened to their cells. Conditions: none. -/
import Derived.Test.YtmoiehbhhplckaaDoorRows
import Derived.Test.YtmoiehbhhplckaaDoorK
import Derived.Deep.Slices
import Derived.ProofKit
import Derived.OpenShut
import Derived.SizedLaws
import Derived.ShutString
namespace Go.Proofs.YtmoiehbhhplckaaDoor
set_option linter.unusedVariables false
set_option linter.unusedSimpArgs false
open Go.ChangeShapes Go.WideShapes Go.ChangeAt Go.RowKit Go.Deep

theorem own : ownKnob Tryd.prog.godebug = none := by kernel_rfl
theorem laidOut : laidOutB Tryd.prog = true := by kernel_rfl
theorem cells32 : Tryd.prog.cellsOf 32 = 2 := by kernel_rfl
theorem c3 : Tryd.prog.cellsOf 3 = 1 := by kernel_rfl
theorem c23 : Tryd.prog.cellsOf 23 = 1 := by kernel_rfl

/-- A list whose place k is what is chosen for k. -/
theorem list_of {α : Type} [Inhabited α] (n : Nat) (P : Nat → α → Prop) (h : ∀ k, k < n → ∃ x, P k x) : ∃ xs : List α, xs.length = n ∧ ∀ k x, xs[k]? = some x → P k x := by
  induction n with
  | zero => exact ⟨[], rfl, fun k x hk => by simp at hk⟩
  | succ n ih =>
    obtain ⟨xs, hl, hx⟩ := ih (fun k hk => h k (by omega))
    obtain ⟨x, hxn⟩ := h n (by omega)
    refine ⟨xs ++ [x], by simp [hl], fun k y hk => ?_⟩
    rcases Nat.lt_or_ge k n with hlt | hge
    · rw [List.getElem?_append_left (by omega)] at hk
      exact hx k y hk
    · rw [List.getElem?_append_right (by omega), hl] at hk
      have hkn : k = n := by
        have := (List.getElem?_eq_some_iff.1 hk).1
        simp at this; omega
      subst hkn
      simp at hk
      subst hk
      exact hxn
theorem spot_of_cell {w : World} {a : Addr} {v : Value} (h : w.cell? a = some v) : a = ⟨a.block, a.off, none⟩ := by
  obtain ⟨b, o, s⟩ := a
  cases s with
  | none => rfl
  | some s =>
    exfalso
    unfold World.cell? at h
    split at h <;> simp at h
theorem cell_at {w : World} {a : Addr} {i : Nat} {v : Value} (h : w.cell? (a.add i) = some v) : w.cell? ⟨a.block, a.off + i, none⟩ = some v := by
  have := spot_of_cell h
  rw [this] at h
  unfold Addr.add at h
  split at h
  · rename_i h0; subst h0; exact h
  · exact h
theorem rd_mk {α : Type} {f : α → List Value} {s : Nat} (hs : 0 < s) (hf : ∀ x, (f x).length = s) {w : World} {l : List α} {g off n : Nat} (hn : l.length = n) (hg : g < w.heap.size)
    (h : ∀ k x, l[k]? = some x → ∀ r, r < s → ∀ u, (f x)[r]? = some u → w.cell? ⟨g, off + (k * s + r), none⟩ = some u) : Rd w No s (some ⟨g, off, none⟩) n (l.flatMap f) := by
  refine ⟨by rw [flat_length hf, hn], fun _ => ⟨g, off, rfl, fun f => f, hg, fun j u hu => ?_⟩⟩
  have hj := (List.getElem?_eq_some_iff.1 hu).1
  rw [flat_length hf] at hj
  have hk : j / s < l.length := (Nat.div_lt_iff_lt_mul hs).2 hj
  have hr : j % s < s := Nat.mod_lt _ hs
  have hx := List.getElem?_eq_getElem hk
  have := flat_get hf l (j / s) (j % s) hr _ hx
  have e : j / s * s + j % s = j := by rw [Nat.mul_comm]; exact Nat.div_add_mod j s
  rw [e] at this
  rw [this] at hu
  have := h _ _ hx _ hr u hu
  rw [e] at this
  exact this

/-- A number of 64 bits. -/
def Fit (n : Int) : Prop := -9223372036854775808 ≤ n ∧ n ≤ 9223372036854775807
structure Opp where
  kind : Int
  at_ : Int
instance : Inhabited Opp := ⟨⟨0, 0⟩⟩
def ocells (o : Opp) : List Value := [.int .i64 o.kind, .int .i64 o.at_]
theorem ocells_length (o : Opp) : (ocells o).length = 2 := rfl

section
variable {H : Type} {enc : TypeId × Value → H} {w : World} {base : Nat} {spare : Nat → Bool} {held : Bool}
theorem trod_op {fuel : Nat} {cs : List Value} {y : DataW H × List MemPlace} (h : DataW.trod enc Tryd.prog w base spare held fuel 32 cs = some y) : ∃ x : Opp, cs = ocells x ∧ Fit x.kind ∧ Fit x.at_ := by
  obtain ⟨xs, m, _, _, hl, hxl, hf⟩ := DataW.trod_struct Tryd.underlying32 h
  rw [cells32] at hl
  match cs, hl with
  | [k0, k1], _ =>
    match xs, hxl with
    | [y0, y1], _ =>
      have h0 : DataW.trod enc Tryd.prog w base spare held m 23 [k0] = some y0 := by
        have h := hf 0 _ rfl
        change DataW.trod enc Tryd.prog w base spare held m 23 (([k0, k1].drop 0).take (Tryd.prog.cellsOf 23)) = _ at h
        rw [c23] at h
        exact h
      have h1 : DataW.trod enc Tryd.prog w base spare held m 3 [k1] = some y1 := by
        have h := hf 1 _ rfl
        change DataW.trod enc Tryd.prog w base spare held m 3 (([k0, k1].drop 1).take (Tryd.prog.cellsOf 3)) = _ at h
        rw [c3] at h
        exact h
      obtain ⟨a0, e0, w0⟩ := DataW.trod_int Tryd.underlying23 h0
      obtain ⟨a1, e1, w1⟩ := DataW.trod_int Tryd.underlying3 h1
      simp at e0 e1
      subst e0 e1
      exact ⟨⟨a0, a1⟩, rfl, ⟨bounds_i64 w0.2, bounds_i64 w1.2⟩⟩
theorem open_ops {t : TypeId} (ht : Tryd.prog.underlying t = some (.slice 32)) {a : Option Addr} {len cap : Nat} {d : DataW H} {ps : List MemPlace} (h : DataW.Trod enc Tryd.prog w base spare held t (.slice a len cap) d ps) :
    len ≤ cap ∧ cap ≤ 9223372036854775807 ∧ ∃ xs : List Opp, Rd w No 2 a len (xs.flatMap ocells) ∧ ∀ x ∈ xs, (Fit x.kind ∧ Fit x.at_) := by
  obtain ⟨fuel, hf⟩ := h
  rcases open_slice ht hf with ⟨hcs, _⟩ | ⟨ad, l, c, m, n, D, Pl, hcs, _, hl, hm, hmm, _, hi⟩
  · simp [Value.cells] at hcs
    obtain ⟨rfl, rfl, rfl⟩ := hcs
    exact ⟨by omega, by omega, [], Rd.nil, fun x hx => by cases hx⟩
  · simp [Value.cells] at hcs
    obtain ⟨rfl, rfl, rfl⟩ := hcs
    have hlm : len ≤ m := by rw [hmm]; split <;> omega
    refine ⟨hl, hm, ?_⟩
    rcases Nat.eq_zero_or_pos len with h0 | hp
    · subst h0
      exact ⟨[], Rd.nil, fun x hx => by cases hx⟩
    obtain ⟨xs, hxl, hx⟩ := list_of len (fun k (x : Opp) => (ad.block < w.heap.size ∧ ∀ r, r < 2 → ∀ u, (ocells x)[r]? = some u → w.cell? ⟨ad.block, ad.off + (k * 2 + r), none⟩ = some u) ∧ (Fit x.kind ∧ Fit x.at_)) (fun k hk => by
        obtain ⟨cs', hc, ht'⟩ := hi k (by omega)
        obtain ⟨x, rfl, hok⟩ := trod_op ht'
        rw [cells32] at hc
        obtain ⟨_, hcl, hat⟩ := World.cells?_some hc
        have hcell : ∀ r, r < 2 → ∀ u, (ocells x)[r]? = some u → w.cell? (ad.add (k * 2 + r)) = some u := fun r hr u hu => by
          have := (congrArg w.cell? (Go.Deep.add_add ad (k * 2) r)).symm.trans (hat r (by omega))
          rw [this]
          exact hu
        have h0 := cell_at (hcell 0 (by omega) _ rfl)
        exact ⟨x, ⟨World.block_lt_of_cell? w ⟨ad.block, ad.off + (k * 2 + 0), none⟩ h0, fun r hr u hu => cell_at (hcell r hr u hu)⟩, hok⟩)
    obtain ⟨x0, hx0⟩ : ∃ x, xs[0]? = some x := ⟨xs[0]'(by omega), List.getElem?_eq_getElem (by omega)⟩
    refine ⟨xs, ?_, fun x hm => ?_⟩
    · have h1 := (hx 0 x0 hx0).1
      have had : ad = ⟨ad.block, ad.off, none⟩ := by
        obtain ⟨cs', hc, ht'⟩ := hi 0 (by omega)
        obtain ⟨x, rfl, _⟩ := trod_op ht'
        rw [cells32] at hc
        obtain ⟨_, hcl, hat⟩ := World.cells?_some hc
        have g0 := (congrArg w.cell? (Go.Deep.add_add ad (0 * 2) 0)).symm.trans (hat 0 (by omega))
        exact spot_of_cell g0
      have := rd_mk (f := ocells) (by omega) ocells_length hxl h1.1 (fun k x hk => (hx k x hk).1.2)
      rw [← had] at this
      exact this
    · obtain ⟨k, hk⟩ := List.getElem?_of_mem hm
      exact (hx k x hk).2
end
end Go.Proofs.YtmoiehbhhplckaaDoor
