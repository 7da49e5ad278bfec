/- A slice of calls that came in, opened to its cells. Conditions: none. -/
import Derived.Test.YtmfhilddemgabaaRows
import Derived.Test.YtmfhilddemgabaaE13
import Derived.Deep.Slices
import Derived.ProofKit
import Derived.OpenShut
import Derived.SizedLaws
import Derived.ShutString
namespace Go.Proofs.Ytmfhilddemgabaa
set_option linter.unusedVariables false
set_option linter.unusedSimpArgs false
open Go.ChangeShapes Go.WideShapes Go.ChangeAt Go.RowKit Go.Deep

theorem own : ownKnob Try.prog.godebug = none := by kernel_rfl
theorem laidOut : laidOutB Try.prog = true := by kernel_rfl
theorem cells33 : Try.prog.cellsOf 33 = 8 := by kernel_rfl
theorem cells23 : Try.prog.cellsOf 23 = 6 := by kernel_rfl
theorem c3 : Try.prog.cellsOf 3 = 1 := by kernel_rfl
theorem c2 : Try.prog.cellsOf 2 = 1 := by kernel_rfl
theorem c4 : Try.prog.cellsOf 4 = 1 := by kernel_rfl
theorem c9 : Try.prog.cellsOf 9 = 1 := by kernel_rfl

/-- A list whose place k is what is chosen for k. -/
theorem list_of {α : Type} [Inhabited α] (n : Nat) (P : Nat → α → Prop) (h : ∀ k, k < n → ∃ x, P k x) : ∃ xs : List α, xs.length = n ∧ ∀ k x, xs[k]? = some x → P k x := by
  induction n with
  | zero => exact ⟨[], rfl, fun k x hk => by simp at hk⟩
  | succ n ih =>
    obtain ⟨xs, hl, hx⟩ := ih (fun k hk => h k (by omega))
    obtain ⟨x, hxn⟩ := h n (by omega)
    refine ⟨xs ++ [x], by simp [hl], fun k y hk => ?_⟩
    rcases Nat.lt_or_ge k n with hlt | hge
    · rw [List.getElem?_append_left (by omega)] at hk
      exact hx k y hk
    · rw [List.getElem?_append_right (by omega), hl] at hk
      have hkn : k = n := by
        have := (List.getElem?_eq_some_iff.1 hk).1
        simp at this; omega
      subst hkn
      simp at hk
      subst hk
      exact hxn
theorem spot_of_cell {w : World} {a : Addr} {v : Value} (h : w.cell? a = some v) : a = ⟨a.block, a.off, none⟩ := by
  obtain ⟨b, o, s⟩ := a
  cases s with
  | none => rfl
  | some s =>
    exfalso
    unfold World.cell? at h
    split at h <;> simp at h
theorem cell_at {w : World} {a : Addr} {i : Nat} {v : Value} (h : w.cell? (a.add i) = some v) : w.cell? ⟨a.block, a.off + i, none⟩ = some v := by
  have := spot_of_cell h
  rw [this] at h
  unfold Addr.add at h
  split at h
  · rename_i h0; subst h0; exact h
  · exact h
theorem rd_mk {α : Type} {f : α → List Value} {s : Nat} (hs : 0 < s) (hf : ∀ x, (f x).length = s) {w : World} {l : List α} {g off n : Nat} (hn : l.length = n) (hg : g < w.heap.size)
    (h : ∀ k x, l[k]? = some x → ∀ r, r < s → ∀ u, (f x)[r]? = some u → w.cell? ⟨g, off + (k * s + r), none⟩ = some u) : Rd w No s (some ⟨g, off, none⟩) n (l.flatMap f) := by
  refine ⟨by rw [flat_length hf, hn], fun _ => ⟨g, off, rfl, fun f => f, hg, fun j u hu => ?_⟩⟩
  have hj := (List.getElem?_eq_some_iff.1 hu).1
  rw [flat_length hf] at hj
  have hk : j / s < l.length := (Nat.div_lt_iff_lt_mul hs).2 hj
  have hr : j % s < s := Nat.mod_lt _ hs
  have hx := List.getElem?_eq_getElem hk
  have := flat_get hf l (j / s) (j % s) hr _ hx
  have e : j / s * s + j % s = j := by rw [Nat.mul_comm]; exact Nat.div_add_mod j s
  rw [e] at this
  rw [this] at hu
  have := h _ _ hx _ hr u hu
  rw [e] at this
  exact this

section
variable {H : Type} {enc : TypeId × Value → H} {w : World} {base : Nat} {spare : Nat → Bool} {held : Bool}
theorem trod_ins {fuel : Nat} {cs : List Value} {y : DataW H × List MemPlace} (h : DataW.trod enc Try.prog w base spare held fuel 23 cs = some y) : ∃ x : Ins, cs = icells x := by
  obtain ⟨xs, m, _, _, hl, hxl, hf⟩ := DataW.trod_struct Try.underlying23 h
  rw [cells23] at hl
  match cs, hl with
  | [k0, k1, k2, k3, k4, k5], _ =>
    match xs, hxl with
    | [y0, y1, y2, y3, y4, y5], _ =>
      have h0 : DataW.trod enc Try.prog w base spare held m 3 [k0] = some y0 := by
        have h := hf 0 _ rfl
        change DataW.trod enc Try.prog w base spare held m 3 (([k0, k1, k2, k3, k4, k5].drop 0).take (Try.prog.cellsOf 3)) = _ at h
        rw [c3] at h
        exact h
      have h1 : DataW.trod enc Try.prog w base spare held m 3 [k1] = some y1 := by
        have h := hf 1 _ rfl
        change DataW.trod enc Try.prog w base spare held m 3 (([k0, k1, k2, k3, k4, k5].drop 1).take (Try.prog.cellsOf 3)) = _ at h
        rw [c3] at h
        exact h
      have h2 : DataW.trod enc Try.prog w base spare held m 9 [k2] = some y2 := by
        have h := hf 2 _ rfl
        change DataW.trod enc Try.prog w base spare held m 9 (([k0, k1, k2, k3, k4, k5].drop 2).take (Try.prog.cellsOf 9)) = _ at h
        rw [c9] at h
        exact h
      have h3 : DataW.trod enc Try.prog w base spare held m 2 [k3] = some y3 := by
        have h := hf 3 _ rfl
        change DataW.trod enc Try.prog w base spare held m 2 (([k0, k1, k2, k3, k4, k5].drop 3).take (Try.prog.cellsOf 2)) = _ at h
        rw [c2] at h
        exact h
      have h4 : DataW.trod enc Try.prog w base spare held m 4 [k4] = some y4 := by
        have h := hf 4 _ rfl
        change DataW.trod enc Try.prog w base spare held m 4 (([k0, k1, k2, k3, k4, k5].drop 4).take (Try.prog.cellsOf 4)) = _ at h
        rw [c4] at h
        exact h
      have h5 : DataW.trod enc Try.prog w base spare held m 3 [k5] = some y5 := by
        have h := hf 5 _ rfl
        change DataW.trod enc Try.prog w base spare held m 3 (([k0, k1, k2, k3, k4, k5].drop 5).take (Try.prog.cellsOf 3)) = _ at h
        rw [c3] at h
        exact h
      obtain ⟨a0, e0, _⟩ := DataW.trod_int Try.underlying3 h0
      obtain ⟨a1, e1, _⟩ := DataW.trod_int Try.underlying3 h1
      obtain ⟨a2, e2, _⟩ := DataW.trod_string Try.underlying9 h2
      obtain ⟨a3, e3, _⟩ := DataW.trod_int Try.underlying2 h3
      obtain ⟨a4, e4, _⟩ := DataW.trod_bool Try.underlying4 h4
      obtain ⟨a5, e5, _⟩ := DataW.trod_int Try.underlying3 h5
      simp at e0 e1 e2 e3 e4 e5
      subst e0 e1 e2 e3 e4 e5
      exact ⟨⟨a0, a1, a2, a3, a4, a5⟩, rfl⟩
theorem trod_opp {fuel : Nat} {cs : List Value} {y : DataW H × List MemPlace} (h : DataW.trod enc Try.prog w base spare held fuel 33 cs = some y) : ∃ x : Opp, cs = ocells x := by
  obtain ⟨xs, m, _, _, hl, hxl, hf⟩ := DataW.trod_struct Try.underlying33 h
  rw [cells33] at hl
  match cs, hl with
  | [k0, k1, k2, k3, k4, k5, k6, k7], _ =>
    match xs, hxl with
    | [y0, y1, y2], _ =>
      have h0 : DataW.trod enc Try.prog w base spare held m 3 [k0] = some y0 := by
        have h := hf 0 _ rfl
        change DataW.trod enc Try.prog w base spare held m 3 (([k0, k1, k2, k3, k4, k5, k6, k7].drop 0).take (Try.prog.cellsOf 3)) = _ at h
        rw [c3] at h
        exact h
      have h1 : DataW.trod enc Try.prog w base spare held m 23 [k1, k2, k3, k4, k5, k6] = some y1 := by
        have h := hf 1 _ rfl
        change DataW.trod enc Try.prog w base spare held m 23 (([k0, k1, k2, k3, k4, k5, k6, k7].drop 1).take (Try.prog.cellsOf 23)) = _ at h
        rw [cells23] at h
        exact h
      have h2 : DataW.trod enc Try.prog w base spare held m 2 [k7] = some y2 := by
        have h := hf 2 _ rfl
        change DataW.trod enc Try.prog w base spare held m 2 (([k0, k1, k2, k3, k4, k5, k6, k7].drop 7).take (Try.prog.cellsOf 2)) = _ at h
        rw [c2] at h
        exact h
      obtain ⟨a0, e0, _⟩ := DataW.trod_int Try.underlying3 h0
      obtain ⟨x, e1⟩ := trod_ins h1
      obtain ⟨a2, e2, _⟩ := DataW.trod_int Try.underlying2 h2
      simp [icells] at e0 e1 e2
      obtain ⟨p0, p1, p2, p3, p4, p5⟩ := e1
      subst e0 p0 p1 p2 p3 p4 p5 e2
      exact ⟨⟨a0, x, a2⟩, rfl⟩

theorem open_ops {t : TypeId} (ht : Try.prog.underlying t = some (.slice 33)) {a : Option Addr} {len cap : Nat} {d : DataW H} {ps : List MemPlace} (h : DataW.Trod enc Try.prog w base spare held t (.slice a len cap) d ps) :
    len ≤ cap ∧ cap ≤ 9223372036854775807 ∧ ∃ xs, Rd w No 8 a len (orows xs) := by
  obtain ⟨fuel, hf⟩ := h
  rcases open_slice ht hf with ⟨hcs, _⟩ | ⟨ad, l, c, m, n, D, Pl, hcs, _, hl, hm, hmm, _, hi⟩
  · simp [Value.cells] at hcs
    obtain ⟨rfl, rfl, rfl⟩ := hcs
    exact ⟨by omega, by omega, [], Rd.nil⟩
  · simp [Value.cells] at hcs
    obtain ⟨rfl, rfl, rfl⟩ := hcs
    have hlm : len ≤ m := by rw [hmm]; split <;> omega
    refine ⟨hl, hm, ?_⟩
    rcases Nat.eq_zero_or_pos len with h0 | hp
    · subst h0
      exact ⟨[], Rd.nil⟩
    obtain ⟨xs, hxl, hx⟩ := list_of len (fun k (x : Opp) => ad.block < w.heap.size ∧ ∀ r, r < 8 → ∀ u, (ocells x)[r]? = some u → w.cell? ⟨ad.block, ad.off + (k * 8 + r), none⟩ = some u) (fun k hk => by
        obtain ⟨cs', hc, ht'⟩ := hi k (by omega)
        obtain ⟨x, rfl⟩ := trod_opp ht'
        rw [cells33] at hc
        obtain ⟨_, hcl, hat⟩ := World.cells?_some hc
        have hcell : ∀ r, r < 8 → ∀ u, (ocells x)[r]? = some u → w.cell? (ad.add (k * 8 + r)) = some u := fun r hr u hu => by
          have := (congrArg w.cell? (Go.Deep.add_add ad (k * 8) r)).symm.trans (hat r (by omega))
          rw [this]
          exact hu
        have h0 := cell_at (hcell 0 (by omega) _ rfl)
        exact ⟨x, World.block_lt_of_cell? w ⟨ad.block, ad.off + (k * 8 + 0), none⟩ h0, fun r hr u hu => cell_at (hcell r hr u hu)⟩)
    obtain ⟨x0, hx0⟩ : ∃ x, xs[0]? = some x := ⟨xs[0]'(by omega), List.getElem?_eq_getElem (by omega)⟩
    refine ⟨xs, ?_⟩
    have h1 := hx 0 x0 hx0
    have had : ad = ⟨ad.block, ad.off, none⟩ := by
      obtain ⟨cs', hc, ht'⟩ := hi 0 (by omega)
      obtain ⟨x, rfl⟩ := trod_opp ht'
      rw [cells33] at hc
      obtain ⟨_, hcl, hat⟩ := World.cells?_some hc
      have g0 := (congrArg w.cell? (Go.Deep.add_add ad (0 * 8) 0)).symm.trans (hat 0 (by omega))
      exact spot_of_cell g0
    have := rd_mk (f := ocells) (by omega) ocells_length hxl h1.1 (fun k x hk => (hx k x hk).2)
    rw [← had] at this
    exact this
end
end Go.Proofs.Ytmfhilddemgabaa
