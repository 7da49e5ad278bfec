/- A record and a verdict that came in, opened to their cells; how long the record's list can be by the reading's bulk. Conditions: none. -/
import Derived.Test.YtmoiehbhhplckaaRows
import Derived.Test.YtmoiehbhhplckaaV8
import Derived.Deep.Slices
import Derived.ProofKit
import Derived.OpenShut
import Derived.SizedLaws
import Derived.ShutString
namespace Go.Proofs.Ytmoiehbhhplckaa
set_option linter.unusedVariables false
set_option linter.unusedSimpArgs false
set_option maxRecDepth 100000
open Go.ChangeShapes Go.WideShapes Go.ChangeAt Go.RowKit Go.Deep

theorem cells43 : Try.prog.cellsOf 43 = 2 := by kernel_rfl
theorem cells45 : Try.prog.cellsOf 45 = 3 := by kernel_rfl
theorem cf3 : Try.prog.cellsOf 3 = 1 := by kernel_rfl
theorem cf40 : Try.prog.cellsOf 40 = 1 := by kernel_rfl
theorem cf41 : Try.prog.cellsOf 41 = 1 := by kernel_rfl
theorem one_le {H : Type} (d : DataW H) : 1 ≤ Rows.uptoBulk d := by
  cases d with
  | lit l => cases l <;> simp [Rows.uptoBulk]
  | nil => simp [Rows.uptoBulk]
  | ptr d => simp [Rows.uptoBulk]
  | slice elems spare => simp [Rows.uptoBulk]
  | agg parts => simp [Rows.uptoBulk]
  | iface t d => simp [Rows.uptoBulk]
  | map entries => simp [Rows.uptoBulk]
  | held h => simp [Rows.uptoBulk]
theorem bulk_len {H : Type} (l : List (DataW H)) : l.length ≤ Rows.uptoBulkAll l := by
  induction l with
  | nil => simp [Rows.uptoBulkAll]
  | cons x r ih => have := one_le x; simp only [Rows.uptoBulkAll, List.length_cons]; omega
theorem bulk_slice {H : Type} (elems spare : List (DataW H)) : elems.length ≤ Rows.uptoBulk (.slice elems spare) := by
  have h1 := bulk_len elems
  simp only [Rows.uptoBulk]
  omega
theorem bulk_bound {H : Type} {l : List (DataW H)} (hk : Rows.uptoSmall H l = true) : Rows.uptoBulkAll l ≤ 1048576 := of_decide_eq_true hk

/-- A list whose place k is what is chosen for k. -/
theorem list_of {α : Type} (n : Nat) (P : Nat → α → Prop) (h : ∀ k, k < n → ∃ x, P k x) : ∃ xs : List α, xs.length = n ∧ ∀ k x, xs[k]? = some x → P k x := by
  induction n with
  | zero => exact ⟨[], rfl, fun k x hk => by simp at hk⟩
  | succ n ih =>
    obtain ⟨xs, hl, hx⟩ := ih (fun k hk => h k (by omega))
    obtain ⟨x, hxn⟩ := h n (by omega)
    refine ⟨xs ++ [x], by simp [hl], fun k y hk => ?_⟩
    rcases Nat.lt_or_ge k n with hlt | hge
    · rw [List.getElem?_append_left (by omega)] at hk
      exact hx k y hk
    · rw [List.getElem?_append_right (by omega), hl] at hk
      have hkn : k = n := by
        have := (List.getElem?_eq_some_iff.1 hk).1
        simp at this; omega
      subst hkn
      simp at hk
      subst hk
      exact hxn
theorem spot_of_cell {w : World} {a : Addr} {v : Value} (h : w.cell? a = some v) : a = ⟨a.block, a.off, none⟩ := by
  obtain ⟨b, o, s⟩ := a
  cases s with
  | none => rfl
  | some s =>
    exfalso
    unfold World.cell? at h
    split at h <;> simp at h
theorem cell_at {w : World} {a : Addr} {i : Nat} {v : Value} (h : w.cell? (a.add i) = some v) : w.cell? ⟨a.block, a.off + i, none⟩ = some v := by
  have := spot_of_cell h
  rw [this] at h
  unfold Addr.add at h
  split at h
  · rename_i h0; subst h0; exact h
  · exact h
theorem rd_mk {α : Type} {f : α → List Value} {s : Nat} (hs : 0 < s) (hf : ∀ x, (f x).length = s) {w : World} {l : List α} {g off n : Nat} (hn : l.length = n) (hg : g < w.heap.size)
    (h : ∀ k x, l[k]? = some x → ∀ r, r < s → ∀ u, (f x)[r]? = some u → w.cell? ⟨g, off + (k * s + r), none⟩ = some u) : Rd w No s (some ⟨g, off, none⟩) n (l.flatMap f) := by
  refine ⟨by rw [flat_length hf, hn], fun _ => ⟨g, off, rfl, fun f => f, hg, fun j u hu => ?_⟩⟩
  have hj := (List.getElem?_eq_some_iff.1 hu).1
  rw [flat_length hf] at hj
  have hk : j / s < l.length := (Nat.div_lt_iff_lt_mul hs).2 hj
  have hr : j % s < s := Nat.mod_lt _ hs
  have hx := List.getElem?_eq_getElem hk
  have := flat_get hf l (j / s) (j % s) hr _ hx
  have e : j / s * s + j % s = j := by rw [Nat.mul_comm]; exact Nat.div_add_mod j s
  rw [e] at this
  rw [this] at hu
  have := h _ _ hx _ hr u hu
  rw [e] at this
  exact this

section
variable {H : Type} {enc : TypeId × Value → H} {w : World} {base : Nat} {spare : Nat → Bool} {held : Bool}
theorem trod_vd {fuel : Nat} {cs : List Value} {y : DataW H × List MemPlace} (h : DataW.trod enc Try.prog w base spare held fuel 45 cs = some y) : ∃ x : Vd, cs = vcells x ∧ VFit x := by
  obtain ⟨xs, m, _, _, hl, hxl, hf⟩ := DataW.trod_struct Try.underlying45 h
  rw [cells45] at hl
  match cs, hl with
  | [k0, k1, k2], _ =>
    match xs, hxl with
    | [y0, y1, y2], _ =>
      have h0 : DataW.trod enc Try.prog w base spare held m 3 [k0] = some y0 := by
        have h := hf 0 _ rfl
        change DataW.trod enc Try.prog w base spare held m 3 (([k0, k1, k2].drop 0).take (Try.prog.cellsOf 3)) = _ at h
        rw [cf3] at h
        exact h
      have h1 : DataW.trod enc Try.prog w base spare held m 3 [k1] = some y1 := by
        have h := hf 1 _ rfl
        change DataW.trod enc Try.prog w base spare held m 3 (([k0, k1, k2].drop 1).take (Try.prog.cellsOf 3)) = _ at h
        rw [cf3] at h
        exact h
      have h2 : DataW.trod enc Try.prog w base spare held m 40 [k2] = some y2 := by
        have h := hf 2 _ rfl
        change DataW.trod enc Try.prog w base spare held m 40 (([k0, k1, k2].drop 2).take (Try.prog.cellsOf 40)) = _ at h
        rw [cf40] at h
        exact h
      obtain ⟨a0, e0, w0⟩ := DataW.trod_int Try.underlying3 h0
      obtain ⟨a1, e1, w1⟩ := DataW.trod_int Try.underlying3 h1
      obtain ⟨a2, e2, w2⟩ := DataW.trod_int Try.underlying40 h2
      simp at e0 e1 e2
      subst e0 e1 e2
      exact ⟨⟨a0, a1, a2⟩, rfl, ⟨bounds_i64 w0.2, bounds_i64 w1.2, bounds_i64 w2.2⟩⟩
theorem trod_vds {fuel : Nat} {v : Value} {y : DataW H × List MemPlace} (hf : DataW.trod enc Try.prog w base spare held fuel 41 [v] = some y) :
    ∃ a len cap, v = .slice a len cap ∧ len ≤ Rows.uptoBulk y.1 ∧ ∃ xs : List Vd, Rd w No 3 a len (xs.flatMap vcells) ∧ ∀ x ∈ xs, VFit x := by
  rcases open_slice Try.underlying41 hf with ⟨hcs, _⟩ | ⟨ad, l, c, m, n, D, Pl, hcs, _, hl, hm, hmm, hy, hi⟩
  · injection hcs with hcs
    subst hcs
    exact ⟨none, 0, 0, rfl, by omega, [], Rd.nil, fun x hx => by cases hx⟩
  · injection hcs with hcs
    subst hcs
    refine ⟨_, l, c, rfl, ?_, ?_⟩
    · rw [hy]
      refine Nat.le_trans ?_ (bulk_slice _ _)
      simp
    have hlm : l ≤ m := by rw [hmm]; split <;> omega
    rcases Nat.eq_zero_or_pos l with h0 | hp
    · subst h0
      exact ⟨[], Rd.nil, fun x hx => by cases hx⟩
    obtain ⟨xs, hxl, hx⟩ := list_of l (fun k (x : Vd) => (ad.block < w.heap.size ∧ ∀ r, r < 3 → ∀ u, (vcells x)[r]? = some u → w.cell? ⟨ad.block, ad.off + (k * 3 + r), none⟩ = some u) ∧ VFit x) (fun k hk => by
        obtain ⟨cs', hc, ht'⟩ := hi k (by omega)
        obtain ⟨x, rfl, hok⟩ := trod_vd ht'
        rw [cells45] at hc
        obtain ⟨_, hcl, hat⟩ := World.cells?_some hc
        have hcell : ∀ r, r < 3 → ∀ u, (vcells x)[r]? = some u → w.cell? (ad.add (k * 3 + r)) = some u := fun r hr u hu => by
          have := (congrArg w.cell? (Go.Deep.add_add ad (k * 3) r)).symm.trans (hat r (by omega))
          rw [this]
          exact hu
        have h0 := cell_at (hcell 0 (by omega) _ rfl)
        exact ⟨x, ⟨World.block_lt_of_cell? w ⟨ad.block, ad.off + (k * 3 + 0), none⟩ h0, fun r hr u hu => cell_at (hcell r hr u hu)⟩, hok⟩)
    obtain ⟨x0, hx0⟩ : ∃ x, xs[0]? = some x := ⟨xs[0]'(by omega), List.getElem?_eq_getElem (by omega)⟩
    refine ⟨xs, ?_, fun x hm => ?_⟩
    · have h1 := (hx 0 x0 hx0).1
      have had : ad = ⟨ad.block, ad.off, none⟩ := by
        obtain ⟨cs', hc, ht'⟩ := hi 0 (by omega)
        obtain ⟨x, rfl, _⟩ := trod_vd ht'
        rw [cells45] at hc
        obtain ⟨_, hcl, hat⟩ := World.cells?_some hc
        have g0 := (congrArg w.cell? (Go.Deep.add_add ad (0 * 3) 0)).symm.trans (hat 0 (by omega))
        exact spot_of_cell g0
      have := rd_mk (f := vcells) (by omega) vcells_length hxl h1.1 (fun k x hk => (hx k x hk).1.2)
      rw [← had] at this
      exact this
    · obtain ⟨k, hk⟩ := List.getElem?_of_mem hm
      exact (hx k x hk).2
theorem open_vd {r : Reach} {b0 : Nat} {v : Value} {d : DataW H} {p : List MemPlace} (hv : Value.okWide Try.prog w r b0 45 v) (h : DataW.Trod enc Try.prog w base spare held 45 v d p) :
    ∃ x : Vd, v = vagg x ∧ VFit x := by
  obtain ⟨cs, rfl, hsz⟩ := okWide_struct Try.underlying45 hv
  obtain ⟨fuel, hf⟩ := h
  obtain ⟨x, hx, hok⟩ := trod_vd hf
  refine ⟨x, ?_, hok⟩
  simp [Value.cells] at hx
  obtain ⟨l⟩ := cs
  simp at hx
  subst hx
  rfl
theorem open_rec {r : Reach} {b0 : Nat} {v : Value} {d : DataW H} {p : List MemPlace} (hv : Value.okWide Try.prog w r b0 43 v) (h : DataW.Trod enc Try.prog w base spare held 43 v d p) :
    ∃ (rc : Int) (a : Option Addr) (len cap : Nat), v = .agg #[.int .i64 rc, .slice a len cap] ∧ Fit rc ∧ len ≤ Rows.uptoBulk d ∧ ∃ xs : List Vd, Rd w No 3 a len (xs.flatMap vcells) ∧ ∀ x ∈ xs, VFit x := by
  obtain ⟨cs, rfl, hsz⟩ := okWide_struct Try.underlying43 hv
  obtain ⟨fuel, hf⟩ := h
  obtain ⟨xs, m, _, hd, hl, hxl, hfl⟩ := DataW.trod_struct Try.underlying43 hf
  rw [cells43] at hl
  simp [Value.cells] at hl hfl
  obtain ⟨l⟩ := cs
  simp at hl hfl
  match l, hl with
  | [k0, k1], _ =>
    match xs, hxl with
    | [y0, y1], _ =>
      have h0 : DataW.trod enc Try.prog w base spare held m 40 [k0] = some y0 := by
        have h := hfl 0 _ rfl
        change DataW.trod enc Try.prog w base spare held m 40 (([k0, k1].drop 0).take (Try.prog.cellsOf 40)) = _ at h
        rw [cf40] at h
        exact h
      have h1 : DataW.trod enc Try.prog w base spare held m 41 [k1] = some y1 := by
        have h := hfl 1 _ rfl
        change DataW.trod enc Try.prog w base spare held m 41 (([k0, k1].drop 1).take (Try.prog.cellsOf 41)) = _ at h
        rw [cf41] at h
        exact h
      obtain ⟨a0, e0, w0⟩ := DataW.trod_int Try.underlying40 h0
      obtain ⟨a, len, cap, e1, hlen, xs', hx, hok⟩ := trod_vds h1
      simp at e0
      subst e0 e1
      refine ⟨a0, a, len, cap, rfl, bounds_i64 w0.2, ?_, xs', hx, hok⟩
      have : d = .agg [y0.1, y1.1] := congrArg Prod.fst hd
      rw [this]
      simp only [Rows.uptoBulk, Rows.uptoBulkAll]
      omega
end
end Go.Proofs.Ytmoiehbhhplckaa
