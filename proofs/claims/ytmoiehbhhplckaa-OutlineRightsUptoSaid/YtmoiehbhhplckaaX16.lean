/- Rights that came in, opened to their cells and forests; how great they can be by the reading's bulk. Conditions: none. -/
import Derived.Test.YtmoiehbhhplckaaRows
import Derived.Test.YtmoiehbhhplckaaV9
import Derived.Test.YtmoiehbhhplckaaX14
import Derived.Deep.Slices
import Derived.ProofKit
import Derived.OpenShut
import Derived.SizedLaws
import Derived.ShutString
namespace Go.Proofs.Ytmoiehbhhplckaa
set_option linter.unusedVariables false
set_option linter.unusedSimpArgs false
set_option maxRecDepth 100000
open Go.ChangeShapes Go.WideShapes Go.ChangeAt Go.RowKit Go.Deep

theorem cells51 : Try.prog.cellsOf 51 = 6 := by kernel_rfl
theorem cells55 : Try.prog.cellsOf 55 = 17 := by kernel_rfl
theorem cf9 : Try.prog.cellsOf 9 = 1 := by kernel_rfl
theorem cf2 : Try.prog.cellsOf 2 = 1 := by kernel_rfl
theorem cf49 : Try.prog.cellsOf 49 = 1 := by kernel_rfl
theorem cf52 : Try.prog.cellsOf 52 = 1 := by kernel_rfl
theorem cf53 : Try.prog.cellsOf 53 = 1 := by kernel_rfl
theorem bulk_append {H : Type} (l r : List (DataW H)) : Rows.uptoBulkAll (l ++ r) = Rows.uptoBulkAll l + Rows.uptoBulkAll r := by
  induction l with
  | nil => simp [Rows.uptoBulkAll]
  | cons x l ih => simp only [List.cons_append, Rows.uptoBulkAll, ih]; omega
theorem bulk_str {H : Type} (bytes : List UInt8) : Rows.uptoBulk (DataW.lit (H := H) (.string bytes)) = bytes.length + 1 := by
  simp [Rows.uptoBulk]
section
variable {H : Type} {enc : TypeId × Value → H} {w : World} {base : Nat} {spare : Nat → Bool} {held : Bool}
/-- What one expression's cells say: by its fuel. -/
def XP (w : World) (cs : List Value) (b : Nat) : Prop :=
  ∃ k nm n lo hi A c kids, cs = [.int .i64 k, .string nm, .int .i64 n, .int .i64 lo, .int .i64 hi, .slice A (Fo.len kids) c] ∧ (Fo.len kids = 0 ∨ ∃ g o, A = some ⟨g, o, none⟩ ∧ FoA w kids g o) ∧ Fit n ∧ Fit lo ∧ Fit hi ∧ fitF kids ∧ (nm.size + 100) + wF kids ≤ 20 * b
/-- the kids from place j on -/
theorem kids_from {ad : Addr} {l : Nat} {D : Nat → DataW H} (hl : 0 < l) (H : ∀ i, i < l → ∃ cs', w.cells? base (ad.add (i * 6)) 6 = some cs' ∧ XP w cs' (Rows.uptoBulk (D i))) :
    ad = ⟨ad.block, ad.off, none⟩ ∧ ∀ k j, j + k = l → ∃ kids : Fo, kids.len = k ∧ FoA w kids ad.block (ad.off + j * 6) ∧ fitF kids ∧ wF kids ≤ 20 * Rows.uptoBulkAll (((List.range l).drop j).map D) := by
  have hcell : ∀ i, i < l → ∃ k nm n lo hi A c kids, (w.cell? ⟨ad.block, ad.off + i * 6, none⟩ = some (.int .i64 k) ∧ w.cell? ⟨ad.block, ad.off + i * 6 + 1, none⟩ = some (.string nm) ∧ w.cell? ⟨ad.block, ad.off + i * 6 + 2, none⟩ = some (.int .i64 n) ∧ w.cell? ⟨ad.block, ad.off + i * 6 + 3, none⟩ = some (.int .i64 lo) ∧
      w.cell? ⟨ad.block, ad.off + i * 6 + 4, none⟩ = some (.int .i64 hi) ∧ w.cell? ⟨ad.block, ad.off + i * 6 + 5, none⟩ = some (.slice A (Fo.len kids) c)) ∧ (Fo.len kids = 0 ∨ ∃ g o, A = some ⟨g, o, none⟩ ∧ FoA w kids g o) ∧ Fit n ∧ Fit lo ∧ Fit hi ∧ fitF kids ∧ (nm.size + 100) + wF kids ≤ 20 * Rows.uptoBulk (D i) := by
    intro i hi
    obtain ⟨cs', hc, k, nm, n, lo, hi', A, c, kids, rfl, hk, f1, f2, f3, hf, hw⟩ := H i hi
    obtain ⟨_, hcl, hat⟩ := World.cells?_some hc
    have hcc : ∀ r, r < 6 → ∀ u, ([.int .i64 k, .string nm, .int .i64 n, .int .i64 lo, .int .i64 hi', .slice A (Fo.len kids) c] : List Value)[r]? = some u → w.cell? (ad.add (i * 6 + r)) = some u := fun r hr u hu => by
      have := (congrArg w.cell? (Go.Deep.add_add ad (i * 6) r)).symm.trans (hat r (by omega))
      rw [this]
      exact hu
    refine ⟨k, nm, n, lo, hi', A, c, kids, ⟨cell_at (hcc 0 (by omega) _ rfl), ?_, ?_, ?_, ?_, ?_⟩, hk, f1, f2, f3, hf, hw⟩
    · exact cell_at (hcc 1 (by omega) _ rfl)
    · exact cell_at (hcc 2 (by omega) _ rfl)
    · exact cell_at (hcc 3 (by omega) _ rfl)
    · exact cell_at (hcc 4 (by omega) _ rfl)
    · exact cell_at (hcc 5 (by omega) _ rfl)
  refine ⟨?_, ?_⟩
  · obtain ⟨cs', hc, k, nm, n, lo, hi', A, c, kids, rfl, _⟩ := H 0 hl
    obtain ⟨_, hcl, hat⟩ := World.cells?_some hc
    have h0 := hat 0 (by omega)
    have := (congrArg w.cell? (Go.Deep.add_add ad (0 * 6) 0)).symm.trans h0
    exact spot_of_cell this
  · intro k
    induction k with
    | zero =>
      intro j hj
      refine ⟨.nil, rfl, trivial, trivial, by simp [wF]⟩
    | succ k ih =>
      intro j hj
      obtain ⟨rest, hrl, hrf, hrfit, hrw⟩ := ih (j + 1) (by omega)
      obtain ⟨k1, nm, n, lo, hi', A, c, kids, hcc, hk, f1, f2, f3, hf, hw⟩ := hcell j (by omega)
      refine ⟨.cons k1 nm n lo hi' kids rest, by simp [Fo.len, hrl], ⟨⟨A, c, hcc, hk⟩, ?_⟩, ⟨f1, f2, f3, hf, hrfit⟩, ?_⟩
      · rw [show ad.off + (j + 1) * 6 = ad.off + j * 6 + 6 by omega] at hrf
        exact hrf
      · have hd : (List.range l).drop j = j :: (List.range l).drop (j + 1) := by
          rw [List.drop_eq_getElem_cons (by simp; omega)]
          simp
        rw [hd, List.map_cons]
        simp only [wF, Rows.uptoBulkAll]
        omega
theorem trod_x (b : Nat) : ∀ {fuel : Nat} {cs : List Value} {y : DataW H × List MemPlace}, Rows.uptoBulk y.1 = b → DataW.trod enc Try.prog w base spare held fuel 51 cs = some y → XP w cs (Rows.uptoBulk y.1) := by
  induction b using Nat.strongRecOn with
  | _ b ih =>
    intro fuel cs y hb h
    obtain ⟨xs, m, hfm, hy, hl, hxl, hf⟩ := DataW.trod_struct Try.underlying51 h
    rw [cells51] at hl
    match cs, hl with
    | [k0, k1, k2, k3, k4, k5], _ =>
      match xs, hxl with
      | [y0, y1, y2, y3, y4, y5], _ =>
        have h0 : DataW.trod enc Try.prog w base spare held m 3 [k0] = some y0 := by
          have h := hf 0 _ rfl
          change DataW.trod enc Try.prog w base spare held m 3 (([k0, k1, k2, k3, k4, k5].drop 0).take (Try.prog.cellsOf 3)) = _ at h
          rw [cf3] at h
          exact h
        have h1 : DataW.trod enc Try.prog w base spare held m 9 [k1] = some y1 := by
          have h := hf 1 _ rfl
          change DataW.trod enc Try.prog w base spare held m 9 (([k0, k1, k2, k3, k4, k5].drop 1).take (Try.prog.cellsOf 9)) = _ at h
          rw [cf9] at h
          exact h
        have h2 : DataW.trod enc Try.prog w base spare held m 2 [k2] = some y2 := by
          have h := hf 2 _ rfl
          change DataW.trod enc Try.prog w base spare held m 2 (([k0, k1, k2, k3, k4, k5].drop 2).take (Try.prog.cellsOf 2)) = _ at h
          rw [cf2] at h
          exact h
        have h3 : DataW.trod enc Try.prog w base spare held m 2 [k3] = some y3 := by
          have h := hf 3 _ rfl
          change DataW.trod enc Try.prog w base spare held m 2 (([k0, k1, k2, k3, k4, k5].drop 3).take (Try.prog.cellsOf 2)) = _ at h
          rw [cf2] at h
          exact h
        have h4 : DataW.trod enc Try.prog w base spare held m 2 [k4] = some y4 := by
          have h := hf 4 _ rfl
          change DataW.trod enc Try.prog w base spare held m 2 (([k0, k1, k2, k3, k4, k5].drop 4).take (Try.prog.cellsOf 2)) = _ at h
          rw [cf2] at h
          exact h
        have h5 : DataW.trod enc Try.prog w base spare held m 49 [k5] = some y5 := by
          have h := hf 5 _ rfl
          change DataW.trod enc Try.prog w base spare held m 49 (([k0, k1, k2, k3, k4, k5].drop 5).take (Try.prog.cellsOf 49)) = _ at h
          rw [cf49] at h
          exact h
        obtain ⟨a0, e0, w0⟩ := DataW.trod_int Try.underlying3 h0
        obtain ⟨a2, e2, w2⟩ := DataW.trod_int Try.underlying2 h2
        obtain ⟨a3, e3, w3⟩ := DataW.trod_int Try.underlying2 h3
        obtain ⟨a4, e4, w4⟩ := DataW.trod_int Try.underlying2 h4
        obtain ⟨a1, e1, w1⟩ := DataW.trod_string Try.underlying9 h1
        simp at e0 e1 e2 e3 e4
        subst e0 e1 e2 e3 e4
        have hyb : Rows.uptoBulk y.1 = Rows.uptoBulkAll [y0.1, y1.1, y2.1, y3.1, y4.1, y5.1] + 1 := by rw [hy]; simp [Rows.uptoBulk]
        have hb1 : Rows.uptoBulk y1.1 = a1.size + 1 := by rw [w1.1, bulk_str]; simp
        have h0b := one_le y0.1
        have h2b := one_le y2.1
        have h3b := one_le y3.1
        have h4b := one_le y4.1
        have h5b := one_le y5.1
        simp only [Rows.uptoBulkAll] at hyb
        rcases open_slice Try.underlying49 h5 with ⟨hcs, _⟩ | ⟨ad, l, c, m2, n2, D, Pl, hcs, _, hl5, hm5, hmm, hy5, hi5⟩
        · injection hcs with hcs
          subst hcs
          refine ⟨a0, a1, a2, a3, a4, none, 0, .nil, rfl, .inl rfl, bounds_i64 w2.2, bounds_i64 w3.2, bounds_i64 w4.2, trivial, ?_⟩
          simp only [wF]
          omega
        · injection hcs with hcs
          subst hcs
          have hlm : l ≤ m2 := by rw [hmm]; split <;> omega
          have hy5b : Rows.uptoBulkAll ((List.range l).map D) < Rows.uptoBulk y5.1 := by
            rw [hy5]
            simp only [Rows.uptoBulk]
            omega
          rcases Nat.eq_zero_or_pos l with h0 | hp
          · subst h0
            refine ⟨a0, a1, a2, a3, a4, _, c, .nil, rfl, .inl rfl, bounds_i64 w2.2, bounds_i64 w3.2, bounds_i64 w4.2, trivial, ?_⟩
            simp only [wF]
            omega
          · obtain ⟨had, hk⟩ := kids_from (D := D) hp (fun i hi => by
              obtain ⟨cs', hc, ht'⟩ := hi5 i (by omega)
              rw [cells51] at hc
              refine ⟨cs', hc, ?_⟩
              have hmem : D i ∈ (List.range l).map D := List.mem_map_of_mem (List.mem_range.2 hi)
              have hle : Rows.uptoBulk (D i) ≤ Rows.uptoBulkAll ((List.range l).map D) := by
                have hpl : ∀ {d : DataW H} {L : List (DataW H)}, d ∈ L → Rows.uptoBulk d ≤ Rows.uptoBulkAll L := by
                  intro d L hd
                  induction L with
                  | nil => cases hd
                  | cons x r ih2 =>
                    simp only [Rows.uptoBulkAll]
                    rcases List.mem_cons.1 hd with e | e
                    · subst e; omega
                    · have := ih2 e; omega
                exact hpl hmem
              exact ih (Rows.uptoBulk (D i)) (by omega) rfl ht')
            obtain ⟨kids, hkl, hkf, hkfit, hkw⟩ := hk l 0 (by omega)
            refine ⟨a0, a1, a2, a3, a4, some ad, c, kids, by rw [hkl], .inr ⟨ad.block, ad.off, by rw [← had], by simpa using hkf⟩, bounds_i64 w2.2, bounds_i64 w3.2, bounds_i64 w4.2, hkfit, ?_⟩
            rw [List.drop_zero] at hkw
            omega
end
end Go.Proofs.Ytmoiehbhhplckaa
