/- A right that came in, opened to its cells and forests. Conditions: none. -/
import Derived.Test.YtmoiehbhhplckaaX15w
import Derived.Test.YtmoiehbhhplckaaX16
import Derived.Deep.Slices
import Derived.ProofKit
import Derived.OpenShut
import Derived.SizedLaws
import Derived.ShutString
namespace Go.Proofs.Ytmoiehbhhplckaa
set_option linter.unusedVariables false
set_option linter.unusedSimpArgs false
set_option maxRecDepth 100000
open Go.ChangeShapes Go.WideShapes Go.ChangeAt Go.RowKit Go.Deep
section
variable {H : Type} {enc : TypeId × Value → H} {w : World} {base : Nat} {spare : Nat → Bool} {held : Bool}
theorem trod_any {t e : TypeId} {fuel : Nat} {v : Value} {y : DataW H × List MemPlace} (ht : Try.prog.underlying t = some (.slice e)) (h : DataW.trod enc Try.prog w base spare held fuel t [v] = some y) : ∃ a l c, v = .slice a l c ∧ l ≤ 9223372036854775807 := by
  rcases open_slice ht h with ⟨hcs, _⟩ | ⟨ad, l, c, m, n, D, Pl, hcs, _, hl, hm, _, _, _⟩
  · injection hcs with hcs
    subst hcs
    exact ⟨none, 0, 0, rfl, by omega⟩
  · injection hcs with hcs
    subst hcs
    exact ⟨_, l, c, rfl, by unfold maxLen at hm; omega⟩
theorem open_right {r : Reach} {b0 : Nat} {v : Value} {d : DataW H} {p : List MemPlace} (hv : Value.okWide Try.prog w r b0 55 v) (h : DataW.Trod enc Try.prog w base spare held 55 v d p) (hb : Rows.uptoBulk d ≤ 1048576) :
    ∃ name k nm n lo hi A c kids k' nm' n' lo' hi' A' c' kids' A3 n3 c3 A4 n4 c4 A5 n5 c5 A6 n6 c6, v = ragg ⟨name, ⟨k, nm, n, lo, hi, A, Fo.len kids, c⟩, ⟨k', nm', n', lo', hi', A', Fo.len kids', c'⟩, A3, n3, c3, A4, n4, c4, A5, n5, c5, A6, n6, c6⟩ ∧
      XIn w k nm n lo hi A kids ∧ XIn w k' nm' n' lo' hi' A' kids' ∧ (n3 ≤ 9223372036854775807 ∧ n4 ≤ 9223372036854775807 ∧ n5 ≤ 9223372036854775807 ∧ n6 ≤ 9223372036854775807) := by
  obtain ⟨cs, rfl, hsz⟩ := okWide_struct Try.underlying55 hv
  obtain ⟨fuel, hf⟩ := h
  obtain ⟨xs, m, _, hd, hl, hxl, hfl⟩ := DataW.trod_struct Try.underlying55 hf
  rw [cells55] at hl
  simp [Value.cells] at hl hfl
  obtain ⟨l⟩ := cs
  simp at hl hfl
  match l, hl with
  | [c0, c1, c2, c3, c4, c5, c6, c7, c8, c9, c10, c11, c12, c13, c14, c15, c16], _ =>
    match xs, hxl with
    | [y0, y1, y2, y3, y4, y5, y6], _ =>
      have h0 : DataW.trod enc Try.prog w base spare held m 9 [c0] = some y0 := by
        have h := hfl 0 _ rfl
        change DataW.trod enc Try.prog w base spare held m 9 (([c0, c1, c2, c3, c4, c5, c6, c7, c8, c9, c10, c11, c12, c13, c14, c15, c16].drop 0).take (Try.prog.cellsOf 9)) = _ at h
        rw [cf9] at h
        exact h
      have h1 : DataW.trod enc Try.prog w base spare held m 51 [c1, c2, c3, c4, c5, c6] = some y1 := by
        have h := hfl 1 _ rfl
        change DataW.trod enc Try.prog w base spare held m 51 (([c0, c1, c2, c3, c4, c5, c6, c7, c8, c9, c10, c11, c12, c13, c14, c15, c16].drop 1).take (Try.prog.cellsOf 51)) = _ at h
        rw [cells51] at h
        exact h
      have h2 : DataW.trod enc Try.prog w base spare held m 51 [c7, c8, c9, c10, c11, c12] = some y2 := by
        have h := hfl 2 _ rfl
        change DataW.trod enc Try.prog w base spare held m 51 (([c0, c1, c2, c3, c4, c5, c6, c7, c8, c9, c10, c11, c12, c13, c14, c15, c16].drop 7).take (Try.prog.cellsOf 51)) = _ at h
        rw [cells51] at h
        exact h
      have h3 : DataW.trod enc Try.prog w base spare held m 52 [c13] = some y3 := by
        have h := hfl 3 _ rfl
        change DataW.trod enc Try.prog w base spare held m 52 (([c0, c1, c2, c3, c4, c5, c6, c7, c8, c9, c10, c11, c12, c13, c14, c15, c16].drop 13).take (Try.prog.cellsOf 52)) = _ at h
        rw [cf52] at h
        exact h
      have h4 : DataW.trod enc Try.prog w base spare held m 52 [c14] = some y4 := by
        have h := hfl 4 _ rfl
        change DataW.trod enc Try.prog w base spare held m 52 (([c0, c1, c2, c3, c4, c5, c6, c7, c8, c9, c10, c11, c12, c13, c14, c15, c16].drop 14).take (Try.prog.cellsOf 52)) = _ at h
        rw [cf52] at h
        exact h
      have h5 : DataW.trod enc Try.prog w base spare held m 52 [c15] = some y5 := by
        have h := hfl 5 _ rfl
        change DataW.trod enc Try.prog w base spare held m 52 (([c0, c1, c2, c3, c4, c5, c6, c7, c8, c9, c10, c11, c12, c13, c14, c15, c16].drop 15).take (Try.prog.cellsOf 52)) = _ at h
        rw [cf52] at h
        exact h
      have h6 : DataW.trod enc Try.prog w base spare held m 53 [c16] = some y6 := by
        have h := hfl 6 _ rfl
        change DataW.trod enc Try.prog w base spare held m 53 (([c0, c1, c2, c3, c4, c5, c6, c7, c8, c9, c10, c11, c12, c13, c14, c15, c16].drop 16).take (Try.prog.cellsOf 53)) = _ at h
        rw [cf53] at h
        exact h
      have hdb : d = .agg [y0.1, y1.1, y2.1, y3.1, y4.1, y5.1, y6.1] := congrArg Prod.fst hd
      rw [hdb] at hb
      simp only [Rows.uptoBulk, Rows.uptoBulkAll] at hb
      obtain ⟨name, e0, _⟩ := DataW.trod_string Try.underlying9 h0
      obtain ⟨k, nm, n, lo, hi, A, c, kids, e1, hk1, f1, f2, f3, hf1, hw1⟩ := trod_x _ rfl h1
      obtain ⟨k', nm', n', lo', hi', A', c', kids', e2, hk2, g1, g2, g3, hf2, hw2⟩ := trod_x _ rfl h2
      obtain ⟨A3, n3, q3, e3, b3⟩ := trod_any Try.underlying52 h3
      obtain ⟨A4, n4, q4, e4, b4⟩ := trod_any Try.underlying52 h4
      obtain ⟨A5, n5, q5, e5, b5⟩ := trod_any Try.underlying52 h5
      obtain ⟨A6, n6, q6, e6, b6⟩ := trod_any Try.underlying53 h6
      simp at e0 e1 e2
      obtain ⟨rfl, rfl, rfl, rfl, rfl, rfl⟩ := e1
      obtain ⟨rfl, rfl, rfl, rfl, rfl, rfl⟩ := e2
      subst e0 e3 e4 e5 e6
      exact ⟨name, k, nm, n, lo, hi, A, c, kids, k', nm', n', lo', hi', A', c', kids', A3, n3, q3, A4, n4, q4, A5, n5, q5, A6, n6, q6, rfl, ⟨⟨rfl, hk1⟩, by omega, by omega, f1, f2, f3, hf1⟩, ⟨⟨rfl, hk2⟩, by omega, by omega, g1, g2, g3, hf2⟩, b3, b4, b5, b6⟩
end
end Go.Proofs.Ytmoiehbhhplckaa
