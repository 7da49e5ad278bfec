/- What Check says; the law's own. Conditions: none. -/
import Derived.Test.YtmoiehbhhplckaaProg
import Derived.Test.YtmoiehbhhplckaaX12
import Derived.Tactics
import Derived.Tactics2
import Derived.WalkKit
import Derived.WalkSpells
import Derived.WalkLawsBesides
import Derived.StillTactics
import Derived.StillTailTactics
import Derived.OwnWalk
import Derived.Laws.Pointers
import Derived.Laws.ResultCell
import Derived.Deep.RegionHeld3
import Derived.Deep.RegionWith
import Derived.Deep.RegionLaw
import Derived.Deep.AppendLies
import Derived.Deep.QuietTactic
import Derived.BigQuiet
import Derived.LoopTactic
import Derived.Deep.LoopGhost
import Derived.Deep.DeepCutAuto
import Derived.Deep.DeepFit
import Derived.Maps.AppendAt
import Derived.Below
import Derived.Lib.Hide
import Derived.Handy
import Derived.KernelRfl
import Derived.IntWalk
import Derived.Laws.AppendOwnNone
import Derived.Laws.IdiomStrings
namespace Go.Proofs.Ytmoiehbhhplckaa
set_option linter.unusedVariables false
set_option linter.unusedSimpArgs false
open Go.RowKit

theorem fits_two {nm : ByteArray} {n lo hi : Int} (h : fitsB nm 2 n lo hi = true) : n = 0 ∨ n = 1 := by
  unfold fitsB at h
  generalize plainB nm.data.toList = pb at h
  generalize nameB nm.data.toList = nb at h
  generalize (nm.toList == []) = ne at h
  simp [fitsV, namedB] at h
  omega
theorem ok_okK {x : Nx} (h : okN x = true) : okK x.k x.n x.kids.len ∧ (x.k = 4 → setV x.kids = true) := by
  unfold okN at h
  simp only [Bool.and_eq_true, Bool.not_eq_true', decide_eq_false_iff_not, Bool.and_eq_false_iff, Bool.not_eq_false', decide_eq_true_eq] at h
  obtain ⟨h1, h2, h3, h4⟩ := h
  have hf : x.k = 2 → x.n = 0 ∨ x.n = 1 := fun h => by
    rw [h] at h4
    exact fits_two h4
  have hk4 : x.k = 4 → setV x.kids = true := fun h => by
    rcases h3 with h3 | h3
    · exfalso
      apply h3
      rw [h]
      rfl
    · exact h3
  refine ⟨?_, hk4⟩
  clear h3 h4 hk4
  unfold okK
  unfold kidsN at h1 h2
  generalize x.kids.len = m at *
  generalize x.k = k at *
  generalize x.n = n at *
  by_cases a : k < 1 ∨ 25 < k
  · rw [if_pos a] at h1; omega
  rw [if_neg a] at h1 h2
  by_cases b : k = 4
  · exact .inl b
  rw [if_neg b] at h1 h2
  by_cases c : k ≤ 7 ∨ k = 13 ∨ k = 21
  · rw [if_pos c] at h1 h2
    refine .inr (.inr (.inr ⟨by omega, by omega, hf⟩))
  rw [if_neg c] at h1 h2
  by_cases d : k = 11 ∨ k = 12 ∨ k = 18 ∨ k = 25 ∨ k = 22 ∨ k = 23
  · rw [if_pos d] at h1 h2
    exact .inr (.inl ⟨by omega, by omega⟩)
  · rw [if_neg d] at h1 h2
    exact .inr (.inr (.inl ⟨by omega, by omega⟩))
theorem set_vF (f : Fo) : ∀ p, setF p f = true → vF f := by
  induction f with
  | nil => intro _ _; trivial
  | cons k nm n lo hi kids rest _ ihr =>
    intro p h
    simp only [setF, Bool.and_eq_true, leafB, decide_eq_true_eq] at h
    obtain ⟨⟨h1, h2, h3, _⟩, _, h5⟩ := h
    have hn := len_zero h2
    subst hn
    exact ⟨.inr (.inr (.inr ⟨by omega, rfl, by omega⟩)), trivial, ihr _ h5⟩
theorem setV_vF {f : Fo} (h : setV f = true) : vF f := by
  unfold setV at h
  simp only [Bool.and_eq_true] at h
  exact set_vF f _ h.2
theorem all_vF (f : Fo) (h : ∀ y ∈ allF f, okN y = true) : vF f := by
  induction f with
  | nil => trivial
  | cons k nm n lo hi kids rest ihk ihr =>
    have hx := ok_okK (h ⟨k, nm, n, lo, hi, kids⟩ (by simp [allF]))
    refine ⟨hx.1, ?_, ihr (fun y hy => h y (by simp [allF, hy]))⟩
    by_cases k4 : k = 4
    · exact setV_vF (hx.2 k4)
    · exact ihk (fun y hy => h y (by simp [allF, k4, hy]))
theorem check_ok {x : Nx} (h : checkV x = 0) : okK x.k x.n x.kids.len ∧ vF x.kids := by
  unfold checkV at h
  split at h
  · omega
  split at h
  · omega
  split at h
  · rename_i ha
    rw [List.all_eq_true] at ha
    have hx := ok_okK (ha x (by simp [allV]))
    refine ⟨hx.1, ?_⟩
    by_cases k4 : x.k = 4
    · exact setV_vF (hx.2 k4)
    · exact all_vF _ (fun y hy => ha y (by simp [allV, k4, hy]))
  · omega
/-! ## the law's own -/
theorem truth_c (k : Int) (nm : ByteArray) (n lo hi : Int) (A : Option Addr) (m c : Nat) (w : World) : Calls Try.prog 35 #[xagg k nm n lo hi A m c] w fun e w' => e = .returned (.bool (decide (k = 2) && decide (n = 1))) ∧ Tch No w w' := by
  unfold xagg
  by_cases h : k = 2
  · subst h
    go_enter Try.func35, Try.ntmps35
    go_wp2
    all_goals
      go_returns
      refine ⟨ret_bool ?_, (Tch.refl No w).alloc _⟩
      rw [Bool.eq_iff_iff]
      simp
  · have hb : (k == 2) = false := by simp [h]
    have H : Hid ((decide (k = 2) && decide (n = 1)) = false) := by show _ = _; simp [h]
    clear h
    go_enter Try.func35, Try.ntmps35
    go_wp2
    go_returns
    refine ⟨ret_bool ?_, (Tch.refl No w).alloc _⟩
    rw [H.out]
theorem rd_str {w : World} {S : Nat → Prop} {A : Option Addr} {n : Nat} {l : List (List UInt8)} (hr : Rd w S 1 A n (strs l)) (i : Nat) (hi : i < n) :
    ∃ g off x, A = some ⟨g, off, none⟩ ∧ l[i]? = some x ∧ g < w.heap.size ∧ w.cell? ⟨g, off + i, none⟩ = some (.string ⟨x.toArray⟩) := by
  have hn : l.length = n := by have := hr.1; rw [strs_length] at this; omega
  obtain ⟨g, off, hA, hg, hlt, hc⟩ := hr.2 (by omega)
  have hx : l[i]? = some l[i] := List.getElem?_eq_getElem (by omega)
  refine ⟨g, off, l[i], hA, hx, hlt, ?_⟩
  refine hc i _ ?_
  unfold strs
  rw [List.getElem?_map, hx]; rfl
set_option maxHeartbeats 4000000 in
theorem texts_c (A B : Option Addr) (n c d : Nat) (l : List (List UInt8)) (w : World) (ha : Rd w No 1 A n (strs l)) (hb : Rd w No 1 B n (strs l)) (hn : n ≤ 1000) :
    Calls Try.prog 38 #[.slice A n c, .slice B n d] w fun e w' => e = .returned (.bool true) ∧ ∃ k, w' = w.drewN k := by
  have HA := Lib.hid ha
  have HB := Lib.hid hb
  clear ha hb
  go_enter Try.func38, Try.ntmps38
  go_wp2_with fail
  go_loopw [5] (fun iv wr => ∃ i : Nat, i ≤ n ∧ iv = .int .i64 i ∧ ∃ k, wr = w.drewN k) (fun iv _ => n - (intOf iv).toNat)
  case atStart => exact ⟨0, by omega, rfl, 0, rfl⟩
  case round =>
    obtain ⟨i, hil, rfl, k, rfl⟩ := hrel
    by_cases hlt : i < n
    · obtain ⟨g, o, x, hA, hx, _, a0⟩ := rd_str (HA.out.drewN k) i hlt
      obtain ⟨g', o', y, hB, hy, _, b0⟩ := rd_str (HB.out.drewN k) i hlt
      subst hA
      subst hB
      obtain rfl : x = y := by rw [hx] at hy; injection hy
      have hlt2 : (i : Int) < (n : Int) := by omega
      clear hx hy
      generalize hwk : w.drewN k = wk at *
      have HWK := Lib.hid hwk
      clear hwk
      go_wp2_with fail
      go_quiet (fail)
      go_wp2
      exact ⟨⟨i + 1, by omega, by simp, k + nq, by rw [← HWK.out]; simp⟩, by simp [intOf]; omega⟩
    · have hlt2 : ¬ ((i : Int) < (n : Int)) := by omega
      go_wp2
      go_returns
      exact ⟨rfl, k, rfl⟩
end Go.Proofs.Ytmoiehbhhplckaa
