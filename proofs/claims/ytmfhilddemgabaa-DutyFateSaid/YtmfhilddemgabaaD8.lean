/- The duty law's package: few, same, hit. Conditions: the slices read as lists. -/
import Derived.Test.YtmfhilddemgabaaProg
import Derived.Test.YtmfhilddemgabaaD7
import Derived.Tactics
import Derived.Tactics2
import Derived.WalkKit
import Derived.WalkSpells
import Derived.WalkLawsBesides
import Derived.StillTactics
import Derived.StillTailTactics
import Derived.OwnWalk
import Derived.Laws.Pointers
import Derived.Laws.ResultCell
import Derived.Deep.RegionHeld3
import Derived.Deep.RegionWith
import Derived.Deep.RegionLaw
import Derived.Deep.AppendLies
import Derived.Deep.QuietTactic
import Derived.BigQuiet
import Derived.LoopTactic
import Derived.Deep.LoopGhost
import Derived.Deep.DeepCutAuto
import Derived.Deep.DeepFit
import Derived.Maps.AppendAt
import Derived.Below
import Derived.Lib.Hide
import Derived.Handy
import Derived.KernelRfl
namespace Go.Proofs.Ytmfhilddemgabaa
set_option linter.unusedVariables false
set_option linter.unusedSimpArgs false
open Go.RowKit

structure Opp where
  kind : Int
  x : Ins
  at_ : Int
instance : Inhabited Opp := ⟨⟨0, default, 0⟩⟩
def ocells (o : Opp) : List Value := [.int .i64 o.kind, .int .i64 o.x.id, .int .i64 o.x.place, .string o.x.act, .int .i64 o.x.due, .bool o.x.keep, .int .i64 o.x.state, .int .i64 o.at_]
theorem ocells_length (o : Opp) : (ocells o).length = 8 := rfl
def orows (l : List Opp) : List Value := l.flatMap ocells

def few60 (n : Nat) : Nat := if 60 < n then 60 else n
theorem few60_le (n : Nat) : few60 n ≤ 60 ∧ few60 n ≤ n := by unfold few60; split <;> omega
theorem few_c (S : Nat → Prop) (A : Option Addr) (n c : Nat) (l : List Opp) (w : World) (h : n ≤ c) (hm : c ≤ 9223372036854775807) (hr : Rd w S 8 A n (orows l)) :
    Calls Try.prog 13 #[.slice A n c] w fun e w' => e = .returned (.slice A (few60 n) c) ∧ w = w' := by
  by_cases h5 : 60 < n
  · obtain ⟨g, off, hA, _⟩ := hr.2 (by omega)
    subst hA
    clear hr
    go_enter Try.func13, Try.ntmps13
    go_wp2
    go_returns
    rw [show few60 n = 60 from if_pos h5]
    exact ⟨rfl, rfl⟩
  · clear hr
    go_enter Try.func13, Try.ntmps13
    go_wp2
    go_returns
    rw [show few60 n = n from if_neg h5]
    exact ⟨rfl, rfl⟩
theorem few_rd {S : Nat → Prop} {A : Option Addr} {n : Nat} {l : List Opp} {w : World} (hr : Rd w S 8 A n (orows l)) : Rd w S 8 A (few60 n) (orows (l.take (few60 n))) := by
  have hl : l.length = n := by have := hr.1; unfold orows at this; rw [flat_length ocells_length] at this; omega
  have := hr.take (few60_le n).2
  unfold orows at this ⊢
  rw [flat_take ocells_length l _ (by rw [hl]; exact (few60_le n).2)] at this
  exact this

/-- The cells of element i of a slice that reads as a list. -/
theorem rd_at {α : Type} {f : α → List Value} {s : Nat} (hf : ∀ x, (f x).length = s) {w : World} {S : Nat → Prop} {A : Option Addr} {n : Nat} {l : List α} (hr : Rd w S s A n (l.flatMap f)) (i : Nat) (hi : i < n) (hn : l.length = n) :
    ∃ g off x, A = some ⟨g, off, none⟩ ∧ ¬ S g ∧ g < w.heap.size ∧ l[i]? = some x ∧ ∀ j, j < s → ∀ u, (f x)[j]? = some u → w.cell? ⟨g, off + (i * s + j), none⟩ = some u := by
  obtain ⟨g, off, hA, hg, hlt, hc⟩ := hr.2 (by omega)
  refine ⟨g, off, l[i], hA, hg, hlt, List.getElem?_eq_getElem (by omega), fun j hj u hu => hc _ u ?_⟩
  rw [flat_get hf l i j hj _ (List.getElem?_eq_getElem (by omega))]
  exact hu
theorem rd_ins {w : World} {S : Nat → Prop} {A : Option Addr} {n : Nat} {l : List Ins} (hr : Rd w S 6 A n (rows l)) (i : Nat) (hi : i < n) :
    ∃ g off x, A = some ⟨g, off, none⟩ ∧ ¬ S g ∧ g < w.heap.size ∧ l[i]? = some x ∧ w.cell? ⟨g, off + i * 6, none⟩ = some (.int .i64 x.id) ∧ w.cell? ⟨g, off + i * 6 + 1, none⟩ = some (.int .i64 x.place) ∧ w.cell? ⟨g, off + i * 6 + 2, none⟩ = some (.string x.act) ∧
      w.cell? ⟨g, off + i * 6 + 3, none⟩ = some (.int .i64 x.due) ∧ w.cell? ⟨g, off + i * 6 + 4, none⟩ = some (.bool x.keep) ∧ w.cell? ⟨g, off + i * 6 + 5, none⟩ = some (.int .i64 x.state) := by
  have hn : l.length = n := by have := hr.1; rw [rows_length] at this; omega
  obtain ⟨g, off, x, hA, hS, hg, hx, hc⟩ := rd_at icells_length hr i hi hn
  refine ⟨g, off, x, hA, hS, hg, hx, hc 0 (by omega) _ rfl, ?_, ?_, ?_, ?_, ?_⟩
  · rw [Nat.add_assoc]; exact hc 1 (by omega) _ rfl
  · rw [Nat.add_assoc]; exact hc 2 (by omega) _ rfl
  · rw [Nat.add_assoc]; exact hc 3 (by omega) _ rfl
  · rw [Nat.add_assoc]; exact hc 4 (by omega) _ rfl
  · rw [Nat.add_assoc]; exact hc 5 (by omega) _ rfl
theorem rd_len {w : World} {S : Nat → Prop} {A : Option Addr} {n : Nat} {l : List Ins} (hr : Rd w S 6 A n (rows l)) : l.length = n := by have := hr.1; rw [rows_length] at this; omega

def Yes (w : World) (e : Ending) (w' : World) : Prop := e = .returned (.bool true) ∧ ∃ k, w' = w.drewN k

set_option maxHeartbeats 400000 in
theorem same_c (S : Nat → Prop) (A B : Option Addr) (n c d : Nat) (l : List Ins) (w : World) (ha : Rd w S 6 A n (rows l)) (hb : Rd w S 6 B n (rows l)) (hn : n ≤ 1000000) :
    Calls Try.prog 31 #[.slice A n c, .slice B n d] w (Yes w) := by
  have HA := Lib.hid ha
  have HB := Lib.hid hb
  clear ha hb
  go_enter Try.func31, Try.ntmps31
  go_wp2_with fail
  go_loopw [5] (fun iv wr => ∃ i : Nat, i ≤ n ∧ iv = .int .i64 i ∧ ∃ k, wr = w.drewN k) (fun iv _ => n - (intOf iv).toNat)
  case atStart => exact ⟨0, by omega, rfl, 0, rfl⟩
  case round =>
    obtain ⟨i, hin, rfl, k, rfl⟩ := hrel
    by_cases hlt : i < n
    · obtain ⟨g, off, x, hA, _, _, hx, a0, a1, a2, a3, a4, a5⟩ := rd_ins HA.out i hlt
      obtain ⟨g', off', x', hB, _, _, hx', b0, b1, b2, b3, b4, b5⟩ := rd_ins HB.out i hlt
      have hxx : x = x' := by rw [hx] at hx'; injection hx'
      subst hxx
      subst hA hB
      clear hx hx'
      have hi0 : (0 : Int) ≤ (i : Int) := Int.natCast_nonneg _
      have hi1 : (i : Int) < (n : Int) := by omega
      go_wp2_with fail
      go_quiet (fail)
      go_wp2
      exact ⟨⟨i + 1, by omega, by simp, k + nq, rfl⟩, by simp [intOf]; omega⟩
    · have : i = n := by omega
      subst this
      go_wp2
      go_returns
      exact ⟨rfl, k, rfl⟩

/-! ## hit -/
def pK (o : Opp) (y : Ins) : Bool := if o.kind = 2 then pF o.x.id o.x.act o.at_ y else if o.kind = 3 then pE o.at_ y else if o.kind = 4 then pV o.x.id y else false
def hitV (y : Ins) (o : Opp) : Int := if y.state = 1 ∧ pK o y = true then o.kind else 0
theorem pK_kind {o : Opp} {y : Ins} (h : pK o y = true) : o.kind = 2 ∨ o.kind = 3 ∨ o.kind = 4 := by
  unfold pK at h
  repeat' split at h
  · exact .inl (by assumption)
  · exact .inr (.inl (by assumption))
  · exact .inr (.inr (by assumption))
  · cases h

def IntT (n : Int) (w : World) (e : Ending) (w' : World) : Prop := e = .returned (.int .i64 n) ∧ Tch No w w'

set_option maxHeartbeats 1600000 in
theorem hit_c (y : Ins) (o : Opp) (w : World) :
    Calls Try.prog 50 #[.agg #[.int .i64 y.id, .int .i64 y.place, .string y.act, .int .i64 y.due, .bool y.keep, .int .i64 y.state],
      .agg #[.int .i64 o.kind, .int .i64 o.x.id, .int .i64 o.x.place, .string o.x.act, .int .i64 o.x.due, .bool o.x.keep, .int .i64 o.x.state, .int .i64 o.at_]] w (IntT (hitV y o) w) := by
  have q2 : ¬ w.heap.size = w.heap.size + 1 := by omega
  have T : ∀ p q, Tch No w ((w.alloc p).alloc q) := fun p q => ((Tch.refl No w).alloc p).alloc q
  by_cases hs : y.state = 1
  · have hs2 : (y.state != 1) = false := by simpa using hs
    have hs3 : (y.state == 1) = true := by simpa using hs
    have HV : Hid (hitV y o = if pK o y = true then o.kind else 0) := by show hitV y o = _; unfold hitV; simp [hs]
    by_cases h2 : o.kind = 2
    · have k2 : (o.kind == 2) = true := by simpa using h2
      have k3 : (o.kind == 3) = false := by simp; omega
      have k4 : (o.kind == 4) = false := by simp; omega
      have HK : Hid (pK o y = pF o.x.id o.x.act o.at_ y) := by show pK o y = _; unfold pK; rw [if_pos h2]
      have H2 := Lib.hid h2
      clear hs h2
      cases hp : pF o.x.id o.x.act o.at_ y
      · have hv : hitV y o = 0 := by rw [HV.out, HK.out, hp]; simp
        unfold pF at hp
        rw [hv]
        clear hv
        by_cases i1 : y.id = o.x.id
        · have j1 : (y.id == o.x.id) = true := by simpa using i1
          clear i1
          by_cases i2 : y.act.toList = o.x.act.toList
          · have j2 : (y.act.toList == o.x.act.toList) = true := by simpa using i2
            rw [j1, j2] at hp
            simp at hp
            clear i2
            go_enter Try.func50, Try.ntmps50
            go_wp2
            all_goals
              go_returns
              exact ⟨rfl, ((Tch.refl No w).alloc _).alloc _⟩
          · have j2 : (y.act.toList == o.x.act.toList) = false := by simpa using i2
            clear i2 hp
            go_enter Try.func50, Try.ntmps50
            go_wp2
            all_goals
              go_returns
              exact ⟨rfl, ((Tch.refl No w).alloc _).alloc _⟩
        · have j1 : (y.id == o.x.id) = false := by simpa using i1
          clear i1 hp
          go_enter Try.func50, Try.ntmps50
          go_wp2
          all_goals
            go_returns
            exact ⟨rfl, ((Tch.refl No w).alloc _).alloc _⟩
      · have hv : hitV y o = 2 := by rw [HV.out, HK.out, hp, H2.out]; simp
        unfold pF at hp
        rw [hv]
        clear hv
        simp at hp
        obtain ⟨i1, i2, i3⟩ := hp
        have j1 : (y.id == o.x.id) = true := by simpa using i1
        have j2 : (y.act.toList == o.x.act.toList) = true := by simpa using i2
        clear i1 i2
        go_enter Try.func50, Try.ntmps50
        go_wp2
        all_goals
          go_returns
          exact ⟨rfl, ((Tch.refl No w).alloc _).alloc _⟩
    · have k2 : (o.kind == 2) = false := by simpa using h2
      by_cases h3 : o.kind = 3
      · have k3 : (o.kind == 3) = true := by simpa using h3
        have k4 : (o.kind == 4) = false := by simp; omega
        have HK : Hid (pK o y = pE o.at_ y) := by show pK o y = _; unfold pK; rw [if_neg h2, if_pos h3]
        have H3 := Lib.hid h3
        clear hs h2 h3
        by_cases hp : y.due < o.at_
        · have hv : hitV y o = 3 := by rw [HV.out, HK.out, H3.out]; unfold pE; simp [hp]
          rw [hv]
          clear hv
          go_enter Try.func50, Try.ntmps50
          go_wp2
          all_goals
            go_returns
            exact ⟨rfl, ((Tch.refl No w).alloc _).alloc _⟩
        · have hv : hitV y o = 0 := by rw [HV.out, HK.out]; unfold pE; simp [hp]
          rw [hv]
          clear hv
          go_enter Try.func50, Try.ntmps50
          go_wp2
          all_goals
            go_returns
            exact ⟨rfl, ((Tch.refl No w).alloc _).alloc _⟩
      · have k3 : (o.kind == 3) = false := by simpa using h3
        by_cases h4 : o.kind = 4
        · have k4 : (o.kind == 4) = true := by simpa using h4
          have HK : Hid (pK o y = pV o.x.id y) := by show pK o y = _; unfold pK; rw [if_neg h2, if_neg h3, if_pos h4]
          have H4 := Lib.hid h4
          clear hs h2 h3 h4
          by_cases hp : y.id = o.x.id
          · have j1 : (y.id == o.x.id) = true := by simpa using hp
            have hv : hitV y o = 4 := by rw [HV.out, HK.out, H4.out]; unfold pV; simp [hp]
            rw [hv]
            clear hv hp
            go_enter Try.func50, Try.ntmps50
            go_wp2
            all_goals
              go_returns
              exact ⟨rfl, ((Tch.refl No w).alloc _).alloc _⟩
          · have j1 : (y.id == o.x.id) = false := by simpa using hp
            have hv : hitV y o = 0 := by rw [HV.out, HK.out]; unfold pV; simp [hp]
            rw [hv]
            clear hv hp
            go_enter Try.func50, Try.ntmps50
            go_wp2
            all_goals
              go_returns
              exact ⟨rfl, ((Tch.refl No w).alloc _).alloc _⟩
        · have k4 : (o.kind == 4) = false := by simpa using h4
          have hv : hitV y o = 0 := by
            rw [HV.out, if_neg]
            intro h
            rcases pK_kind h with h | h | h
            · exact h2 h
            · exact h3 h
            · exact h4 h
          rw [hv]
          clear hv hs h2 h3 h4
          go_enter Try.func50, Try.ntmps50
          go_wp2
          all_goals
            go_returns
            exact ⟨rfl, ((Tch.refl No w).alloc _).alloc _⟩
  · have hs2 : (y.state != 1) = true := by simpa using hs
    have hv : hitV y o = 0 := by unfold hitV; rw [if_neg (fun h => hs h.1)]
    rw [hv]
    clear hv hs
    go_enter Try.func50, Try.ntmps50
    go_wp2
    all_goals
      go_returns
      exact ⟨rfl, ((Tch.refl No w).alloc _).alloc _⟩
end Go.Proofs.Ytmfhilddemgabaa
