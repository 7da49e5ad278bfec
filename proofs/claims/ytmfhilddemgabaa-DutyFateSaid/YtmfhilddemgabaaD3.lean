/- The duty layer: the contracts of slices.Clone, (*duty.Table).All, Clone. Conditions: the table's slice is a row of its own. -/
import Derived.Test.YtmfhilddemgabaaProg
import Derived.Test.YtmfhilddemgabaaD2
import Derived.Tactics
import Derived.Tactics2
import Derived.WalkKit
import Derived.WalkSpells
import Derived.WalkLawsBesides
import Derived.StillTactics
import Derived.StillTailTactics
import Derived.OwnWalk
import Derived.Laws.Pointers
import Derived.Laws.ResultCell
import Derived.Deep.RegionHeld3
import Derived.Deep.RegionWith
import Derived.Deep.RegionLaw
import Derived.Deep.AppendLies
import Derived.Deep.QuietTactic
import Derived.BigQuiet
import Derived.LoopTactic
import Derived.Deep.LoopGhost
import Derived.Deep.DeepCutAuto
import Derived.Deep.DeepFit
import Derived.Maps.AppendAt
import Derived.Below
import Derived.Lib.Hide
import Derived.Handy
import Derived.KernelRfl
namespace Go.Proofs.Ytmfhilddemgabaa
set_option linter.unusedVariables false
set_option linter.unusedSimpArgs false
open Go.RowKit

/-- A new list: a row of its own. -/
def NewP (n : Nat) (xs : List Value) (w : World) (e : Ending) (w' : World) : Prop :=
  ∃ A c, e = .returned (.slice A n c) ∧ w'.ownsRow w.heap.size 23 6 (.slice A n c) n xs ∧ Tch No w w'

theorem icells_one (l : List Ins) : ∀ u ∈ rows l, u.oneCell' = true := by
  intro u hu
  unfold rows at hu
  obtain ⟨x, _, hx⟩ := List.mem_flatMap.1 hu
  unfold icells at hx
  simp at hx
  rcases hx with rfl | rfl | rfl | rfl | rfl | rfl <;> rfl

theorem rd_add {w : World} {S : Nat → Prop} {size n : Nat} {ad : Addr} {xs : List Value} (h : Rd w S size (some ad) n xs) : ∀ j u, xs[j]? = some u → w.cell? (ad.add j) = some u := by
  intro j u hu
  have hp : 0 < n := by
    rcases Nat.eq_zero_or_pos n with h0 | h0
    · subst h0
      have : xs = [] := List.eq_nil_of_length_eq_zero (by simpa using h.1)
      subst this; simp at hu
    · exact h0
  obtain ⟨g, off, hA, _, _, hc⟩ := h.2 hp
  injection hA with hA
  subst hA
  have := hc j u hu
  rw [show (⟨g, off, none⟩ : Addr).add j = ⟨g, off + j, none⟩ by unfold Addr.add; split <;> simp_all]
  exact this

set_option maxHeartbeats 800000 in
theorem clone_c (S : Nat → Prop) (A : Option Addr) (n c : Nat) (l : List Ins) (w : World) (hr : Rd w S 6 A n (rows l)) (hn : n ≤ 1000000) (hnil : A = none → n = 0 ∧ c = 0) :
    Calls Try.prog 38 #[.slice A n c] w (NewP n (rows l) w) := by
  obtain ⟨i0, hi0, hz0, hz1, hz2⟩ := info_parts Try.info23
  have hk := fun (w : World) (a : Option Addr) (n c : Nat) => Lib.run_eql_slice_nil (P := Try.prog) w 28 23 a n c 0 0 Try.underlying28
  have hl := icells_one l
  have hk1 : 0 + n ≤ maxLen := by unfold maxLen; omega
  have hk2 : (0 + n) * 56 ≤ 140737488355328 := by omega
  cases A with
  | none =>
    obtain ⟨rfl, rfl⟩ := hnil rfl
    have e0 : rows l = [] := List.eq_nil_of_length_eq_zero (by simpa using hr.1)
    have E0 := Lib.hid e0
    clear e0 hl hr hk1 hk2
    go_enter Try.func38, Try.ntmps38
    go_wp2
    go_returns
    exact ⟨none, 0, rfl, by rw [E0.out]; exact World.ownsRow_nil .., Tch.refl _ _⟩
  | some ad =>
    have hcs : Hid (∀ j u, (rows l)[j]? = some u → (w.alloc (.cells #[] 23)).cell? (ad.add j) = some u) := rd_add (hr.tch ((Tch.refl S w).alloc _))
    have hlen := hr.1
    have hs1 : w.heap.size ≤ (w.alloc (.cells #[] 23)).heap.size := by simp
    clear hr hnil
    go_enter Try.func38, Try.ntmps38
    go_wp2_with (at_builtin; go_must (refine wpList_append_own_at _ rfl (.tmp 5) (.tmp 6) _ rfl w.heap.size 23 i0 _ 6 56 Try.underlying28 hi0 hz0 hz1 hz2 rfl (by decide) _ 0 [] rfl (World.ownsRow_made w #[] 0 (Nat.le_refl _) (by decide) rfl) ad n c (rows l) rfl hlen hcs.out hl hk1 hk2 hs1 ?_); intro v1 w1 hown1 hg1 hnil1 hat1)
    go_returns
    rw [Nat.zero_add, List.nil_append] at hown1
    obtain ⟨A1, c1, rfl⟩ := own_slice hown1
    refine ⟨A1, c1, rfl, hown1, ?_⟩
    exact ((Tch.refl No w).alloc _).trans (Tch.of_grown (S := fun k => w.heap.size ≤ k) hg1 (fun k hk => .inl (own_base (World.ownsRow_made w #[] 0 (e := 23) (size := 6) (Nat.le_refl _) (by decide) rfl) k hk))) (fun i hi => .inr hi)

/-- The table's list, anew. -/
theorem all_c (g b : Nat) (v : Value) (l : List Ins) (w : World) (ht : Tab w g b v l) (hl : l.length ≤ 1000000) :
    Calls Try.prog 17 #[.pointer (some ⟨g, 0, none⟩)] w (NewP l.length (rows l) w) := by
  have c0 := cell1 ht.1
  obtain ⟨A, c, rfl, hr⟩ := Rd.of_own (S := No) ht.2 (fun k _ h => h)
  have hnil : A = none → l.length = 0 ∧ c = 0 := by
    intro hA; subst hA
    rcases ht.2.2 with ⟨h, h2⟩ | ⟨g', cap, cur, h, _⟩
    · injection h with _ h3 h4; exact ⟨h3, h4⟩
    · cases h
  have H := Lib.hid hr
  have HN := Lib.hid hnil
  clear hr ht hnil
  go_enter Try.func17, Try.ntmps17
  go_wp2_with (go_at_call 38; go_must (refine (clone_c No A l.length c l _ H.out hl HN.out).mono ?_); rintro e w' ⟨A1, c1, rfl, ho, ht⟩)
  go_returns
  exact ⟨A1, c1, rfl, ho, ht⟩

/-- A table of its own, in a new block. -/
def TabP (l : List Ins) (w : World) (e : Ending) (w' : World) : Prop :=
  ∃ g v, e = .returned (.pointer (some ⟨g, 0, none⟩)) ∧ w.heap.size ≤ g ∧ Tab w' g w.heap.size v l ∧ Tch No w w'
theorem tclone_c (g b : Nat) (v : Value) (l : List Ins) (w : World) (ht : Tab w g b v l) (hl : l.length ≤ 1000000) :
    Calls Try.prog 30 #[.pointer (some ⟨g, 0, none⟩)] w (TabP l w) := by
  have H := Lib.hid ht
  clear ht
  go_enter Try.func30, Try.ntmps30
  go_wp2_with (go_at_call 17; go_must (refine (all_c g b v l _ H.out hl).mono ?_); rintro e w1 ⟨A1, c1, rfl, ho, ht⟩)
  go_returns
  refine ⟨w1.heap.size, _, rfl, ht.size, ⟨Blk.new w1 30 #[.slice A1 l.length c1], ?_⟩, ht.alloc _⟩
  exact ((Tch.refl No w1).alloc _).own ho (fun k _ h => h)
theorem tclone_nil (w : World) : Calls Try.prog 30 #[.pointer none] w fun e w' => e = .returned (.pointer none) ∧ w = w' := by
  go_enter Try.func30, Try.ntmps30
  go_wp2
  go_returns
  exact ⟨rfl, rfl⟩
theorem all_nil (w : World) : Calls Try.prog 17 #[.pointer none] w fun e w' => e = .returned (.slice none 0 0) ∧ w = w' := by
  go_enter Try.func17, Try.ntmps17
  go_wp2
  go_returns
  exact ⟨rfl, rfl⟩
theorem add_nil (x : Ins) (w : World) : Calls Try.prog 14 #[.pointer none, .agg #[.int .i64 x.id, .int .i64 x.place, .string x.act, .int .i64 x.due, .bool x.keep, .int .i64 x.state]] w fun e w' => e = .returned (.int .i64 (-1)) ∧ Tch No w w' := by
  go_enter Try.func14, Try.ntmps14
  go_wp2
  go_returns
  exact ⟨rfl, (Tch.refl _ _).alloc _⟩
end Go.Proofs.Ytmfhilddemgabaa
