/- chain. Conditions: the slice reads as a list. -/
import Derived.Test.YtmoiehbhhplckaaDoorProg
import Derived.Test.YtmoiehbhhplckaaDoorG6
import Derived.Test.YtmoiehbhhplckaaDoorO
import Derived.Tactics
import Derived.Tactics2
import Derived.WalkKit
import Derived.WalkSpells
import Derived.WalkLawsBesides
import Derived.StillTactics
import Derived.StillTailTactics
import Derived.OwnWalk
import Derived.Laws.Pointers
import Derived.Laws.ResultCell
import Derived.Deep.RegionHeld3
import Derived.Deep.RegionWith
import Derived.Deep.RegionLaw
import Derived.Deep.AppendLies
import Derived.Deep.QuietTactic
import Derived.BigQuiet
import Derived.LoopTactic
import Derived.Deep.LoopGhost
import Derived.Deep.DeepCutAuto
import Derived.Deep.DeepFit
import Derived.Maps.AppendAt
import Derived.Below
import Derived.Lib.Hide
import Derived.Handy
import Derived.KernelRfl
import Derived.IntWalk
import Derived.Laws.AppendOwnNone
import Derived.Laws.IdiomStrings
namespace Go.Proofs.YtmoiehbhhplckaaDoor
set_option linter.unusedVariables false
set_option linter.unusedSimpArgs false
open Go.RowKit

open Go.Extern.Stop Go.Stop Go.Extern
def few40 (n : Nat) : Nat := if 40 < n then 40 else n
theorem few40_le (n : Nat) : few40 n ≤ 40 ∧ few40 n ≤ n := by unfold few40; split <;> omega
def mrows (l : List Opp) : List Value := l.flatMap ocells
def mkO (o : Opp) : Mk := ⟨o.kind, o.at_⟩
theorem mrows_len {w : World} {S : Nat → Prop} {A : Option Addr} {n : Nat} {l : List Opp} (hr : Rd w S 2 A n (mrows l)) : l.length = n := by
  have := hr.1; unfold mrows at this; rw [flat_length ocells_length] at this; omega
theorem few_c (S : Nat → Prop) (A : Option Addr) (n c : Nat) (l : List Opp) (w : World) (h : n ≤ c) (hm : c ≤ 9223372036854775807) (hr : Rd w S 2 A n (mrows l)) :
    Calls Tryd.prog 8 #[.slice A n c] w fun e w' => e = .returned (.slice A (few40 n) c) ∧ w = w' := by
  by_cases h5 : 40 < n
  · obtain ⟨g, off, hA, _⟩ := hr.2 (by omega)
    subst hA
    clear hr
    go_enter Tryd.func8, Tryd.ntmps8
    go_wp2
    go_returns
    rw [show few40 n = 40 from if_pos h5]
    exact ⟨rfl, rfl⟩
  · clear hr
    go_enter Tryd.func8, Tryd.ntmps8
    go_wp2
    go_ret
    rw [show few40 n = n from if_neg h5]
    exact ⟨rfl, rfl⟩
theorem few_rd {S : Nat → Prop} {A : Option Addr} {n : Nat} {l : List Opp} {w : World} (hr : Rd w S 2 A n (mrows l)) : Rd w S 2 A (few40 n) (mrows (l.take (few40 n))) := by
  have hl := mrows_len hr
  have := hr.take (few40_le n).2
  unfold mrows at this ⊢
  rw [flat_take ocells_length l _ (by rw [hl]; exact (few40_le n).2)] at this
  exact this
theorem rd_mk2 {w : World} {S : Nat → Prop} {A : Option Addr} {n : Nat} {l : List Opp} (hr : Rd w S 2 A n (mrows l)) (i : Nat) (hi : i < n) :
    ∃ g off x, A = some ⟨g, off, none⟩ ∧ l[i]? = some x ∧ g < w.heap.size ∧ w.cell? ⟨g, off + i * 2, none⟩ = some (.int .i64 x.kind) ∧ w.cell? ⟨g, off + i * 2 + 1, none⟩ = some (.int .i64 x.at_) := by
  have hn := mrows_len hr
  obtain ⟨g, off, hA, hg, hlt, hc⟩ := hr.2 (by omega)
  have hx : l[i]? = some l[i] := List.getElem?_eq_getElem (by omega)
  refine ⟨g, off, l[i], hA, hx, hlt, ?_, ?_⟩
  · have := hc (i * 2 + 0) _ (by unfold mrows; rw [flat_get ocells_length l i 0 (by omega) _ hx]; rfl)
    exact this
  · have := hc (i * 2 + 1) _ (by unfold mrows; rw [flat_get ocells_length l i 1 (by omega) _ hx]; rfl)
    exact this
/-- what chain leaves -/
structure ChP (l : List Mk) (inner : Int) (w : World) (u : Value) (w' : World) : Prop where
  ch : Ch w' u l inner
  tch : Tch No w w'
def ChR (l : List Mk) (inner : Int) (w : World) (e : Ending) (w' : World) : Prop := ∃ u, e = .returned u ∧ ChP l inner w u w'
set_option maxHeartbeats 4000000 in
set_option maxRecDepth 100000 in
theorem chain_w (A : Option Addr) (n c : Nat) (l : List Opp) (inner : Int) (w : World) (hr : Rd w No 2 A n (mrows l)) (hln : l.length = n) (hn : n ≤ 1000)
    (b0 : Bool) (v0 : Value) (hb0 : (inner != 0) = b0) (hu : Ch w v0 [] inner) (hcase : (b0 = false ∧ v0 = .nilIface) ∨ (b0 = true ∧ v0 = .iface 23 (.int .i64 inner))) :
    Calls Tryd.prog 9 #[.slice A n c, .int .i64 inner] w (ChR (l.map mkO) inner w) := by
  have HR := Lib.hid hr
  have HL := Lib.hid hln
  have HU := Lib.hid hu
  clear hr hln hu
  have e27 : ∀ (t : TypeId) (v : Value) (w : World), (binOp .eql 27 (.iface t v) .nilIface).run Tryd.prog w = .ok (.bool false) w := fun t v w => by kernel_rfl
  rcases hcase with ⟨rfl, rfl⟩ | ⟨rfl, rfl⟩
  all_goals
    go_enter Tryd.func9, Tryd.ntmps9
    go_wp2_with fail
    go_loopw [5, 6] (fun ev iv wr => ∃ j : Nat, j ≤ n ∧ iv = .int .i64 ((j : Int) - 1) ∧ Ch wr ev ((l.drop j).map mkO) inner ∧ Tch No w wr) (fun _ iv _ => (intOfV iv + 1).toNat)
    case atStart => exact ⟨n, Nat.le_refl _, rfl, by rw [List.drop_of_length_le (by rw [HL.out]; exact Nat.le_refl _)]; exact HU.out, Tch.refl _ _⟩
    case round =>
      obtain ⟨j, hj, rfl, hc, ht⟩ := hrel
      rcases j with _ | j
      · have HC := Lib.hid hc
        have HT := Lib.hid ht
        clear hc ht
        go_wp2
        go_ret
        exact ⟨_, rfl, HC.out, HT.out⟩
      · obtain ⟨g, off, x, hA, hx, hlt, x0, x1⟩ := rd_mk2 (HR.out.tch ht) j (by omega)
        subst hA
        have hd : l.drop j = x :: l.drop (j + 1) := by
          rw [List.drop_eq_getElem_cons (List.getElem?_eq_some_iff.1 hx).1, (List.getElem?_eq_some_iff.1 hx).2]
        have HD := Lib.hid hd
        have HT := Lib.hid ht
        have hsz := hlt
        clear hd ht hx
        have hjj : ((j + 1 : Nat) : Int) - 1 = (j : Int) := by omega
        rw [hjj]
        have hjn : (j : Int) < (n : Int) := by omega
        have hjn2 : j < n := by omega
        cases hdd : (l.drop (j + 1)).map mkO with
        | nil =>
          rw [hdd] at hc
          have HDD := Lib.hid hdd
          rcases hc with ⟨h1, rfl⟩ | ⟨h1, rfl⟩
          · have H1 := Lib.hid h1
            clear hdd h1
            go_wp2_with fail
            go_still_tail 10, (by kernel_rfl)
            go_wp2_with (go_at_call 19; refine (fnew_c x.kind x.at_ _).mono ?_; rintro e w2 ⟨rfl, rfl⟩)
            refine ⟨⟨j, by omega, rfl, ?_, (HT.out.drewN 1).alloc _⟩, by simp [intOfV]⟩
            rw [HD.out, List.map_cons, HDD.out]
            exact ⟨_, _, rfl, Blk.new _ _ _, .inl ⟨H1.out, rfl⟩⟩
          · have H1 := Lib.hid h1
            clear hdd h1
            go_wp2_with fail
            go_still_tail 11, (by kernel_rfl)
            go_wp2_with (go_at_call 14; refine (fwrap_c x.kind x.at_ _ _ _).mono ?_; rintro e w2 ⟨rfl, rfl⟩)
            refine ⟨⟨j, by omega, rfl, ?_, (HT.out.drewN 1).alloc _⟩, by simp [intOfV]⟩
            rw [HD.out, List.map_cons, HDD.out]
            exact ⟨_, _, rfl, Blk.new _ _ _, .inr ⟨H1.out, rfl⟩⟩
        | cons m r =>
          rw [hdd] at hc
          have HDD := Lib.hid hdd
          have HC := Lib.hid hc
          obtain ⟨g2, u2, rfl, _, _⟩ := hc
          clear hdd
          go_wp2_with fail
          go_still_tail 11, (by kernel_rfl)
          go_wp2_with (go_at_call 14; refine (fwrap_c x.kind x.at_ _ _ _).mono ?_; rintro e w2 ⟨rfl, rfl⟩)
          refine ⟨⟨j, by omega, rfl, ?_, (HT.out.drewN 1).alloc _⟩, by simp [intOfV]⟩
          rw [HD.out, List.map_cons, HDD.out]
          exact ⟨_, _, rfl, Blk.new _ _ _, HC.out.tch (((Tch.refl No wr).drewN 1).alloc _)⟩
set_option maxHeartbeats 4000000 in
set_option maxRecDepth 100000 in
theorem chain_c (A : Option Addr) (n c : Nat) (l : List Opp) (inner : Int) (w : World) (hr : Rd w No 2 A n (mrows l)) (hn : n ≤ 1000) :
    Calls Tryd.prog 9 #[.slice A n c, .int .i64 inner] w (ChR (l.map mkO) inner w) := by
  have hln := mrows_len hr
  have HR := Lib.hid hr
  have HL := Lib.hid hln
  clear hr hln
  have key : ∃ u0, Ch w u0 [] inner ∧ ((inner = 0 ∧ u0 = .nilIface) ∨ (inner ≠ 0 ∧ u0 = .iface 23 (.int .i64 inner))) := by
    by_cases h : inner = 0
    · exact ⟨.nilIface, .inl ⟨h, rfl⟩, .inl ⟨h, rfl⟩⟩
    · exact ⟨_, .inr ⟨h, rfl⟩, .inr ⟨h, rfl⟩⟩
  obtain ⟨u0, hu, hcase⟩ := key
  have HU := Lib.hid hu
  clear hu
  rcases hcase with ⟨h0, rfl⟩ | ⟨h0, rfl⟩
  · have hb0 : (inner != 0) = false := by simp [h0]
    have H0 := Lib.hid h0
    clear h0
    exact chain_w A n c l inner w HR.out HL.out hn false _ hb0 HU.out (.inl ⟨rfl, rfl⟩)
  · have hb0 : (inner != 0) = true := by simp [h0]
    have H0 := Lib.hid h0
    clear h0
    exact chain_w A n c l inner w HR.out HL.out hn true _ hb0 HU.out (.inr ⟨rfl, rfl⟩)
end Go.Proofs.YtmoiehbhhplckaaDoor
