/- Right's asker. Conditions: the variable's slice is the call's own. -/
import Derived.Test.YtmoiehbhhplckaaProg
import Derived.Test.YtmoiehbhhplckaaV4
import Derived.Tactics
import Derived.Tactics2
import Derived.WalkKit
import Derived.WalkSpells
import Derived.WalkLawsBesides
import Derived.StillTactics
import Derived.StillTailTactics
import Derived.OwnWalk
import Derived.Laws.Pointers
import Derived.Laws.ResultCell
import Derived.Deep.RegionHeld3
import Derived.Deep.RegionWith
import Derived.Deep.RegionLaw
import Derived.Deep.AppendLies
import Derived.Deep.QuietTactic
import Derived.BigQuiet
import Derived.LoopTactic
import Derived.Deep.LoopGhost
import Derived.Deep.DeepCutAuto
import Derived.Deep.DeepFit
import Derived.Maps.AppendAt
import Derived.Below
import Derived.Lib.Hide
import Derived.Handy
import Derived.KernelRfl
import Derived.IntWalk
import Derived.Laws.AppendOwnNone
import Derived.Laws.IdiomStrings
namespace Go.Proofs.Ytmoiehbhhplckaa
set_option linter.unusedVariables false
set_option linter.unusedSimpArgs false
open Go.RowKit

structure Ev where
  kind : Int
  name : ByteArray
  n : Int
  lo : Int
  hi : Int
  A : Option Addr
  m : Nat
  c : Nat
def ecells (e : Ev) : List Value := [.int .i64 e.kind, .string e.name, .int .i64 e.n, .int .i64 e.lo, .int .i64 e.hi, .slice e.A e.m e.c]
def eagg (e : Ev) : Value := .agg #[.int .i64 e.kind, .string e.name, .int .i64 e.n, .int .i64 e.lo, .int .i64 e.hi, .slice e.A e.m e.c]
/-- what Right asks: nothing of what is true, else its text -/
def AskP (e : Ev) (word : List UInt8) (w : World) (T : List (List UInt8)) : Prop :=
  ((e.kind = 2 ∧ e.n = 1) ∧ T = []) ∨ (¬ (e.kind = 2 ∧ e.n = 1) ∧ ∃ X : List UInt8, T = [(word ++ [32]) ++ X] ∧ X.length ≤ 1000000000 ∧ ∀ w', Tch No w w' → Calls Try.prog 64 #[eagg e] w' (Str1 X w'))
set_option maxHeartbeats 4000000 in
set_option maxRecDepth 100000 in
theorem ask_c (word : List UInt8) (e : Ev) (T : List (List UInt8)) (g b : Nat) (v : Value) (L : List (List UInt8)) (w : World) (ho : Out w g b v L) (hb : b ≤ w.heap.size) (hw : word.length ≤ 100) (hL : L.length ≤ 1000) (hA : AskP e word w T) :
    Calls Try.prog 63 #[.string ⟨word.toArray⟩, eagg e, .pointer (some ⟨g, 0, none⟩)] w (OutR g b v (L ++ T) w) := by
  obtain ⟨i0, hi0, hz0, hz1, hz2⟩ := info_parts Try.info9
  rcases hA with ⟨⟨h1, h2⟩, rfl⟩ | ⟨hne, X, hT, hX, hE⟩
  · have HO := Lib.hid ho
    rw [List.append_nil]
    unfold eagg
    obtain ⟨kind, name, n, lo, hi, A, m, c⟩ := e
    simp only at h1 h2 ⊢
    subst h1 h2
    have hgs := ho.blk.lt
    clear ho
    go_enter Try.func63, Try.ntmps63
    go_wp2
    go_returns
    refine ⟨rfl, v, HO.out.tch ((Tch.refl No w).alloc _), ((Tch.refl No w).alloc _).no, fun k hk => .inl hk⟩
  · have HT := Lib.hid hT
    clear hT
    have HO := Lib.hid ho
    generalize hwb : w.alloc (.cells (ecells e).toArray 51) = wb
    have TB : Hid (Tch No w wb) := by subst hwb; exact (Tch.refl No w).alloc _
    have BX : Hid (Blk wb w.heap.size 51 (ecells e).toArray) := by subst hwb; exact Blk.new w 51 _
    have DC : Hid (∀ w', Tch No wb w' → Calls Try.prog 64 #[eagg e] w' (Str1 X w')) := fun w' t => hE w' (TB.out.and t)
    have HOb := Lib.hid (HO.out.tch TB.out)
    have hsb := TB.out.size
    obtain ⟨A', c', rfl⟩ := own_slice ho.own
    have hng := own_blk_ne ho.own ho.blk (by decide)
    have HNG := Lib.hid hng
    have hk1 : L.length + 1 ≤ maxLen := by unfold maxLen; omega
    have hk2 : (L.length + 1) * 16 ≤ 140737488355328 := by omega
    have n1 : ¬ (9223372036854775807 < word.length + 1) := by omega
    have n2 : ¬ (9223372036854775807 < word.length + 1 + X.length) := by omega
    have HS : Hid (Value.string ((⟨word.toArray⟩ : ByteArray) ++ ⟨#[32]⟩ ++ ⟨X.toArray⟩) = .string ⟨((word ++ [32]) ++ X).toArray⟩) := by rw [← bapp, ← bapp]; exact rfl
    obtain ⟨kind, name, n, lo, hi, A, m, c⟩ := e
    unfold eagg ecells at *
    simp only at hne hwb
    obtain ⟨e0, e1, e2, e3, e4, e5⟩ := cells6 BX.out
    have cb := cell1 HOb.out.blk
    clear ho hng hw hE hX
    have hcase : kind ≠ 2 ∨ (kind = 2 ∧ n ≠ 1) := by omega
    clear hne
    rcases hcase with k1 | ⟨rfl, k1⟩
    all_goals
      go_enter Try.func63, Try.ntmps63
      go_wp2_with fail
      go_region_law (first
        | (go_simp; go_at_call 64; go_must (refine (DC.out _ ((Tch.refl No wb).drewN 1)).mono ?_; rintro e w2 ⟨rfl, t2⟩; have T2 : Hid (Tch No w w2) := (TB.out.and (t2.undrewN (n := 1))); have O2 := Lib.hid (HO.out.tch T2.out); have c2 := cell1 O2.out.blk; have hs2 := T2.out.size; have hg4 : ¬ w2.heap.size = g := (by have := O2.out.blk.lt; omega); have hg5 : ¬ g = w2.heap.size := (by omega); have c4 : ∀ o, (w2.alloc o).cell? ⟨g, 0, none⟩ = some (.slice A' L.length c') := fun o => cell1 (O2.out.blk.alloc o); clear t2))
        | (refine step_append_lies _ (by rfl) _ _ _ (by rfl) b 9 i0 _ 1 16 Try.underlying57 hi0 hz0 hz1 hz2 rfl (by omega) (.slice A' L.length c') L.length (strs L) (by rfl) (O2.out.own.alloc _) ⟨w2.heap.size, 0, none⟩ 1 1 _ (by rfl) (by rfl) (World.news_of_block (newblk1 w2 _ 9)) (by simp [Value.oneCell']) (by omega) hk1 hk2 (le_alloc (by omega) _) (w2.heap.size + 1) (by simp) ?_; intro a cc w3 hown3 hg3 hat3 hlt3; have b3 := blk_gr hg3 HNG.out (O2.out.blk.alloc _); have c3 := cell1 b3; have f3 := b3.frozen) | fail)
      all_goals
        go_wp2
        go_returns
        have h4 : w3.ownsRow b 9 1 (.slice (some ⟨a, 0, none⟩) (L.length + 1) cc) (L.length + 1) (strs L ++ strs [(word ++ [32]) ++ X]) := by
          show w3.ownsRow b 9 1 (.slice (some ⟨a, 0, none⟩) (L.length + 1) cc) (L.length + 1) (strs L ++ [.string ⟨((word ++ [32]) ++ X).toArray⟩])
          rw [← HS.out]; exact hown3
        rw [HT.out]
        exact ⟨rfl, _, out_fin HO.out T2.out rfl h4 hg3 hat3 b3⟩
end Go.Proofs.Ytmoiehbhhplckaa
