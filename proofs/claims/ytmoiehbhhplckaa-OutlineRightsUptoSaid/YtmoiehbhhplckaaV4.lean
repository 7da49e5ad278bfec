/- Right's closures. Conditions: the variable's slice is the call's own. -/
import Derived.Test.YtmoiehbhhplckaaProg
import Derived.Test.YtmoiehbhhplckaaV3
import Derived.Tactics
import Derived.Tactics2
import Derived.WalkKit
import Derived.WalkSpells
import Derived.WalkLawsBesides
import Derived.StillTactics
import Derived.StillTailTactics
import Derived.OwnWalk
import Derived.Laws.Pointers
import Derived.Laws.ResultCell
import Derived.Deep.RegionHeld3
import Derived.Deep.RegionWith
import Derived.Deep.RegionLaw
import Derived.Deep.AppendLies
import Derived.Deep.QuietTactic
import Derived.BigQuiet
import Derived.LoopTactic
import Derived.Deep.LoopGhost
import Derived.Deep.DeepCutAuto
import Derived.Deep.DeepFit
import Derived.Maps.AppendAt
import Derived.Below
import Derived.Lib.Hide
import Derived.Handy
import Derived.KernelRfl
import Derived.IntWalk
import Derived.Laws.AppendOwnNone
import Derived.Laws.IdiomStrings
namespace Go.Proofs.Ytmoiehbhhplckaa
set_option linter.unusedVariables false
set_option linter.unusedSimpArgs false
open Go.RowKit

/-- a variable of the call's own that holds a slice of texts of the call's own -/
structure Out (w : World) (g b : Nat) (v : Value) (L : List (List UInt8)) : Prop where
  blk : Blk w g 57 #[v]
  own : w.ownsRow b 9 1 v L.length (strs L)
def Foot (g : Nat) (v : Value) : Nat → Prop := fun k => k = g ∨ v.ownBlock = some k
theorem Out.tch {w w' : World} {g b : Nat} {v : Value} {L : List (List UInt8)} (h : Out w g b v L) (t : Tch No w w') : Out w' g b v L := ⟨t.blk h.blk (fun f => f), t.own h.own (fun _ _ f => f)⟩
structure OutP (g b : Nat) (v : Value) (L : List (List UInt8)) (w w' : World) (v' : Value) : Prop where
  out : Out w' g b v' L
  tch : Tch (Foot g v) w w'
  own : ∀ k, v'.ownBlock = some k → v.ownBlock = some k ∨ w.heap.size ≤ k
def OutR (g b : Nat) (v : Value) (L : List (List UInt8)) (w : World) (e : Ending) (w' : World) : Prop := e = .returned (.tuple #[]) ∧ ∃ v', OutP g b v L w w' v'
theorem blk_gr {w w' : World} {r : Option Nat} {g : Nat} {t : TypeId} {cs : Array Value} (h : w.grownBy w' r) (hn : r ≠ some g) (hb : Blk w g t cs) : Blk w' g t cs := (h.block g hb.lt (Ne.symm hn)).trans hb
theorem out_fin {g b n a cc : Nat} {v : Value} {L : List (List UInt8)} {X : List UInt8} {w w2 w3 : World} {o : Obj} (ho : Out w g b v L) (t : Tch No w w2) (hn : L.length = n)
    (hown : w3.ownsRow b 9 1 (.slice (some ⟨a, 0, none⟩) (n + 1) cc) (n + 1) (strs L ++ strs [X])) (hg : (w2.alloc o).grownBy w3 v.ownBlock) (hat : v.ownBlock = some a ∨ a = w2.heap.size + 1) (b3 : Blk w3 g 57 #[v]) :
    OutP g b v (L ++ [X]) w (w3.setCell ⟨g, 0, none⟩ (.slice (some ⟨a, 0, none⟩) (n + 1) cc)) (.slice (some ⟨a, 0, none⟩) (n + 1) cc) := by
  have hag : a ≠ g := by
    rcases hat with h | h
    · intro e; subst e
      exact own_blk_ne ho.own ho.blk (by decide) h
    · have := ho.blk.lt
      have := t.size
      omega
  have t1 : Tch (Foot g v) w (w2.alloc o) := (t.alloc o).no
  have t2 : Tch (Foot g v) (w2.alloc o) w3 := Tch.of_grown hg fun k hk => .inl (.inr hk)
  refine ⟨⟨b3.set_ 0 _, ?_⟩, (t1.and t2).set_ (.inl (.inl rfl)) _, fun k hk => ?_⟩
  · have h3 := (Tch.refl (fun k => k = g) w3).set_ (p := ⟨g, 0, none⟩) (.inl rfl) (.slice (some ⟨a, 0, none⟩) (n + 1) cc)
    have h2 := h3.own hown (fun k hk => by simp [Value.ownBlock] at hk; omega)
    rw [show (L ++ [X]).length = n + 1 by simp [hn], show strs (L ++ [X]) = strs L ++ strs [X] by simp [strs]]
    exact h2
  · have : a = k := by simpa [Value.ownBlock] using hk
    subst this
    rcases hat with h | h
    · exact .inl h
    · right
      have := t.size
      omega
def cntL (word : List UInt8) (n : Int) : List (List UInt8) := if 0 < n then [(word ++ [32]) ++ decL n] else []
theorem newblk1 (w : World) (cs : Array Value) (t : TypeId) : (w.alloc (.cells cs t)).heap[w.heap.size]? = some (.cells cs t (0, 0)) := Blk.new w t cs
set_option maxHeartbeats 4000000 in
set_option maxRecDepth 100000 in
theorem cnt_c (word : List UInt8) (n : Int) (g b : Nat) (v : Value) (L : List (List UInt8)) (w : World) (ho : Out w g b v L) (hb : b ≤ w.heap.size) (hn : Fit n) (hw : word.length ≤ 100) (hL : L.length ≤ 1000) :
    Calls Try.prog 65 #[.string ⟨word.toArray⟩, .int .i64 n, .pointer (some ⟨g, 0, none⟩)] w (OutR g b v (L ++ cntL word n) w) := by
  obtain ⟨i0, hi0, hz0, hz1, hz2⟩ := info_parts Try.info9
  rcases (by omega : 0 < n ∨ ¬ 0 < n) with h0 | h0
  · have hc : Hid (cntL word n = [(word ++ [32]) ++ decL n]) := if_pos h0
    have DC := Lib.hid (fun w => num_c n w hn)
    have dl := dec_len hn
    have HO := Lib.hid ho
    generalize decL n = D at *
    have n1 : ¬ (9223372036854775807 < word.length + 1) := by omega
    have n2 : ¬ (9223372036854775807 < word.length + 1 + D.length) := by omega
    obtain ⟨A, c, rfl⟩ := own_slice ho.own
    have hng := own_blk_ne ho.own ho.blk (by decide)
    have HNG := Lib.hid hng
    have c0 := cell1 ho.blk
    have hk1 : L.length + 1 ≤ maxLen := by unfold maxLen; omega
    have hk2 : (L.length + 1) * 16 ≤ 140737488355328 := by omega
    have HS : Hid (Value.string ((⟨word.toArray⟩ : ByteArray) ++ ⟨#[32]⟩ ++ ⟨D.toArray⟩) = .string ⟨((word ++ [32]) ++ D).toArray⟩) := by rw [← bapp, ← bapp]; exact rfl
    clear ho hng dl hw
    go_enter Try.func65, Try.ntmps65
    go_wp2_with fail
    go_region_law (first
      | (go_simp; go_at_call 52; go_must (refine (DC.out _).mono ?_; rintro e w2 ⟨rfl, t2⟩; have T2 : Hid (Tch No w w2) := t2.undrewN (n := 1); have O2 := Lib.hid (HO.out.tch T2.out); have c2 := cell1 O2.out.blk; have hs2 := T2.out.size; have hg4 : ¬ w2.heap.size = g := (by have := O2.out.blk.lt; omega); have hg5 : ¬ g = w2.heap.size := (by omega); have c4 : ∀ o, (w2.alloc o).cell? ⟨g, 0, none⟩ = some (.slice A L.length c) := fun o => cell1 (O2.out.blk.alloc o); clear t2))
      | ((refine step_append_lies _ (by rfl) _ _ _ (by rfl) b 9 i0 _ 1 16 Try.underlying57 hi0 hz0 hz1 hz2 rfl (by omega) (.slice A L.length c) L.length (strs L) (by rfl) (O2.out.own.alloc _) ⟨w2.heap.size, 0, none⟩ 1 1 _ (by rfl) (by rfl) (World.news_of_block (newblk1 w2 _ 9)) (by simp [Value.oneCell']) (by omega) hk1 hk2 (le_alloc (by omega) _) (w2.heap.size + 1) (by simp) ?_); intro a cc w3 hown3 hg3 hat3 hlt3; have b3 := blk_gr hg3 HNG.out (O2.out.blk.alloc _); have c3 := cell1 b3; have f3 := b3.frozen) | fail)
    all_goals
      go_wp2
      go_returns
      rw [hc.out]
      have h4 : w3.ownsRow b 9 1 (.slice (some ⟨a, 0, none⟩) (L.length + 1) cc) (L.length + 1) (strs L ++ strs [(word ++ [32]) ++ D]) := by
        show w3.ownsRow b 9 1 (.slice (some ⟨a, 0, none⟩) (L.length + 1) cc) (L.length + 1) (strs L ++ [.string ⟨((word ++ [32]) ++ D).toArray⟩])
        rw [← HS.out]; exact hown3
      exact ⟨rfl, _, out_fin HO.out T2.out rfl h4 hg3 hat3 b3⟩
  · have hc : cntL word n = [] := if_neg h0
    rw [hc, List.append_nil]
    have HO := Lib.hid ho
    clear ho hc
    go_enter Try.func65, Try.ntmps65
    go_wp2
    go_returns
    exact ⟨rfl, v, HO.out, Tch.refl _ _, fun k hk => .inl hk⟩
end Go.Proofs.Ytmoiehbhhplckaa
