/- The quota layer: contracts of (*quota.Bucket).later, till, At, Take, Clone, Wait and of quota.New. Conditions: the bucket is one block of five cells, its numbers are those of a bucket. -/
import Derived.Test.YtmfhilddemgabaaProg
import Derived.Test.YtmfhilddemgabaaQ1
import Derived.Tactics
import Derived.Tactics2
import Derived.WalkKit
import Derived.WalkSpells
import Derived.WalkLawsBesides
import Derived.StillTactics
import Derived.StillTailTactics
import Derived.OwnWalk
import Derived.Laws.Pointers
import Derived.Laws.ResultCell
import Derived.Deep.RegionHeld3
import Derived.Deep.QuietTactic
import Derived.BigQuiet
import Derived.LoopTactic
import Derived.Deep.LoopGhost
import Derived.Deep.DeepCutAuto
import Derived.Deep.DeepFit
import Derived.Maps.AppendAt
import Derived.Below
import Derived.Lib.Hide
import Derived.Handy
import Derived.KernelRfl
namespace Go.Proofs.Ytmfhilddemgabaa
set_option linter.unusedVariables false
set_option linter.unusedSimpArgs false
open Go.RowKit

def Blk (w : World) (g : Nat) (t : TypeId) (cs : Array Value) : Prop := w.heap[g]? = some (.cells cs t (0, 0))
section
variable {w w' : World} {g : Nat} {t : TypeId} {cs : Array Value}
theorem Blk.lt (h : Blk w g t cs) : g < w.heap.size := by
  rcases Nat.lt_or_ge g w.heap.size with hlt | hge
  · exact hlt
  · unfold Blk at h; rw [Array.getElem?_eq_none hge] at h; cases h
theorem Blk.cell (h : Blk w g t cs) (i : Nat) : w.cell? ⟨g, i, none⟩ = cs[i]? := cell_of_row w g i cs t (0, 0) h
theorem Blk.frozen (h : Blk w g t cs) (i : Nat) : w.frozen? ⟨g, i, none⟩ = false := by
  unfold Blk at h
  simp [World.frozen?, h]
theorem Blk.new (w : World) (t : TypeId) (cs : Array Value) : Blk (w.alloc (.cells cs t)) w.heap.size t cs := heap_alloc_new w _
theorem Blk.drewN (h : Blk w g t cs) (n : Nat) : Blk (w.drewN n) g t cs := h
theorem Blk.alloc (h : Blk w g t cs) (o : Obj) : Blk (w.alloc o) g t cs := (Below.heap_alloc w o g h.lt).trans h
theorem Blk.set_ (h : Blk w g t cs) (i : Nat) (u : Value) : Blk (w.setCell ⟨g, i, none⟩ u) g t (cs.setIfInBounds i u) := by
  unfold Blk at h ⊢
  simp [World.setCell, Array.getElem?_modify, h]
theorem Blk.far (h : Blk w g t cs) {p : Addr} (hp : g ≠ p.block) (u : Value) : Blk (w.setCell p u) g t cs := (Below.heap_setCell w p u g hp).trans h
theorem Blk.below {B : Nat} (h : Blk w g t cs) (hb : Below B w w') (hg : g < B) : Blk w' g t cs := (hb.block g hg).trans h
theorem Blk.grown {row : Option Nat} (h : Blk w g t cs) (hb : w.grownBy w' row) (hg : some g ≠ row) : Blk w' g t cs := (hb.block g h.lt hg).trans h
end

/-- Only block g, and what is new, has turned. -/
theorem gr_refl (w : World) (r : Option Nat) : w.grownBy w r := ⟨rfl, rfl, rfl, Nat.le_refl _, fun _ _ _ => rfl⟩
theorem gr_drewN {a w : World} {r : Option Nat} (h : a.grownBy w r) (n : Nat) : a.grownBy (w.drewN n) r := ⟨h.os, h.tape, h.output, h.size, h.block⟩
theorem gr_set {a w : World} {g : Nat} (h : a.grownBy w (some g)) (i : Nat) (u : Value) : a.grownBy (w.setCell ⟨g, i, none⟩ u) (some g) :=
  ⟨h.os, h.tape, h.output, by simpa [World.setCell] using h.size, fun k hk hne => (Below.heap_setCell w _ u k (fun e => hne (by rw [e]))).trans (h.block k hk hne)⟩
theorem gr_alloc {a w : World} {r : Option Nat} (h : a.grownBy w r) (o : Obj) : a.grownBy (w.alloc o) r :=
  ⟨h.os, h.tape, h.output, by have := h.size; simp; omega, fun k hk hne => (Below.heap_alloc w o k (Nat.lt_of_lt_of_le hk h.size)).trans (h.block k hk hne)⟩

def Bkt (w : World) (g : Nat) (s : Bk) : Prop := Blk w g 58 #[.bool true, .int .i64 s.size, .int .i64 s.rate, .int .i64 s.have_, .int .i64 s.last]
theorem Bkt.cells {w : World} {g : Nat} {s : Bk} (h : Bkt w g s) : w.cell? ⟨g, 0, none⟩ = some (.bool true) ∧ w.cell? ⟨g, 1, none⟩ = some (.int .i64 s.size) ∧ w.cell? ⟨g, 2, none⟩ = some (.int .i64 s.rate) ∧
    w.cell? ⟨g, 3, none⟩ = some (.int .i64 s.have_) ∧ w.cell? ⟨g, 4, none⟩ = some (.int .i64 s.last) :=
  ⟨Blk.cell h 0, Blk.cell h 1, Blk.cell h 2, Blk.cell h 3, Blk.cell h 4⟩

theorem later_c (g : Nat) (s : Bk) (at_ : Int) (w : World) (h : Bkt w g s) :
    Calls Try.prog 41 #[.pointer (some ⟨g, 0, none⟩), .int .i64 at_] w fun e w' => e = .returned (.int .i64 (laterV s at_)) ∧ w = w' := by
  obtain ⟨c0, c1, c2, c3, c4⟩ := h.cells
  clear h
  go_enter Try.func41, Try.ntmps41
  go_wp2
  all_goals
    go_returns
    exact ⟨ret_int (by unfold laterV; omega), rfl⟩

theorem till_neg {s : Bk} {n : Int} (h : n < 0 ∨ s.size < n) : 0 = (tillV s n).1 ∧ false = (tillV s n).2 := by unfold tillV; rw [if_pos h]; exact ⟨rfl, rfl⟩
theorem till_now {s : Bk} {n : Int} (h0 : ¬ (n < 0 ∨ s.size < n)) (h : n ≤ s.have_) : 0 = (tillV s n).1 ∧ true = (tillV s n).2 := by unfold tillV; rw [if_neg h0, if_pos h]; exact ⟨rfl, rfl⟩
theorem till_never {s : Bk} {n : Int} (h0 : ¬ (n < 0 ∨ s.size < n)) (h1 : ¬ n ≤ s.have_) (h : s.rate = 0) : 0 = (tillV s n).1 ∧ false = (tillV s n).2 := by unfold tillV; rw [if_neg h0, if_neg h1, if_pos h]; exact ⟨rfl, rfl⟩
theorem till_then {s : Bk} {n : Int} (h0 : ¬ (n < 0 ∨ s.size < n)) (h1 : ¬ n ≤ s.have_) (h : ¬ s.rate = 0) : (n - s.have_ + s.rate - 1) / s.rate = (tillV s n).1 ∧ true = (tillV s n).2 := by
  unfold tillV; rw [if_neg h0, if_neg h1, if_neg h]; exact ⟨rfl, rfl⟩

def Quiet2 (v : Value) (w : World) (e : Ending) (w' : World) : Prop := e = .returned v ∧ ∃ n, w' = w.drewN n

set_option maxHeartbeats 400000 in
theorem till_c (g : Nat) (s : Bk) (n : Int) (w : World) (h : Bkt w g s) (hs : s.Ok) (hn : -9223372036854775808 ≤ n) (hn' : n ≤ 9223372036854775807) :
    Calls Try.prog 43 #[.pointer (some ⟨g, 0, none⟩), .int .i64 n] w (Quiet2 (.tuple #[.int .i64 (tillV s n).1, .bool (tillV s n).2]) w) := by
  obtain ⟨c0, c1, c2, c3, c4⟩ := h.cells
  obtain ⟨o1, o2, o3, o4, o5, o6, o7, o8⟩ := hs
  clear h
  by_cases h0 : n < 0 ∨ s.size < n
  · have H := Lib.hid (till_neg h0)
    go_enter Try.func43, Try.ntmps43
    go_wp2
    all_goals
      go_returns
      exact ⟨ret_pair H.out, 0, rfl⟩
  · by_cases h1 : n ≤ s.have_
    · have H := Lib.hid (till_now h0 h1)
      have h2 : ¬ n < 0 := by omega
      have h3 : ¬ s.size < n := by omega
      clear h0
      go_enter Try.func43, Try.ntmps43
      go_wp2
      all_goals
        go_returns
        exact ⟨ret_pair H.out, 0, rfl⟩
    · by_cases hr : s.rate = 0
      · have H := Lib.hid (till_never h0 h1 hr)
        have h2 : ¬ n < 0 := by omega
        have h3 : ¬ s.size < n := by omega
        have h4 : (s.rate == 0) = true := by simpa using hr
        clear h0 hr
        go_enter Try.func43, Try.ntmps43
        go_wp2
        all_goals
          go_returns
          exact ⟨ret_pair H.out, 0, rfl⟩
      · have H := Lib.hid (till_then h0 h1 hr)
        have h2 : ¬ n < 0 := by omega
        have h3 : ¬ s.size < n := by omega
        have h4 : (s.rate == 0) = false := by simpa using hr
        have h5 : 0 < s.rate := by omega
        clear h0
        go_enter Try.func43, Try.ntmps43
        go_wp2
        go_quiet (fail)
        go_wp2
        go_returns
        refine ⟨ret_pair ?_, _, rfl⟩
        exact H.out
end Go.Proofs.Ytmfhilddemgabaa
