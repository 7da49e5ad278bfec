/- The quota layer: contract of the law package soon. Conditions: the numbers are those of a bucket. -/
import Derived.Test.YtmfhilddemgabaaProg
import Derived.Test.YtmfhilddemgabaaQ5
import Derived.Tactics
import Derived.Tactics2
import Derived.WalkKit
import Derived.WalkSpells
import Derived.WalkLawsBesides
import Derived.StillTactics
import Derived.StillTailTactics
import Derived.OwnWalk
import Derived.Laws.Pointers
import Derived.Laws.ResultCell
import Derived.Deep.RegionHeld3
import Derived.Deep.QuietTactic
import Derived.BigQuiet
import Derived.LoopTactic
import Derived.Deep.LoopGhost
import Derived.Deep.DeepCutAuto
import Derived.Deep.DeepFit
import Derived.Maps.AppendAt
import Derived.Below
import Derived.Lib.Hide
import Derived.Handy
import Derived.KernelRfl
namespace Go.Proofs.Ytmfhilddemgabaa
set_option linter.unusedVariables false
set_option linter.unusedSimpArgs false
open Go.RowKit

theorem below_two {w : World} {o : Obj} {w2 : World} (h : Below (w.alloc o).heap.size (w.alloc o) w2) : Below w.heap.size w w2 :=
  ((Below.refl w.heap.size w).alloc (Nat.le_refl _) o).trans (h.mono (by simp))

set_option maxHeartbeats 800000 in
theorem soon_no_c (s : Bk) (k n : Int) (w : World) (hs : s.Ok) (hk : 0 ≤ k) (hk' : k ≤ 9223372036854775807) (h : n < 0 ∨ s.size < n ∨ (afterV s k < n ∧ s.rate = 0)) :
    Calls Try.prog 39 #[.agg #[.int .i64 s.size, .int .i64 s.rate, .int .i64 s.have_, .int .i64 s.last], .int .i64 k, .int .i64 n, .int .i64 0, .bool false] w (BoolB true w) := by
  rcases h with h | h | ⟨h, hr⟩
  · go_enter Try.func39, Try.ntmps39
    go_wp2_with fail
    refine (after_c s k _ hs hk hk').mono ?_
    rintro e w1 ⟨rfl, hb⟩
    go_wp2_with fail
    go_returns
    exact ⟨rfl, below_two hb⟩
  · have hn : ¬ n < 0 := by have := hs.s0; omega
    go_enter Try.func39, Try.ntmps39
    go_wp2_with fail
    refine (after_c s k _ hs hk hk').mono ?_
    rintro e w1 ⟨rfl, hb⟩
    have hc : ∀ o, w1.cell? ⟨w.heap.size, o, none⟩ = (w.alloc (.cells #[.int .i64 s.size, .int .i64 s.rate, .int .i64 s.have_, .int .i64 s.last] 42)).cell? ⟨w.heap.size, o, none⟩ := fun o => hb.cell (by simp)
    go_wp2_with fail
    go_returns
    exact ⟨rfl, below_two hb⟩
  · have hr' : (s.rate == 0) = true := by simpa using hr
    have hn : ¬ n < 0 := by have := after_bounds s hs k hk; omega
    clear hr
    go_enter Try.func39, Try.ntmps39
    go_wp2_with fail
    refine (after_c s k _ hs hk hk').mono ?_
    rintro e w1 ⟨rfl, hb⟩
    have hc : ∀ o, w1.cell? ⟨w.heap.size, o, none⟩ = (w.alloc (.cells #[.int .i64 s.size, .int .i64 s.rate, .int .i64 s.have_, .int .i64 s.last] 42)).cell? ⟨w.heap.size, o, none⟩ := fun o => hb.cell (by simp)
    go_wp2_with fail
    all_goals
      go_returns
      exact ⟨rfl, below_two hb⟩

set_option maxHeartbeats 800000 in
theorem soon_now_c (s : Bk) (k n : Int) (w : World) (hs : s.Ok) (hk : 0 ≤ k) (hk' : k ≤ 9223372036854775807) (h0 : 0 ≤ n) (h1 : n ≤ s.size) (h : n ≤ afterV s k) :
    Calls Try.prog 39 #[.agg #[.int .i64 s.size, .int .i64 s.rate, .int .i64 s.have_, .int .i64 s.last], .int .i64 k, .int .i64 n, .int .i64 0, .bool true] w (BoolB true w) := by
  have hfo := full_ok s hs k hk
  have hfa : n ≤ afterV (full s k) 0 := by
    have := after_bounds s hs k hk
    show n ≤ min s.size (afterV s k + s.rate * 0)
    rw [Int.mul_zero]; omega
  go_enter Try.func39, Try.ntmps39
  go_wp2_with fail
  refine (after_c s k _ hs hk hk').mono ?_
  rintro e w1 ⟨rfl, hb⟩
  have hc : ∀ o, w1.cell? ⟨w.heap.size, o, none⟩ = (w.alloc (.cells #[.int .i64 s.size, .int .i64 s.rate, .int .i64 s.have_, .int .i64 s.last] 42)).cell? ⟨w.heap.size, o, none⟩ := fun o => hb.cell (by simp)
  go_wp2_with fail
  refine (after_c (full s k) 0 _ hfo (by omega) (by omega)).mono ?_
  rintro e w2 ⟨rfl, hb2⟩
  go_wp2_with fail
  go_returns
  refine ⟨rfl, ?_⟩
  have h3 := below_two hb
  exact (h3.alloc h3.size _).trans (hb2.mono (by have := h3.size; simp; omega))

set_option maxHeartbeats 800000 in
theorem soon_then_c (s : Bk) (k n q : Int) (w : World) (hs : s.Ok) (hk : 0 ≤ k) (hk' : k ≤ 9223372036854775807) (h0 : 0 ≤ n) (h1 : n ≤ s.size) (h : afterV s k < n) (hr : s.rate ≠ 0)
    (hq : 1 ≤ q) (hq' : q ≤ 4294967296) (ha : n ≤ afterV (full s k) q) (hz : afterV (full s k) (q - 1) < n) :
    Calls Try.prog 39 #[.agg #[.int .i64 s.size, .int .i64 s.rate, .int .i64 s.have_, .int .i64 s.last], .int .i64 k, .int .i64 n, .int .i64 q, .bool true] w (BoolB true w) := by
  have hfo := full_ok s hs k hk
  have hr' : (s.rate == 0) = false := by simpa using hr
  have hq0 : (q == 0) = false := by simp; omega
  clear hr
  go_enter Try.func39, Try.ntmps39
  go_wp2_with fail
  refine (after_c s k _ hs hk hk').mono ?_
  rintro e w1 ⟨rfl, hb⟩
  have hc : ∀ o, w1.cell? ⟨w.heap.size, o, none⟩ = (w.alloc (.cells #[.int .i64 s.size, .int .i64 s.rate, .int .i64 s.have_, .int .i64 s.last] 42)).cell? ⟨w.heap.size, o, none⟩ := fun o => hb.cell (by simp)
  have h3 := below_two hb
  go_wp2_with fail
  refine (after_c (full s k) q _ hfo (by omega) (by omega)).mono ?_
  rintro e w2 ⟨rfl, hb2⟩
  have hc2 : ∀ o, w2.cell? ⟨w1.heap.size, o, none⟩ = (w1.alloc (.cells #[.int .i64 s.size, .int .i64 s.rate, .int .i64 (afterV s k), .int .i64 0] 42)).cell? ⟨w1.heap.size, o, none⟩ := fun o => hb2.cell (by simp)
  go_wp2_with fail
  refine (after_c (full s k) (q - 1) _ hfo (by omega) (by omega)).mono ?_
  rintro e w3 ⟨rfl, hb3⟩
  go_wp2_with fail
  go_returns
  refine ⟨rfl, ?_⟩
  have h4 := (h3.alloc h3.size (.cells #[.int .i64 s.size, .int .i64 s.rate, .int .i64 (afterV s k), .int .i64 0] 42)).trans (hb2.mono (by have := h3.size; simp; omega))
  exact h4.trans (hb3.mono h4.size)

theorem soon_c (s : Bk) (k n : Int) (w : World) (hs : s.Ok) (hk : 0 ≤ k) (hk' : k ≤ 9223372036854775807) :
    Calls Try.prog 39 #[.agg #[.int .i64 s.size, .int .i64 s.rate, .int .i64 s.have_, .int .i64 s.last], .int .i64 k, .int .i64 n, .int .i64 (tillV (full s k) n).1, .bool (tillV (full s k) n).2] w (BoolB true w) := by
  by_cases h : n < 0 ∨ s.size < n ∨ (afterV s k < n ∧ s.rate = 0)
  · rw [soon_none (full s k) n h]
    exact soon_no_c s k n w hs hk hk' h
  · by_cases h2 : n ≤ afterV s k
    · rw [soon_now (full s k) n (by omega) (show n ≤ s.size by omega) h2]
      exact soon_now_c s k n w hs hk hk' (by omega) (by omega) h2
    · obtain ⟨q, he, a, b, c, d⟩ := soon_then (full s k) (full_ok s hs k hk) n (by omega) (show n ≤ s.size by omega) (show afterV s k < n by omega) (show s.rate ≠ 0 from fun e => h (.inr (.inr ⟨by omega, e⟩)))
      rw [he]
      exact soon_then_c s k n q w hs hk hk' (by omega) (by omega) (by omega) (fun e => h (.inr (.inr ⟨by omega, e⟩))) a b c d
end Go.Proofs.Ytmfhilddemgabaa
