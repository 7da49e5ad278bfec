/- OutlineVerdicts. Conditions: the slice reads as a list, at most 1048576. -/
import Derived.Test.YtmoiehbhhplckaaProg
import Derived.Test.YtmoiehbhhplckaaV7
import Derived.Tactics
import Derived.Tactics2
import Derived.WalkKit
import Derived.WalkSpells
import Derived.WalkLawsBesides
import Derived.StillTactics
import Derived.StillTailTactics
import Derived.OwnWalk
import Derived.Laws.Pointers
import Derived.Laws.ResultCell
import Derived.Deep.RegionHeld3
import Derived.Deep.RegionWith
import Derived.Deep.RegionLaw
import Derived.Deep.AppendLies
import Derived.Deep.QuietTactic
import Derived.BigQuiet
import Derived.LoopTactic
import Derived.Deep.LoopGhost
import Derived.Deep.DeepCutAuto
import Derived.Deep.DeepFit
import Derived.Maps.AppendAt
import Derived.Below
import Derived.Lib.Hide
import Derived.Handy
import Derived.KernelRfl
import Derived.IntWalk
import Derived.Laws.AppendOwnNone
import Derived.Laws.IdiomStrings
namespace Go.Proofs.Ytmoiehbhhplckaa
set_option linter.unusedVariables false
set_option linter.unusedSimpArgs false
open Go.RowKit

theorem rec_step {l : List Vd} {k : Nat} {x : Vd} (c : Int) (hx : l[k]? = some x) : recL c (l.take (k + 1)) = (recL c (l.take k) ++ [59, 32]) ++ verL x := by
  unfold recL
  rw [take_snoc hx, List.flatMap_append]
  simp [sepV]
theorem rec_nil (c : Int) : recL c [] = decL c := by unfold recL; simp
set_option maxHeartbeats 8000000 in
set_option maxRecDepth 100000 in
theorem overdicts_walk (rc : Int) (A : Option Addr) (n c : Nat) (l : List Vd) (v : Vd) (w : World) (hr : Rd w No 3 A n (l.flatMap vcells)) (hn : n ≤ 1048576) (hrc : Fit rc) (hl : ∀ x ∈ l, VFit x) (hv : VFit v) :
    Calls Try.prog 9 #[.agg #[.int .i64 rc, .slice A n c], vagg v] w fun e w' => e = .returned (.bool true) ∧ Below w.heap.size w w' := by
  have hln : l.length = n := by have := hr.1; rw [flat_length vcells_length] at this; omega
  have HR := Lib.hid hr
  have HL := Lib.hid hl
  have HN := Lib.hid hln
  have DC := Lib.hid (fun w => rdecimal_c rc w hrc)
  have VO := Lib.hid (fun w => overdict_c v w hv)
  have VR := Lib.hid (fun w => rverdict_c v w hv)
  have HFT := Lib.hid hrc
  have HLEN : Hid (∀ k, k ≤ n → (recL rc (l.take k)).length ≤ 20 + 64 * k) := fun k hk => by
    have := rec_len rc (l.take k) hrc (fun x hx => hl x (List.mem_of_mem_take hx))
    rw [List.length_take, Nat.min_eq_left (by omega)] at this
    exact this
  have RN := Lib.hid (rec_nil rc)
  have RS : Hid (∀ k x, l[k]? = some x → recL rc (l.take (k + 1)) = (recL rc (l.take k) ++ [59, 32]) ++ verL x) := fun k x h => rec_step rc h
  clear hr hl hln hrc hv
  generalize verL v = X at *
  generalize decL rc = D at *
  have RW : ∀ k, ∃ W, W = recL rc (l.take k) := fun k => ⟨_, rfl⟩
  obtain ⟨id, kind, code⟩ := v
  unfold vagg at *
  simp only at VO VR ⊢
  generalize hwb : (w.alloc (.cells #[.int .i64 rc, .slice A n c] 43)).alloc (.cells #[.int .i64 id, .int .i64 kind, .int .i64 code] 45) = wb
  have TB : Hid (Tch No w wb) := by subst hwb; exact ((Tch.refl No w).alloc _).alloc _
  have B1 : Hid (Blk wb w.heap.size 43 #[.int .i64 rc, .slice A n c]) := by subst hwb; exact (Blk.new w 43 _).alloc _
  have B2 : Hid (Blk wb (w.heap.size + 1) 45 #[.int .i64 id, .int .i64 kind, .int .i64 code]) := by
    subst hwb
    have := Blk.new (w.alloc (.cells #[.int .i64 rc, .slice A n c] 43)) 45 #[.int .i64 id, .int .i64 kind, .int .i64 code]
    rw [show (w.alloc (.cells #[.int .i64 rc, .slice A n c] 43)).heap.size = w.heap.size + 1 by simp] at this
    exact this
  go_enter Try.func9, Try.ntmps9
  go_wp2_with fail
  clear hwb
  refine (oalive_c _).mono ?_
  rintro e w1 ⟨rfl, t1⟩
  have T1 := Lib.hid (TB.out.and t1)
  have B1a := Lib.hid (t1.blk B1.out (fun f => f))
  have B2a := Lib.hid (t1.blk B2.out (fun f => f))
  clear t1 TB B1 B2
  obtain ⟨a0, a1⟩ := cells2 B1a.out
  go_wp2_with fail
  refine (DC.out _).mono ?_
  rintro e w2 ⟨rfl, t2⟩
  have T2 := Lib.hid (T1.out.and t2)
  have B1b := Lib.hid (t2.blk B1a.out (fun f => f))
  have B2b := Lib.hid (t2.blk B2a.out (fun f => f))
  have HR2 := Lib.hid (HR.out.tch T2.out)
  clear t2 a0 a1 T1 B1a B2a HR
  go_wp2_with fail
  go_loopw [5, 6] (fun wv iv wr => ∃ (k : Nat) (W : List UInt8), k ≤ n ∧ W = recL rc (l.take k) ∧ iv = .int .i64 k ∧ wv = .string ⟨W.toArray⟩ ∧ Tch No w2 wr) (fun _ iv _ => n - (intOf iv).toNat)
  case atStart => exact ⟨0, D, Nat.zero_le _, by rw [List.take_zero, RN.out], rfl, rfl, Tch.refl _ _⟩
  case round =>
    obtain ⟨k, W, hk, hW, rfl, rfl, ht⟩ := hrel
    have HT := Lib.hid ht
    have hWl : W.length ≤ 20 + 64 * k := by rw [hW]; exact HLEN.out k hk
    have HW := Lib.hid hW
    obtain ⟨a0, a1⟩ := cells2 (ht.blk B1b.out (fun f => f))
    clear ht hW
    by_cases hlt : k < n
    · obtain ⟨g, off, x, hA, hx, hlt2, x0, x1, x2⟩ := rd_v (HR2.out.tch HT.out) k hlt
      subst hA
      have hki : (k : Int) < (n : Int) := by omega
      have hvx := HL.out x (List.mem_of_getElem? hx)
      have VC := Lib.hid (fun w => rverdict_c x w hvx)
      have hvl := ver_len hvx
      have HS := Lib.hid (RS.out k x hx)
      clear hx hvx
      unfold vagg at VC
      generalize verL x = Y at *
      have n1 : ¬ (9223372036854775807 < W.length + 2) := by omega
      have n2 : ¬ (9223372036854775807 < W.length + 2 + Y.length) := by omega
      go_wp2_with (go_at_call 31; go_must (refine (VC.out _).mono ?_); rintro e w5 ⟨rfl, t5⟩; have T5 := Lib.hid (HT.out.and t5); clear t5)
      refine ⟨⟨k + 1, (W ++ [59, 32]) ++ Y, by omega, by rw [HS.out, HW.out], by simp, ?_, T5.out⟩, by simp [intOf]; omega⟩
      rw [← bapp, ← bapp]
    · have hkn : k = n := by omega
      subst hkn
      have hki : ¬ ((k : Int) < (k : Int)) := by omega
      have hWr : W = recL rc l := by rw [HW.out, List.take_of_length_le (by rw [HN.out]; exact Nat.le_refl _)]
      have OR := Lib.hid (fun w' (t : Tch No w2 w') => record_c rc A k c l w' (HR2.out.tch t) hn HFT.out HL.out)
      rw [← hWr] at OR
      have HWR := Lib.hid hWr
      clear hWr
      have RD : Hid (∀ w9, Tch No w2 w9 → (w9.cell? ⟨w.heap.size, 0, none⟩ = some (.int .i64 rc) ∧ w9.cell? ⟨w.heap.size, 1, none⟩ = some (.slice A k c)) ∧ (w9.cell? ⟨w.heap.size + 1, 0, none⟩ = some (.int .i64 id) ∧ w9.cell? ⟨w.heap.size + 1, 1, none⟩ = some (.int .i64 kind) ∧ w9.cell? ⟨w.heap.size + 1, 2, none⟩ = some (.int .i64 code))) := fun w9 t => ⟨cells2 (t.blk B1b.out (fun f => f)), cells3 (t.blk B2b.out (fun f => f))⟩
      clear a0 a1
      obtain ⟨⟨a0, a1⟩, b0, b1, b2⟩ := RD.out _ HT.out
      go_wp2_with fail
      go_region_held3 (fun w' => w'.cell? ⟨w.heap.size, 0, none⟩ = some (.int .i64 rc) ∧ w'.cell? ⟨w.heap.size, 1, none⟩ = some (.slice A k c) ∧ w'.cell? ⟨w.heap.size + 1, 0, none⟩ = some (.int .i64 id) ∧ w'.cell? ⟨w.heap.size + 1, 1, none⟩ = some (.int .i64 kind) ∧ w'.cell? ⟨w.heap.size + 1, 2, none⟩ = some (.int .i64 code)) (go_keep)
        (first
          | (go_at_call 33; go_must (refine (OR.out _ T6.out).mono ?_); rintro e w7 ⟨rfl, t7⟩; have T7 := Lib.hid (T6.out.and t7); have y01 := RD.out w7 T7.out; obtain ⟨⟨g0, g1⟩, g2, g3, g4⟩ := y01; clear t7)
          | (go_at_call 31; go_must (refine (VR.out _).mono ?_); rintro e w6 ⟨rfl, t6⟩; have T6 := Lib.hid (T5.out.and t6); have y01 := RD.out w6 T6.out; obtain ⟨⟨h0, h1⟩, h2, h3, h4⟩ := y01; clear t6)
          | (go_at_call 32; go_must (refine (VO.out _).mono ?_); rintro e w5 ⟨rfl, t5⟩; have T5 : Hid (Tch No w2 w5) := HT.out.and (t5.undrewN (n := 1)); have y01 := RD.out w5 T5.out; obtain ⟨⟨k0, k1⟩, k2, k3, k4⟩ := y01; clear t5)
          | fail)
      all_goals
        go_wp2
        go_returns
        exact ⟨by simp, (T2.out.and T7.out).noBelow⟩
end Go.Proofs.Ytmoiehbhhplckaa
