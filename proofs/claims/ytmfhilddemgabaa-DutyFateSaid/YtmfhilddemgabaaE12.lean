/- The duty law's package: run. Conditions: as E10. -/
import Derived.Test.YtmfhilddemgabaaProg
import Derived.Test.YtmfhilddemgabaaE11
import Derived.Tactics
import Derived.Tactics2
import Derived.WalkKit
import Derived.WalkSpells
import Derived.WalkLawsBesides
import Derived.StillTactics
import Derived.StillTailTactics
import Derived.OwnWalk
import Derived.Laws.Pointers
import Derived.Laws.ResultCell
import Derived.Deep.RegionHeld3
import Derived.Deep.RegionWith
import Derived.Deep.RegionLaw
import Derived.Deep.AppendLies
import Derived.Deep.QuietTactic
import Derived.BigQuiet
import Derived.LoopTactic
import Derived.Deep.LoopGhost
import Derived.Deep.DeepCutAuto
import Derived.Deep.DeepFit
import Derived.Maps.AppendAt
import Derived.Below
import Derived.Lib.Hide
import Derived.Handy
import Derived.KernelRfl
namespace Go.Proofs.Ytmfhilddemgabaa
set_option linter.unusedVariables false
set_option linter.unusedSimpArgs false
open Go.RowKit

def runL (l : List Ins) (ops : List Opp) : List Ins := ops.foldl stepL l
theorem runL_succ (l : List Ins) (ops : List Opp) (i : Nat) (o : Opp) (h : ops[i]? = some o) : runL l (ops.take (i + 1)) = stepL (runL l (ops.take i)) o := by
  obtain ⟨hi, hx⟩ := List.getElem?_eq_some_iff.1 h
  unfold runL
  rw [List.take_succ_eq_append_getElem hi, hx, List.foldl_append]
  rfl
theorem runL_len (l : List Ins) (ops : List Opp) : (runL l ops).length ≤ l.length + ops.length := by
  induction ops generalizing l with
  | nil => simp [runL]
  | cons o ops ih =>
    have h1 := ih (stepL l o)
    have h2 := stepL_length l o
    show (runL (stepL l o) ops).length ≤ _
    simp only [List.length_cons]
    omega

theorem rd_opp {w : World} {S : Nat → Prop} {A : Option Addr} {n : Nat} {l : List Opp} (hr : Rd w S 8 A n (orows l)) (i : Nat) (hi : i < n) :
    ∃ g off x, A = some ⟨g, off, none⟩ ∧ l[i]? = some x ∧ w.cell? ⟨g, off + i * 8, none⟩ = some (.int .i64 x.kind) ∧ w.cell? ⟨g, off + i * 8 + 1, none⟩ = some (.int .i64 x.x.id) ∧ w.cell? ⟨g, off + i * 8 + 2, none⟩ = some (.int .i64 x.x.place) ∧ w.cell? ⟨g, off + i * 8 + 3, none⟩ = some (.string x.x.act) ∧
      w.cell? ⟨g, off + i * 8 + 4, none⟩ = some (.int .i64 x.x.due) ∧ w.cell? ⟨g, off + i * 8 + 5, none⟩ = some (.bool x.x.keep) ∧ w.cell? ⟨g, off + i * 8 + 6, none⟩ = some (.int .i64 x.x.state) ∧ w.cell? ⟨g, off + i * 8 + 7, none⟩ = some (.int .i64 x.at_) := by
  have hn : l.length = n := by have := hr.1; unfold orows at this; rw [flat_length ocells_length] at this; omega
  obtain ⟨g, off, x, hA, hS, hg, hx, hc⟩ := rd_at ocells_length hr i hi hn
  refine ⟨g, off, x, hA, hx, hc 0 (by omega) _ rfl, ?_, ?_, ?_, ?_, ?_, ?_, ?_⟩
  · rw [Nat.add_assoc]; exact hc 1 (by omega) _ rfl
  · rw [Nat.add_assoc]; exact hc 2 (by omega) _ rfl
  · rw [Nat.add_assoc]; exact hc 3 (by omega) _ rfl
  · rw [Nat.add_assoc]; exact hc 4 (by omega) _ rfl
  · rw [Nat.add_assoc]; exact hc 5 (by omega) _ rfl
  · rw [Nat.add_assoc]; exact hc 6 (by omega) _ rfl
  · rw [Nat.add_assoc]; exact hc 7 (by omega) _ rfl

/-- The page's list and the table stand alike, and what has been touched. -/
def Alike (F : Nat → Prop) (g b : Nat) (v : Value) (l : List Ins) (w : World) (A : Option Addr) (c : Nat) (v' : Value) (wr : World) : Prop :=
  SNil A l.length c ∧ Tab wr g b v' l ∧ Rd wr (FF g v' F) 6 A l.length (rows l) ∧ Tch (Foot g v) w wr ∧ (∀ k, v'.ownBlock = some k → v.ownBlock = some k ∨ w.heap.size ≤ k)
theorem alike_no {F : Nat → Prop} {g b c : Nat} {v v' : Value} {l : List Ins} {w wr w2 : World} {A : Option Addr} (h : Alike F g b v l w A c v' wr) (t : Tch No wr w2) : Alike F g b v l w A c v' w2 :=
  ⟨h.1, tab_tch h.2.1 t, h.2.2.1.tch t.no, h.2.2.2.1.and t.no, h.2.2.2.2⟩
theorem alike_step {F : Nat → Prop} {g b c : Nat} {v v' : Value} {l l' : List Ins} {w wr w2 : World} {A : Option Addr} (h : Alike F g b v l w A c v' wr) {A2 : Option Addr} {c2 : Nat} {v2 : Value} (h2 : Alike F g b v' l' wr A2 c2 v2 w2) : Alike F g b v l' w A2 c2 v2 w2 := by
  have hs := h.2.2.2.1.size
  refine ⟨h2.1, h2.2.1, h2.2.2.1, h.2.2.2.1.trans h2.2.2.2.1 ?_, ?_⟩
  · rintro i (h1 | h1)
    · exact .inl (.inl h1)
    · rcases h.2.2.2.2 i h1 with h3 | h3
      · exact .inl (.inr h3)
      · exact .inr h3
  · intro k hk
    rcases h2.2.2.2.2 k hk with h3 | h3
    · exact h.2.2.2.2 k h3
    · exact .inr (by omega)

/-- All as the page's list: as run asks it: the walk of 'same(t.All(), m)' in one word. -/
theorem rd_both {F : Nat → Prop} {g b c c1 n : Nat} {v v' : Value} {l : List Ins} {w wr w2 : World} {A A1 : Option Addr} {xs : List Value} (h : Alike F g b v l w A c v' wr) (ho : w2.ownsRow wr.heap.size 23 6 (.slice A1 n c1) n xs) (t : Tch No wr w2) : Rd w2 No 6 A1 n xs ∧ Rd w2 No 6 A l.length (rows l) := by
  obtain ⟨A4, c4, e4, hr4⟩ := Rd.of_own (S := No) ho (fun _ _ f => f)
  injection e4 with e4 _ e5
  subst e4
  exact ⟨hr4, (h.2.2.1.tch t.no).mono (fun _ _ f => f.elim)⟩

set_option maxHeartbeats 1600000 in
theorem run_c (F : Nat → Prop) (g b : Nat) (v : Value) (l : List Ins) (A : Option Addr) (c : Nat) (B : Option Addr) (n d : Nat) (ops : List Opp) (w : World) (ht : Alike F g b v l w A c v w) (hF : ∀ k, F k → k < w.heap.size) (hb : b ≤ w.heap.size) (ho : Rd w (Foot g v) 8 B n (orows ops)) (hl : l.length + n ≤ 900000) :
    Calls Try.prog 29 #[.pointer (some ⟨g, 0, none⟩), .slice A l.length c, .slice B n d] w (StepP g b v F (runL l ops) w) := by
  have hn : ops.length = n := by have := ho.1; unfold orows at this; rw [flat_length ocells_length] at this; omega
  have HA := Lib.hid ht
  have HO := Lib.hid ho
  clear ht ho
  go_enter Try.func29, Try.ntmps29
  go_wp2_with (first
    | (go_at_call 17; refine (all_c g b v l _ HA.out.2.1 (by omega)).mono ?_; rintro e w1 ⟨A1, c1, rfl, ho1, t1⟩; have rb := rd_both HA.out ho1 t1; have RB := Lib.hid rb; have T1 := Lib.hid t1; clear rb t1 ho1)
    | (go_at_call 31; go_must (refine (same_c No _ _ _ _ _ _ _ RB.out.1 RB.out.2 (by omega)).mono ?_); rintro e w2 ⟨rfl, k2, rfl⟩))
  have A0 := alike_no HA.out (T1.out.drewN k2)
  go_loopw [1, 8, 9] (fun mv okv iv wr => ∃ i A' c' v', i ≤ n ∧ iv = .int .i64 (i : Nat) ∧ okv = .bool true ∧ mv = .slice A' (runL l (ops.take i)).length c' ∧ Alike F g b v (runL l (ops.take i)) w A' c' v' wr) (fun _ _ iv _ => n - (intOf iv).toNat)
  case atStart => exact ⟨0, A, c, v, by omega, rfl, rfl, rfl, A0⟩
  case round =>
    obtain ⟨i, A', c', v', hin, rfl, rfl, rfl, ha⟩ := hrel
    clear A0 HA
    have hlen := runL_len l (ops.take i)
    have htk : (ops.take i).length ≤ i := by simp; omega
    by_cases hlt : i < n
    · obtain ⟨p, off, o, hB, hx, a0, a1, a2, a3, a4, a5, a6, a7⟩ := rd_opp (HO.out.tch ha.2.2.2.1) i hlt
      subst hB
      have hs := runL_succ l ops i o hx
      have HS := Lib.hid hs
      have HA := Lib.hid ha
      have hb2 : b ≤ wr.heap.size := Nat.le_trans hb ha.2.2.2.1.size
      have hF2 : ∀ k, F k → k < wr.heap.size := fun k hk => Nat.lt_of_lt_of_le (hF k hk) ha.2.2.2.1.size
      have hsl := stepL_length (runL l (ops.take i)) o
      clear ha hs hx
      go_wp2_with (first
        | (go_at_call 44; refine (step_c F g b v' _ A' c' o wr HA.out.2.1 hb2 HA.out.2.2.1 hF2 HA.out.1 (by omega)).mono ?_; rintro e w1 ⟨A2, c2, v2, rfl, h2⟩; have al := alike_step HA.out h2; have AL := Lib.hid al; clear al h2)
        | (go_at_call 17; refine (all_c g b v2 _ _ AL.out.2.1 (by omega)).mono ?_; rintro e w2 ⟨A3, c3, rfl, ho3, t3⟩; have rb := rd_both AL.out ho3 t3; have RB := Lib.hid rb; have T3 := Lib.hid t3; clear rb t3 ho3)
        | (go_at_call 31; go_must (refine (same_c No _ _ _ _ _ _ _ RB.out.1 RB.out.2 (by omega)).mono ?_); rintro e w3 ⟨rfl, k3, rfl⟩))
      exact ⟨⟨i + 1, A2, c2, v2, by omega, by simp, rfl, by rw [HS.out], by rw [HS.out]; exact alike_no AL.out (T3.out.drewN k3)⟩, by simp [intOf]; omega⟩
    · have : i = n := by omega
      subst this
      have e0 : ops.take i = ops := List.take_of_length_le (by omega)
      rw [e0] at ha hlen
      rw [e0]
      have HA := Lib.hid ha
      clear ha e0
      go_wp2
      go_returns
      exact ⟨A', c', v', rfl, HA.out.1, HA.out.2⟩
end Go.Proofs.Ytmfhilddemgabaa
