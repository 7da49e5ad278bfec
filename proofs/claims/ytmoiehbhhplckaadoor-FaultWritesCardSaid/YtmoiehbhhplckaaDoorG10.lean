/- FaultHas. Conditions: the slice reads as a list. -/
import Derived.Test.YtmoiehbhhplckaaDoorProg
import Derived.Test.YtmoiehbhhplckaaDoorG9
import Derived.Tactics
import Derived.Tactics2
import Derived.WalkKit
import Derived.WalkSpells
import Derived.WalkLawsBesides
import Derived.StillTactics
import Derived.StillTailTactics
import Derived.OwnWalk
import Derived.Laws.Pointers
import Derived.Laws.ResultCell
import Derived.Deep.RegionHeld3
import Derived.Deep.RegionWith
import Derived.Deep.RegionLaw
import Derived.Deep.AppendLies
import Derived.Deep.QuietTactic
import Derived.BigQuiet
import Derived.LoopTactic
import Derived.Deep.LoopGhost
import Derived.Deep.DeepCutAuto
import Derived.Deep.DeepFit
import Derived.Maps.AppendAt
import Derived.Below
import Derived.Lib.Hide
import Derived.Handy
import Derived.KernelRfl
import Derived.IntWalk
import Derived.Laws.AppendOwnNone
import Derived.Laws.IdiomStrings
namespace Go.Proofs.YtmoiehbhhplckaaDoor
set_option linter.unusedVariables false
set_option linter.unusedSimpArgs false
open Go.RowKit

open Go.Extern.Stop Go.Stop Go.Extern
def wantV (l : List Opp) (inner k : Int) : Bool := (decide (inner = k) && decide (inner ≠ 0)) || l.any (fun x => decide (x.kind = k))
theorem want_has (l : List Opp) (inner k : Int) : hasV (l.map mkO) inner k = wantV l inner k := by
  unfold hasV wantV
  rw [List.any_map, Bool.or_comm]
  rfl
theorem want_step (l : List Opp) (inner k : Int) (i : Nat) (x : Opp) (hx : l[i]? = some x) : wantV (l.take (i + 1)) inner k = (wantV (l.take i) inner k || decide (x.kind = k)) := by
  unfold wantV
  rw [List.take_add_one, hx]
  simp [Bool.or_assoc]
theorem ws_f {inner code : Int} (h : (inner == code) = false) : Value.bool false = Value.bool (decide (inner = code) && decide (inner ≠ 0)) := by
  have : inner ≠ code := by simpa using h
  simp [this]
theorem ws_t {inner code : Int} (h : (inner == code) = true) : Value.bool (inner != 0) = Value.bool (decide (inner = code) && decide (inner ≠ 0)) := by
  have : inner = code := by simpa using h
  subst this
  by_cases h0 : inner = 0 <;> simp [h0]
set_option maxHeartbeats 4000000 in
set_option maxRecDepth 100000 in
theorem fhas_w (A : Option Addr) (n c : Nat) (inner code : Int) (w : World) (hg : HG w) (hnc : n ≤ c) (hmx : c ≤ 9223372036854775807) (l : List Opp) (hx : Rd w No 2 A n (mrows l)) (b0 : Bool) (hb0 : (inner == code) = b0) :
    Calls Tryd.prog 4 #[.slice A n c, .int .i64 inner, .int .i64 code] w (YesB w) := by
  have AL := alive_c w hg
  have HGG := Lib.hid hg
  have HX := Lib.hid hx
  have hln := mrows_len hx
  have HLN := Lib.hid hln
  clear hg hx hln
  cases b0
  all_goals
   go_enter Tryd.func4, Tryd.ntmps4
   go_wp2_with fail
   refine AL.mono ?_
   rintro e w1 ⟨rfl, T1⟩
   clear AL
   have HX1 : Hid (Rd w1 No 2 A n (mrows l)) := HX.out.tch T1.out
   go_wp2_with fail
   refine (few_c No A n c l w1 hnc hmx HX1.out).mono ?_
   rintro e w2 ⟨rfl, rfl⟩
   have hm40 := (few40_le n).1
   have hmn := (few40_le n).2
   have HX2 : Hid (Rd w1 No 2 A (few40 n) (mrows (l.take (few40 n)))) := few_rd HX1.out
   have HLM : Hid ((l.take (few40 n)).length = few40 n) := by rw [List.length_take, HLN.out]; exact Nat.min_eq_left hmn
   generalize few40 n = m at *
   generalize l.take m = l2 at *
   clear HX1 HX
   have hw0 : Hid (wantV [] inner code = (decide (inner = code) && decide (inner ≠ 0))) := by unfold wantV; show _ = _; simp
   have HST := Lib.hid (want_step l2 inner code)
   go_wp2_with fail
   all_goals
     go_loopw [7, 8] (fun bv iv wr => ∃ i : Nat, i ≤ m ∧ iv = .int .i64 i ∧ bv = .bool (wantV (l2.take i) inner code) ∧ wr = w1) (fun _ iv _ => m - (intOfV iv).toNat)
     case atStart => exact ⟨0, Nat.zero_le _, rfl, by rw [List.take_zero, hw0.out]; first | exact ws_f hb0 | exact ws_t hb0, rfl⟩
     case round =>
       obtain ⟨i, hi, rfl, rfl, rfl⟩ := hrel
       by_cases hlt : i < m
       · obtain ⟨g, off, x, hA, hx, hg, x0, x1⟩ := rd_mk2 HX2.out i hlt
         subst hA
         have hst := Lib.hid (HST.out i x hx)
         have hlt2 : (i : Int) < (m : Int) := by omega
         clear hx
         cases hwv : wantV (l2.take i) inner code with
         | true =>
           rw [hwv] at hst
           clear hwv
           go_wp2
           exact ⟨⟨i + 1, by omega, by simp, by rw [hst.out]; rfl, trivial⟩, by simp [intOfV]; omega⟩
         | false =>
           rw [hwv] at hst
           clear hwv
           by_cases hk : x.kind = code
           · have hd : decide (x.kind = code) = true := by simp [hk]
             rw [hd] at hst
             go_wp2
             exact ⟨⟨i + 1, by omega, by simp, by rw [hst.out]; simp, trivial⟩, by simp [intOfV]; omega⟩
           · have hd : decide (x.kind = code) = false := by simp [hk]
             rw [hd] at hst
             go_wp2
             exact ⟨⟨i + 1, by omega, by simp, by rw [hst.out]; simp [hk], trivial⟩, by simp [intOfV]; omega⟩
       · obtain rfl : i = m := by omega
         have hlt2 : ¬ ((i : Int) < (i : Int)) := by omega
         have hall : l2.take i = l2 := List.take_of_length_le (by rw [HLM.out]; exact Nat.le_refl _)
         have hwh := want_has l2 inner code
         rw [← hall] at hwh
         obtain ⟨b, hb⟩ : ∃ b, wantV (l2.take i) inner code = b := ⟨_, rfl⟩
         rw [hb] at hwh ⊢
         have HWH := Lib.hid hwh
         have HAL := Lib.hid hall
         clear hwh hall hb hlt
         go_wp2_with fail
         refine (chain_c A i c l2 inner wr HX2.out (by omega)).mono ?_
         rintro e w3 ⟨u, rfl, hp⟩
         have K3 : Hid (Kp u (l2.map mkO) inner w w3) := ⟨hp.ch, HGG.out.tch (T1.out.and hp.tch) (fun f => f), T1.out.and hp.tch⟩
         have hl1000 : (l2.map mkO).length ≤ 1000 := by rw [List.length_map, HLM.out]; omega
         have HL1 := Lib.hid hl1000
         clear hl1000 hp
         go_wp2_with fail
         refine (Kp.has (k := code) (b := b) K3 HL1.out (by have := HWH.out; rw [HAL.out] at this; exact this.symm)).mono ?_
         rintro e w5 ⟨rfl, K5⟩
         go_wp2
         go_returns
         exact ⟨by simp, K5.out.tch.noBelow⟩
theorem fhas_walk (A : Option Addr) (n c : Nat) (inner code : Int) (w : World) (hg : HG w) (hnc : n ≤ c) (hmx : c ≤ 9223372036854775807) (l : List Opp) (hx : Rd w No 2 A n (mrows l)) :
    Calls Tryd.prog 4 #[.slice A n c, .int .i64 inner, .int .i64 code] w (YesB w) := fhas_w A n c inner code w hg hnc hmx l hx _ rfl
end Go.Proofs.YtmoiehbhhplckaaDoor
