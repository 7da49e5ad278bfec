/- FaultTells. Conditions: the slice reads as a list. -/
import Derived.Test.YtmoiehbhhplckaaDoorProg
import Derived.Test.YtmoiehbhhplckaaDoorG8
import Derived.Tactics
import Derived.Tactics2
import Derived.WalkKit
import Derived.WalkSpells
import Derived.WalkLawsBesides
import Derived.StillTactics
import Derived.StillTailTactics
import Derived.OwnWalk
import Derived.Laws.Pointers
import Derived.Laws.ResultCell
import Derived.Deep.RegionHeld3
import Derived.Deep.RegionWith
import Derived.Deep.RegionLaw
import Derived.Deep.AppendLies
import Derived.Deep.QuietTactic
import Derived.BigQuiet
import Derived.LoopTactic
import Derived.Deep.LoopGhost
import Derived.Deep.DeepCutAuto
import Derived.Deep.DeepFit
import Derived.Maps.AppendAt
import Derived.Below
import Derived.Lib.Hide
import Derived.Handy
import Derived.KernelRfl
import Derived.IntWalk
import Derived.Laws.AppendOwnNone
import Derived.Laws.IdiomStrings
namespace Go.Proofs.YtmoiehbhhplckaaDoor
set_option linter.unusedVariables false
set_option linter.unusedSimpArgs false
open Go.RowKit

open Go.Extern.Stop Go.Stop Go.Extern
theorem cells_tch {w w' : World} {a b : Addr} {u v : Value} (t : Tch No w w') (h : w.cell? ⟨a.block, a.off, none⟩ = some u) : w'.cell? ⟨a.block, a.off, none⟩ = some u := t.cell (fun f => f) h
set_option maxHeartbeats 4000000 in
set_option maxRecDepth 100000 in
theorem ftells_walk (A : Option Addr) (n c : Nat) (inner : Int) (w : World) (hg : HG w) (hnc : n ≤ c) (hmx : c ≤ 9223372036854775807) (l : List Opp) (hx : Rd w No 2 A n (mrows l)) :
    Calls Tryd.prog 3 #[.slice A n c, .int .i64 inner] w (YesB w) := by
  have AL := alive_c w hg
  have HGG := Lib.hid hg
  have HX := Lib.hid hx
  have hln := mrows_len hx
  have HLN := Lib.hid hln
  clear hg hx hln
  go_enter Tryd.func3, Tryd.ntmps3
  go_wp2_with fail
  refine AL.mono ?_
  rintro e w1 ⟨rfl, T1⟩
  clear AL
  have HX1 : Hid (Rd w1 No 2 A n (mrows l)) := HX.out.tch T1.out
  go_wp2_with fail
  refine (few_c No A n c l w1 hnc hmx HX1.out).mono ?_
  rintro e w2 ⟨rfl, rfl⟩
  have hm40 := (few40_le n).1
  have hmn := (few40_le n).2
  have HX2 : Hid (Rd w1 No 2 A (few40 n) (mrows (l.take (few40 n)))) := few_rd HX1.out
  have HLM : Hid ((l.take (few40 n)).length = few40 n) := by rw [List.length_take, HLN.out]; exact Nat.min_eq_left hmn
  generalize few40 n = m at *
  generalize l.take m = l2 at *
  clear HX1 HX
  go_wp2_with fail
  refine (chain_c A m c l2 inner w1 HX2.out (by omega)).mono ?_
  rintro e w3 ⟨u, rfl, hp⟩
  have K3 : Hid (Kp u (l2.map mkO) inner w w3) := ⟨hp.ch, HGG.out.tch (T1.out.and hp.tch) (fun f => f), T1.out.and hp.tch⟩
  have HX3 : Hid (Rd w3 No 2 A m (mrows l2)) := HX2.out.tch hp.tch
  clear hp HX2
  have hl1000 : (l2.map mkO).length ≤ 1000 := by rw [List.length_map, HLM.out]; omega
  have HL1 := Lib.hid hl1000
  clear hl1000
  by_cases h0 : m = 0
  · subst h0
    have hl2 : l2 = [] := List.eq_nil_of_length_eq_zero HLM.out
    subst hl2
    go_wp2_with fail
    refine (Kp.code (n := inner) K3 rfl).mono ?_
    rintro e w4 ⟨rfl, K4⟩
    go_wp2_with fail
    refine (Kp.place (n := -1) K4 rfl).mono ?_
    rintro e w5 ⟨rfl, K5⟩
    go_wp2_with fail
    refine (Kp.depth (n := 0) K5 HL1.out rfl).mono ?_
    rintro e w6 ⟨rfl, K6⟩
    go_wp2
    go_returns
    exact ⟨by simp, K6.out.tch.noBelow⟩
  · obtain ⟨g, off, x, hA, hx, hlt, x0, x1⟩ := rd_mk2 HX3.out 0 (by omega)
    subst hA
    rw [Nat.zero_mul, Nat.add_zero] at x0 x1
    have hcode : codeOf (l2.map mkO) inner = x.kind := by
      cases l2 with
      | nil => simp at hx
      | cons y l3 => simp at hx; subst hx; rfl
    have hplace : placeOf (l2.map mkO) = x.at_ := by
      cases l2 with
      | nil => simp at hx
      | cons y l3 => simp at hx; subst hx; rfl
    have hdep : ((l2.map mkO).length : Int) = (m : Int) := by rw [List.length_map, HLM.out]
    have HCO := Lib.hid hcode
    have HPL := Lib.hid hplace
    have HDE := Lib.hid hdep
    clear hcode hplace hdep hx
    have RD : Hid (∀ w9, Tch No w3 w9 → w9.cell? ⟨g, off, none⟩ = some (.int .i64 x.kind) ∧ w9.cell? ⟨g, off + 1, none⟩ = some (.int .i64 x.at_)) := fun w9 t => ⟨t.cell (fun f => f) x0, t.cell (fun f => f) x1⟩
    have hm0 : 0 < m := by omega
    have hm1 : ((m : Nat) : Int) ≠ 0 := by omega
    have hm2 : (0 : Int) < (m : Int) := by omega
    have KC : Hid (Kp u (l2.map mkO) inner w3 w3) := ⟨K3.out.ch, K3.out.g, Tch.refl _ _⟩
    have TW := Lib.hid K3.out.tch
    clear K3
    go_wp2_with fail
    go_region_held3 (fun w' => w'.cell? ⟨g, off, none⟩ = some (.int .i64 x.kind) ∧ w'.cell? ⟨g, off + 1, none⟩ = some (.int .i64 x.at_)) (go_keep)
      (first
        | (go_at_call 12; go_must (refine (Kp.depth (n := (m : Int)) K5 HL1.out HDE.out.symm).mono ?_); rintro e w6 ⟨rfl, K6⟩; have y01 := RD.out w6 K6.out.tch; obtain ⟨z0, z1⟩ := y01)
        | (go_at_call 11; go_must (refine (Kp.place (n := x.at_) K4 HPL.out.symm).mono ?_); rintro e w5 ⟨rfl, K5⟩; have y01 := RD.out w5 K5.out.tch; obtain ⟨y0, y1⟩ := y01)
        | (go_at_call 10; go_must (refine (Kp.code (n := x.kind) (w := w3.drewN 1) (w0 := w3) (inner := inner) (l := l2.map mkO) ⟨KC.out.ch.tch ((Tch.refl No w3).drewN 1), KC.out.g, (Tch.refl No w3).drewN 1⟩ HCO.out.symm).mono ?_); rintro e w4 ⟨rfl, K4⟩; have y01 := RD.out w4 K4.out.tch; obtain ⟨v0, v1⟩ := y01))
    all_goals
      go_wp2
      go_returns
      exact ⟨by simp, (TW.out.and K6.out.tch).noBelow⟩
end Go.Proofs.YtmoiehbhhplckaaDoor
