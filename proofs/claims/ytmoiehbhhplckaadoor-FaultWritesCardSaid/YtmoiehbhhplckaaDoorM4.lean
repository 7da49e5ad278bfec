/- FaultWrites. Conditions: the slice reads as a list. -/
import Derived.Test.YtmoiehbhhplckaaDoorProg
import Derived.Test.YtmoiehbhhplckaaDoorM3
import Derived.Tactics
import Derived.Tactics2
import Derived.WalkKit
import Derived.WalkSpells
import Derived.WalkLawsBesides
import Derived.StillTactics
import Derived.StillTailTactics
import Derived.OwnWalk
import Derived.Laws.Pointers
import Derived.Laws.ResultCell
import Derived.Deep.RegionHeld3
import Derived.Deep.RegionWith
import Derived.Deep.RegionLaw
import Derived.Deep.AppendLies
import Derived.Deep.QuietTactic
import Derived.BigQuiet
import Derived.LoopTactic
import Derived.Deep.LoopGhost
import Derived.Deep.DeepCutAuto
import Derived.Deep.DeepFit
import Derived.Maps.AppendAt
import Derived.Below
import Derived.Lib.Hide
import Derived.Handy
import Derived.KernelRfl
import Derived.IntWalk
import Derived.Laws.AppendOwnNone
import Derived.Laws.IdiomStrings
namespace Go.Proofs.YtmoiehbhhplckaaDoor
set_option linter.unusedVariables false
set_option linter.unusedSimpArgs false
open Go.RowKit

open Go.Extern.Stop Go.Stop Go.Extern
/-- what the law's loop keeps: faults from j on stand as a chain, and their text -/
structure FW (l2 : List Opp) (m : Nat) (inner : Int) (w0 : World) (j : Nat) (fv wv : Value) (wr : World) : Prop where
  jm : j ≤ m
  tch : Tch No w0 wr
  first : j = m → wv = .string ⟨(([] : List UInt8)).toArray⟩ ∧ ∃ g, fv = .pointer (some ⟨g, 0, none⟩)
  more : j < m → ∃ x r g, (l2.drop j).map mkO = x :: r ∧ fv = .pointer (some ⟨g, 0, none⟩) ∧ Ch wr (.iface 38 fv) (x :: r) inner ∧ wv = .string ⟨(headL x ++ tailL r inner).toArray⟩
theorem drop_one {l2 : List Opp} {j : Nat} {x : Opp} (hx : l2[j]? = some x) : (l2.drop j).map mkO = mkO x :: (l2.drop (j + 1)).map mkO := by
  rw [List.drop_eq_getElem_cons (List.getElem?_eq_some_iff.1 hx).1, (List.getElem?_eq_some_iff.1 hx).2]
  rfl
theorem fw_store {wr w6 w7 : World} {u : Value} (t : Tch No wr w6) (t2 : Tch No (w6.setCell ⟨wr.heap.size, 2, none⟩ u) w7) : Tch No wr w7 :=
  (t.set_ (p := ⟨wr.heap.size, 2, none⟩) (.inr (Nat.le_refl _)) u).and t2
theorem fw_text (h t : List UInt8) : Value.string ((⟨h.toArray⟩ : ByteArray) ++ ⟨#[59, 32]⟩ ++ ⟨t.toArray⟩) = Value.string ⟨(h ++ ([59, 32] ++ t)).toArray⟩ := by
  congr 1
  rw [← List.append_assoc, ← bapp, ← bapp]
theorem fw_len {l2 : List Opp} {m j : Nat} {inner : Int} {y : Mk} {r : List Mk} (hd : (l2.drop (j + 1)).map mkO = y :: r) (hl : l2.length = m) (hm : m ≤ 40) (hf : ∀ x ∈ l2, Fit x.at_) : (headL y ++ tailL r inner).length ≤ 100000 := by
  have hall : ∀ x ∈ y :: r, Fit x.at_ := fun x hx => by
    rw [← hd] at hx
    obtain ⟨o, ho, rfl⟩ := List.mem_map.1 hx
    exact hf o (List.mem_of_mem_drop ho)
  have h1 := head_len (hall y (by simp))
  have h2 := tail_len r inner (fun x hx => hall x (by simp [hx]))
  have h3 := congrArg List.length hd
  rw [List.length_map, List.length_drop] at h3
  rw [List.length_append]
  simp at h3
  omega
set_option maxHeartbeats 8000000 in
set_option maxRecDepth 100000 in
theorem fwrites_walk (A : Option Addr) (n c : Nat) (inner : Int) (w : World) (hg : HG w) (hnc : n ≤ c) (hmx : c ≤ 9223372036854775807) (l : List Opp) (hx : Rd w No 2 A n (mrows l)) (hfit : ∀ x ∈ l, Fit x.at_) :
    Calls Tryd.prog 6 #[.slice A n c, .int .i64 inner] w (YesB w) := by
  have AL := alive_c w hg
  have HX := Lib.hid hx
  have hln := mrows_len hx
  have HLN := Lib.hid hln
  clear hg hx hln
  go_enter Tryd.func6, Tryd.ntmps6
  go_wp2_with fail
  refine AL.mono ?_
  rintro e w1 ⟨rfl, T1⟩
  clear AL
  have HX1 : Hid (Rd w1 No 2 A n (mrows l)) := HX.out.tch T1.out
  go_wp2_with fail
  refine (few_c No A n c l w1 hnc hmx HX1.out).mono ?_
  rintro e w2 ⟨rfl, rfl⟩
  have hm40 := (few40_le n).1
  have hmn := (few40_le n).2
  have HX2 : Hid (Rd w1 No 2 A (few40 n) (mrows (l.take (few40 n)))) := few_rd HX1.out
  have HLM : Hid ((l.take (few40 n)).length = few40 n) := by rw [List.length_take, HLN.out]; exact Nat.min_eq_left hmn
  have HFT : Hid (∀ x ∈ l.take (few40 n), Fit x.at_) := fun x hx => hfit x (List.mem_of_mem_take hx)
  clear hfit
  generalize few40 n = m at *
  generalize l.take m = l2 at *
  clear HX1 HX
  by_cases h0 : m = 0
  · subst h0
    go_wp2_with fail
    refine (err_nil _).mono ?_
    rintro e w3 ⟨rfl, rfl⟩
    go_wp2_with fail
    refine (funw_nil _).mono ?_
    rintro e w3 ⟨rfl, rfl⟩
    go_wp2
    go_ret
    exact ⟨rfl, (T1.out.alloc _).noBelow⟩
  · have hm1 : ¬ ((m : Int) = 0) := by omega
    have hm2 : ((m : Int) == 0) = false := by simp; omega
    generalize hw3 : w1.alloc (.cells #[.int .i64 0, .int .i64 0, .nilIface] 40) = w3
    have T3 : Hid (Tch No w w3) := by subst hw3; exact T1.out.alloc _
    have HX3 : Hid (Rd w3 No 2 A m (mrows l2)) := by subst hw3; exact HX2.out.tch ((Tch.refl No w1).alloc _)
    have HW3 := Lib.hid hw3
    have AE : Hid (∀ w, ∀ p : Int, Fit p → Calls Tryd.prog 17 #[.int .i64 p] w (Str1 (decL p) w)) := fun w p hp => rdecimal_c p w hp
    have EE : Hid (∀ w, ∀ p : Int, Calls Tryd.prog 18 #[.int .i64 p] w (Str1 (errL p) w)) := fun w p => errno_c p w
    go_wp2_with fail
    clear hw3 HX2
    go_loopw [5, 6, 8] (fun fv wv iv wr => ∃ j : Nat, iv = .int .i64 ((j : Int) - 1) ∧ FW l2 m inner w3 j fv wv wr) (fun _ _ iv _ => (intOfV iv + 1).toNat)
    case atStart => exact ⟨m, rfl, Nat.le_refl _, Tch.refl _ _, fun _ => ⟨rfl, _, rfl⟩, fun h => absurd h (by omega)⟩
    case round =>
      obtain ⟨j, rfl, hF⟩ := hrel
      have HF := Lib.hid hF
      have hjm := hF.jm
      clear hF
      rcases j with _ | j
      · obtain ⟨x, r, g, hd, rfl, hc, rfl⟩ := HF.out.more (by omega)
        rw [List.drop_zero] at hd
        have hr : r.length ≤ 1000 := by
          have := congrArg List.length hd
          rw [List.length_map, HLM.out] at this
          simp at this; omega
        have hfx : ∀ y ∈ x :: r, Fit y.at_ := fun y hy => by
          rw [← hd] at hy
          obtain ⟨o, ho, rfl⟩ := List.mem_map.1 hy
          exact HFT.out o ho
        have EC := Lib.hid (errs_c x r inner hr hfx g wr hc)
        generalize headL x ++ tailL r inner = W at *
        clear hc hfx hd
        go_wp2_with fail
        refine EC.out.mono ?_
        rintro e w5 ⟨rfl, t5⟩
        have T5 := Lib.hid t5
        clear t5
        go_wp2
        go_returns
        exact ⟨by simp, (T3.out.and (HF.out.tch.and T5.out)).noBelow⟩
      · have hjj : ((j + 1 : Nat) : Int) - 1 = (j : Int) := by omega
        rw [hjj]
        have hjn : (j : Int) < (m : Int) := by omega
        have hjn2 : j < m := by omega
        obtain ⟨g, off, x, hA, hx, hlt, x0, x1⟩ := rd_mk2 (HX3.out.tch HF.out.tch) j hjn2
        subst hA
        have hfx : Fit x.at_ := HFT.out x (List.mem_of_getElem? hx)
        have HD := Lib.hid (drop_one hx)
        have hne := World.new_ne
        go_wp2_with fail
        go_still_tail 11, (by kernel_rfl)
        go_wp2_with fail
        generalize hw4 : (wr.alloc (.cells #[.int .i64 x.kind, .int .i64 x.at_, .nilIface] 40)).drew = w4
        have T4 : Hid (Tch No wr w4) := by subst hw4; exact ((Tch.refl No wr).alloc _).drewN 1
        have B4 : Hid (Blk w4 wr.heap.size 40 #[.int .i64 x.kind, .int .i64 x.at_, .nilIface]) := by subst hw4; exact (Blk.new wr 40 _)
        clear hw4
        have RD : Hid (∀ w9, Tch No wr w9 → w9.cell? ⟨g, off + j * 2, none⟩ = some (.int .i64 x.kind) ∧ w9.cell? ⟨g, off + j * 2 + 1, none⟩ = some (.int .i64 x.at_)) := fun w9 t => ⟨t.cell (fun f => f) x0, t.cell (fun f => f) x1⟩
        obtain ⟨v0, v1⟩ := RD.out w4 T4.out
        have hdl := dec_len hfx
        have hel : (errL x.kind).length = 8 := rfl
        have eD := Lib.hid (AE.out · x.at_ hfx)
        have eE := Lib.hid (EE.out · x.kind)
        have HH : Hid (headL (mkO x) = (([97, 116, 32] ++ decL x.at_) ++ [58, 32]) ++ errL x.kind) := rfl
        generalize decL x.at_ = D at *
        generalize errL x.kind = E at *
        have n1 : ¬ (9223372036854775807 < 3 + D.length) := by omega
        have n2 : ¬ (9223372036854775807 < 3 + D.length + 2) := by omega
        have n3 : ¬ (9223372036854775807 < 3 + D.length + 2 + E.length) := by omega
        have HDL := Lib.hid (And.intro hdl hel)
        clear hdl hel hx hne
        go_region_held3 (fun w' => w'.cell? ⟨g, off + j * 2, none⟩ = some (.int .i64 x.kind) ∧ w'.cell? ⟨g, off + j * 2 + 1, none⟩ = some (.int .i64 x.at_)) (go_keep)
          (first
            | (go_at_call 18; go_must (refine (eE.out _).mono ?_); rintro e w6 ⟨rfl, t6⟩; have y01 := RD.out w6 (T4.out.and (T5.out.and t6)); obtain ⟨b0, b1⟩ := y01; have T6 := Lib.hid (T5.out.and t6); clear t6)
            | (go_at_call 17; go_must (refine (eD.out _).mono ?_); rintro e w5 ⟨rfl, t5⟩; replace t5 : Tch No w4 w5 := t5.undrewN; have y01 := RD.out w5 (T4.out.and t5); obtain ⟨c0, c1⟩ := y01; have T5 := Lib.hid t5; clear t5))
        all_goals
          have B6 := Lib.hid (T6.out.blk B4.out (fun f => f))
          have T6a := Lib.hid (T4.out.and T6.out)
          obtain ⟨p0, p1, p2⟩ := cells3 B6.out
          have pf := B6.out.frozen 2
          have HS : Hid ((⟨#[97, 116, 32]⟩ : ByteArray) ++ ⟨D.toArray⟩ ++ ⟨#[58, 32]⟩ ++ ⟨E.toArray⟩ = ⟨(headL (mkO x)).toArray⟩) := by rw [HH.out]; rw [← bapp, ← bapp, ← bapp]; exact rfl
          clear v0 v1 x0 x1
          have n5 : ¬ (9223372036854775807 < 3 + D.length + 2 + E.length + 2) := by have := HDL.out; omega
          by_cases hlast : j + 1 = m
          · obtain ⟨rfl, gf, rfl⟩ := HF.out.first hlast
            have hd0 : Hid ((l2.drop j).map mkO = [mkO x]) := by rw [HD.out, List.drop_of_length_le (by rw [HLM.out]; omega)]; rfl
            have hl1 : ¬ ((j : Int) < (m : Int) - 1) := by omega
            by_cases hi0 : inner = 0
            · have hib : (inner != 0) = false := by simp [hi0]
              have HI := Lib.hid hi0
              clear hi0
              go_wp2
              refine ⟨⟨j, rfl, by omega, HF.out.tch.and T6a.out, fun h => absurd h (by omega), fun _ => ⟨mkO x, [], wr.heap.size, hd0.out, rfl, ⟨wr.heap.size, .nilIface, rfl, B6.out, .inl ⟨HI.out, rfl⟩⟩, ?_⟩⟩, by simp [intOfV]⟩
              rw [HS.out, HI.out]
              show _ = Value.string ⟨(headL (mkO x) ++ []).toArray⟩
              rw [List.append_nil]
            · have hib : (inner != 0) = true := by simp [hi0]
              have HI := Lib.hid hi0
              clear hi0
              have hel2 : (errL inner).length = 8 := rfl
              have eI := Lib.hid (EE.out · inner)
              have HT : Hid (tailL [] inner = [59, 32] ++ errL inner) := if_neg HI.out
              generalize errL inner = I at *
              have n6 : ¬ (9223372036854775807 < 3 + D.length + 2 + E.length + 2 + I.length) := by have := HDL.out; omega
              go_wp2_with (go_at_call 18; refine (eI.out _).mono ?_; rintro e w7 ⟨rfl, t7⟩; have T7 := Lib.hid t7; clear t7)
              refine ⟨⟨j, rfl, by omega, HF.out.tch.and (fw_store T6a.out T7.out), fun h => absurd h (by omega), fun _ => ⟨mkO x, [], wr.heap.size, hd0.out, rfl, ⟨wr.heap.size, .iface 23 (.int .i64 inner), rfl, T7.out.blk (B6.out.set_ 2 _) (fun f => f), .inr ⟨HI.out, rfl⟩⟩, ?_⟩⟩, by simp [intOfV]⟩
              rw [HS.out, HT.out]
              exact fw_text _ _
          · obtain ⟨y, r, gf, hd, rfl, hc, rfl⟩ := HF.out.more (by omega)
            have hl1 : (j : Int) < (m : Int) - 1 := by omega
            have hd0 : Hid ((l2.drop j).map mkO = mkO x :: y :: r) := by rw [HD.out, hd]; exact rfl
            have hW : (headL y ++ tailL r inner).length ≤ 100000 := fw_len hd HLM.out (by omega) HFT.out
            have HT : Hid (tailL (y :: r) inner = [59, 32] ++ (headL y ++ tailL r inner)) := rfl
            have HC := Lib.hid hc
            clear hd hc
            generalize headL y ++ tailL r inner = W at *
            have n6 : ¬ (9223372036854775807 < 3 + D.length + 2 + E.length + 2 + W.length) := by have := HDL.out; omega
            go_wp2
            refine ⟨⟨j, rfl, by omega, HF.out.tch.and (fw_store T6a.out (Tch.refl _ _)), fun h => absurd h (by omega), fun _ => ⟨mkO x, y :: r, wr.heap.size, hd0.out, rfl, ⟨wr.heap.size, .iface 38 (.pointer (some ⟨gf, 0, none⟩)), rfl, B6.out.set_ 2 _, (HC.out.tch (fw_store T6a.out (Tch.refl _ _)))⟩, ?_⟩⟩, by simp [intOfV]⟩
            rw [HS.out, HT.out]
            exact fw_text _ _
end Go.Proofs.YtmoiehbhhplckaaDoor
