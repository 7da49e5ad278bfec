/- Right. Conditions: what is asked. -/
import Derived.Test.YtmoiehbhhplckaaProg
import Derived.Test.YtmoiehbhhplckaaV5
import Derived.Tactics
import Derived.Tactics2
import Derived.WalkKit
import Derived.WalkSpells
import Derived.WalkLawsBesides
import Derived.StillTactics
import Derived.StillTailTactics
import Derived.OwnWalk
import Derived.Laws.Pointers
import Derived.Laws.ResultCell
import Derived.Deep.RegionHeld3
import Derived.Deep.RegionWith
import Derived.Deep.RegionLaw
import Derived.Deep.AppendLies
import Derived.Deep.QuietTactic
import Derived.BigQuiet
import Derived.LoopTactic
import Derived.Deep.LoopGhost
import Derived.Deep.DeepCutAuto
import Derived.Deep.DeepFit
import Derived.Maps.AppendAt
import Derived.Below
import Derived.Lib.Hide
import Derived.Handy
import Derived.KernelRfl
import Derived.IntWalk
import Derived.Laws.AppendOwnNone
import Derived.Laws.IdiomStrings
namespace Go.Proofs.Ytmoiehbhhplckaa
set_option linter.unusedVariables false
set_option linter.unusedSimpArgs false
open Go.RowKit

structure Rv where
  name : ByteArray
  pre : Ev
  on : Ev
  A3 : Option Addr
  n3 : Nat
  c3 : Nat
  A4 : Option Addr
  n4 : Nat
  c4 : Nat
  A5 : Option Addr
  n5 : Nat
  c5 : Nat
  A6 : Option Addr
  n6 : Nat
  c6 : Nat
def rcells (r : Rv) : Array Value := #[.string r.name, .int .i64 r.pre.kind, .string r.pre.name, .int .i64 r.pre.n, .int .i64 r.pre.lo, .int .i64 r.pre.hi, .slice r.pre.A r.pre.m r.pre.c,
  .int .i64 r.on.kind, .string r.on.name, .int .i64 r.on.n, .int .i64 r.on.lo, .int .i64 r.on.hi, .slice r.on.A r.on.m r.on.c, .slice r.A3 r.n3 r.c3, .slice r.A4 r.n4 r.c4, .slice r.A5 r.n5 r.c5, .slice r.A6 r.n6 r.c6]
def ragg (r : Rv) : Value := .agg (rcells r)
/-- the cells of a right that lies in a block -/
structure RC (w : World) (g : Nat) (r : Rv) : Prop where
  c0 : w.cell? ⟨g, 0, none⟩ = some (.string r.name)
  p0 : w.cell? ⟨g, 1, none⟩ = some (.int .i64 r.pre.kind)
  p1 : w.cell? ⟨g, 2, none⟩ = some (.string r.pre.name)
  p2 : w.cell? ⟨g, 3, none⟩ = some (.int .i64 r.pre.n)
  p3 : w.cell? ⟨g, 4, none⟩ = some (.int .i64 r.pre.lo)
  p4 : w.cell? ⟨g, 5, none⟩ = some (.int .i64 r.pre.hi)
  p5 : w.cell? ⟨g, 6, none⟩ = some (.slice r.pre.A r.pre.m r.pre.c)
  o0 : w.cell? ⟨g, 7, none⟩ = some (.int .i64 r.on.kind)
  o1 : w.cell? ⟨g, 8, none⟩ = some (.string r.on.name)
  o2 : w.cell? ⟨g, 9, none⟩ = some (.int .i64 r.on.n)
  o3 : w.cell? ⟨g, 10, none⟩ = some (.int .i64 r.on.lo)
  o4 : w.cell? ⟨g, 11, none⟩ = some (.int .i64 r.on.hi)
  o5 : w.cell? ⟨g, 12, none⟩ = some (.slice r.on.A r.on.m r.on.c)
  d3 : w.cell? ⟨g, 13, none⟩ = some (.slice r.A3 r.n3 r.c3)
  d4 : w.cell? ⟨g, 14, none⟩ = some (.slice r.A4 r.n4 r.c4)
  d5 : w.cell? ⟨g, 15, none⟩ = some (.slice r.A5 r.n5 r.c5)
  d6 : w.cell? ⟨g, 16, none⟩ = some (.slice r.A6 r.n6 r.c6)
theorem rc_of {w : World} {g : Nat} {r : Rv} (h : Blk w g 55 (rcells r)) : RC w g r :=
  ⟨h.cell 0, h.cell 1, h.cell 2, h.cell 3, h.cell 4, h.cell 5, h.cell 6, h.cell 7, h.cell 8, h.cell 9, h.cell 10, h.cell 11, h.cell 12, h.cell 13, h.cell 14, h.cell 15, h.cell 16⟩
/-- what a walk of Right keeps -/
structure RK (w0 : World) (bx g : Nat) (r : Rv) (L : List (List UInt8)) (v : Value) (w : World) : Prop where
  out : Out w g w0.heap.size v L
  box : Blk w bx 55 (rcells r)
  tch : Tch No w0 w
  hg : w0.heap.size ≤ g
theorem RK.step {w0 w w' : World} {bx g : Nat} {r : Rv} {L L' : List (List UInt8)} {v v' : Value} (h : RK w0 bx g r L v w) (k : OutP g w0.heap.size v L' w w' v') : RK w0 bx g r L' v' w' := by
  refine ⟨k.out, k.tch.blk h.box ?_, h.tch.trans k.tch ?_, h.hg⟩
  · rintro (rfl | he)
    · exact h.out.blk.ne_ h.box (by decide) rfl
    · exact own_blk_ne h.out.own h.box (by decide) he
  · rintro i (rfl | he)
    · exact .inr h.hg
    · exact .inr (own_base h.out.own i he)
theorem AskP.mono {e : Ev} {word : List UInt8} {w w1 : World} {T : List (List UInt8)} (h : AskP e word w T) (t : Tch No w w1) : AskP e word w1 T := by
  rcases h with h | ⟨h1, X, h2, h3, h4⟩
  · exact .inl h
  · exact .inr ⟨h1, X, h2, h3, fun w' t' => h4 w' (t.and t')⟩
theorem RK.ask {w0 w : World} {bx g : Nat} {r : Rv} {L T : List (List UInt8)} {v : Value} {e : Ev} (h : Hid (RK w0 bx g r L v w)) (word : List UInt8) (hA : AskP e word w0 T) (hw : word.length ≤ 100) (hL : L.length ≤ 1000) :
    Calls Try.prog 63 #[.string ⟨word.toArray⟩, eagg e, .pointer (some ⟨g, 0, none⟩)] w fun e' w' => e' = .returned (.tuple #[]) ∧ ∃ v', Hid (RK w0 bx g r (L ++ T) v' w') :=
  (ask_c word e T g w0.heap.size v L w h.out.out h.out.tch.size hw hL (hA.mono h.out.tch)).mono fun e' w' ⟨he, v', hk⟩ => ⟨he, v', h.out.step hk⟩
theorem RK.cnt {w0 w : World} {bx g : Nat} {r : Rv} {L : List (List UInt8)} {v : Value} (h : Hid (RK w0 bx g r L v w)) (word : List UInt8) (n : Int) (hn : Fit n) (hw : word.length ≤ 100) (hL : L.length ≤ 1000) :
    Calls Try.prog 65 #[.string ⟨word.toArray⟩, .int .i64 n, .pointer (some ⟨g, 0, none⟩)] w fun e' w' => e' = .returned (.tuple #[]) ∧ ∃ v', Hid (RK w0 bx g r (L ++ cntL word n) v' w') :=
  (cnt_c word n g w0.heap.size v L w h.out.out h.out.tch.size hn hw hL).mono fun e' w' ⟨he, v', hk⟩ => ⟨he, v', h.out.step hk⟩
def wPre : List UInt8 := [112, 114, 101]
def wOn : List UInt8 := [111, 110]
def wBefore : List UInt8 := [98, 101, 102, 111, 114, 101]
def wDuring : List UInt8 := [100, 117, 114, 105, 110, 103]
def wAfter : List UInt8 := [97, 102, 116, 101, 114]
def wDuties : List UInt8 := [100, 117, 116, 105, 101, 115]
def rightL (r : Rv) (T1 T2 : List (List UInt8)) : List (List UInt8) :=
  ((((([r.name.data.toList] ++ T1) ++ T2) ++ cntL wBefore r.n3) ++ cntL wDuring r.n4) ++ cntL wAfter r.n5) ++ cntL wDuties r.n6
theorem ask_len {e : Ev} {word : List UInt8} {w : World} {T : List (List UInt8)} (h : AskP e word w T) : T.length ≤ 1 := by
  rcases h with ⟨_, rfl⟩ | ⟨_, X, rfl, _⟩ <;> simp
theorem cnt_len (word : List UInt8) (n : Int) : (cntL word n).length ≤ 1 := by unfold cntL; split <;> simp
def RFit (r : Rv) : Prop := r.n3 ≤ 9223372036854775807 ∧ r.n4 ≤ 9223372036854775807 ∧ r.n5 ≤ 9223372036854775807 ∧ r.n6 ≤ 9223372036854775807
theorem nat_fit {n : Nat} (h : n ≤ 9223372036854775807) : Fit (n : Int) := by unfold Fit; omega
def RightP (L : List (List UInt8)) (w : World) (e : Ending) (w' : World) : Prop := ∃ v, e = .returned v ∧ w'.ownsRow w.heap.size 9 1 v L.length (strs L) ∧ Tch No w w'
set_option maxHeartbeats 8000000 in
set_option maxRecDepth 100000 in
theorem right_c (r : Rv) (T1 T2 : List (List UInt8)) (w : World) (hf : RFit r) (h1 : AskP r.pre wPre w T1) (h2 : AskP r.on wOn w T2) :
    Calls Try.prog 39 #[ragg r] w (RightP (rightL r T1 T2) w) := by
  have l1 := ask_len h1
  have l2 := ask_len h2
  have H1 := Lib.hid h1
  have H2 := Lib.hid h2
  have HF := Lib.hid hf
  have HR : Hid (rightL r T1 T2 = ((((([r.name.data.toList] ++ T1) ++ T2) ++ cntL wBefore r.n3) ++ cntL wDuring r.n4) ++ cntL wAfter r.n5) ++ cntL wDuties r.n6) := rfl
  clear h1 h2 hf
  unfold ragg
  generalize hwb : w.alloc (.cells (rcells r) 55) = wb
  have TB : Hid (Tch No w wb) := by subst hwb; exact (Tch.refl No w).alloc _
  have BX : Hid (Blk wb w.heap.size 55 (rcells r)) := by subst hwb; exact Blk.new w 55 _
  have hsb : wb.heap.size = w.heap.size + 1 := by subst hwb; simp
  have rc := rc_of BX.out
  obtain ⟨q0, q1, q2, q3, q4, q5, q6, q7, q8, q9, q10, q11, q12, q13, q14, q15, q16⟩ := rc
  unfold rcells at hwb ⊢
  go_enter Try.func39, Try.ntmps39
  go_wp2_with fail
  have K0 : Hid (RK w w.heap.size (w.heap.size + 1 + 1) r [r.name.data.toList] (.slice (some ⟨w.heap.size + 1, 0, none⟩) 1 1) ((wb.alloc (.cells #[.string r.name] 9)).alloc (.cells #[.slice (some ⟨w.heap.size + 1, 0, none⟩) 1 1] 57))) := by
    refine ⟨⟨?_, ?_⟩, (BX.out.alloc _).alloc _, (TB.out.alloc _).alloc _, by omega⟩
    · have := Blk.new (wb.alloc (.cells #[.string r.name] 9)) 57 #[.slice (some ⟨w.heap.size + 1, 0, none⟩) 1 1]
      simpa [hsb] using this
    · have h1 := own_str1 wb w.heap.size (by omega) r.name.data.toList
      rw [hsb] at h1
      exact h1.alloc _
  have HW : Hid (wPre = [112, 114, 101] ∧ wOn = [111, 110]) := ⟨rfl, rfl⟩
  have f1 := HF.out.1
  have f2 := HF.out.2.1
  have f3 := HF.out.2.2.1
  have f4 := HF.out.2.2.2
  have e3 := cnt_len wBefore (r.n3 : Int)
  have e4 := cnt_len wDuring (r.n4 : Int)
  have e5 := cnt_len wAfter (r.n5 : Int)
  have e6 := cnt_len wDuties (r.n6 : Int)
  have E1 := Lib.hid (nat_fit f1)
  have E2 := Lib.hid (nat_fit f2)
  have E3 := Lib.hid (nat_fit f3)
  have E4 := Lib.hid (nat_fit f4)
  have LL : Hid (T1.length ≤ 1 ∧ T2.length ≤ 1 ∧ (cntL wBefore r.n3).length ≤ 1 ∧ (cntL wDuring r.n4).length ≤ 1 ∧ (cntL wAfter r.n5).length ≤ 1) := ⟨l1, l2, e3, e4, e5⟩
  clear l1 l2 e3 e4 e5 e6 hwb TB BX
  refine (RK.ask (e := r.pre) K0 wPre H1.out (by decide) (by simp)).mono ?_
  rintro e w1 ⟨rfl, v1, K1⟩
  clear q0 q1 q2 q3 q4 q5 q6 q7 q8 q9 q10 q11 q12 q13 q14 q15 q16
  obtain ⟨q0, q1, q2, q3, q4, q5, q6, q7, q8, q9, q10, q11, q12, q13, q14, q15, q16⟩ := rc_of K1.out.box
  go_wp2_with fail
  refine (RK.ask (e := r.on) K1 wOn H2.out (by decide) (by have := LL.out; simp; omega)).mono ?_
  rintro e w2 ⟨rfl, v2, K2⟩
  clear q0 q1 q2 q3 q4 q5 q6 q7 q8 q9 q10 q11 q12 q13 q14 q15 q16
  obtain ⟨q0, q1, q2, q3, q4, q5, q6, q7, q8, q9, q10, q11, q12, q13, q14, q15, q16⟩ := rc_of K2.out.box
  go_wp2_with fail
  refine (RK.cnt K2 wBefore r.n3 E1.out (by decide) (by have := LL.out; simp; omega)).mono ?_
  rintro e w3 ⟨rfl, v3, K3⟩
  clear q0 q1 q2 q3 q4 q5 q6 q7 q8 q9 q10 q11 q12 q13 q14 q15 q16
  obtain ⟨q0, q1, q2, q3, q4, q5, q6, q7, q8, q9, q10, q11, q12, q13, q14, q15, q16⟩ := rc_of K3.out.box
  go_wp2_with fail
  refine (RK.cnt K3 wDuring r.n4 E2.out (by decide) (by have := LL.out; simp; omega)).mono ?_
  rintro e w4 ⟨rfl, v4, K4⟩
  clear q0 q1 q2 q3 q4 q5 q6 q7 q8 q9 q10 q11 q12 q13 q14 q15 q16
  obtain ⟨q0, q1, q2, q3, q4, q5, q6, q7, q8, q9, q10, q11, q12, q13, q14, q15, q16⟩ := rc_of K4.out.box
  go_wp2_with fail
  refine (RK.cnt K4 wAfter r.n5 E3.out (by decide) (by have := LL.out; simp; omega)).mono ?_
  rintro e w5 ⟨rfl, v5, K5⟩
  clear q0 q1 q2 q3 q4 q5 q6 q7 q8 q9 q10 q11 q12 q13 q14 q15 q16
  obtain ⟨q0, q1, q2, q3, q4, q5, q6, q7, q8, q9, q10, q11, q12, q13, q14, q15, q16⟩ := rc_of K5.out.box
  go_wp2_with fail
  refine (RK.cnt K5 wDuties r.n6 E4.out (by decide) (by have := LL.out; simp; omega)).mono ?_
  rintro e w6 ⟨rfl, v6, K6⟩
  clear q0 q1 q2 q3 q4 q5 q6 q7 q8 q9 q10 q11 q12 q13 q14 q15 q16
  obtain ⟨q0, q1, q2, q3, q4, q5, q6, q7, q8, q9, q10, q11, q12, q13, q14, q15, q16⟩ := rc_of K6.out.box
  have ov := cell1 K6.out.out.blk
  go_wp2
  go_returns
  refine ⟨v6, rfl, ?_, K6.out.tch⟩
  rw [HR.out]
  exact K6.out.out.own
end Go.Proofs.Ytmoiehbhhplckaa
