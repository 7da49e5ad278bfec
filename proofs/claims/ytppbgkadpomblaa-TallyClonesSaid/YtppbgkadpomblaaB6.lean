/- Contracts. -/
import Derived.Test.YtppbgkadpomblaaProg
import Derived.Test.YtppbgkadpomblaaB4
import Derived.Tactics
import Derived.Tactics2
import Derived.WalkKit
import Derived.WalkSpells
import Derived.WalkLawsBesides
import Derived.StillTactics
import Derived.StillTailTactics
import Derived.OwnWalk
import Derived.Laws.Pointers
import Derived.Laws.ResultCell
import Derived.Deep.RegionHeld3
import Derived.Deep.RegionWith
import Derived.Deep.RegionLaw
import Derived.Deep.AppendLies
import Derived.Deep.QuietTactic
import Derived.BigQuiet
import Derived.LoopTactic
import Derived.Deep.LoopGhost
import Derived.Deep.DeepCutAuto
import Derived.Deep.DeepFit
import Derived.Maps.AppendAt
import Derived.Below
import Derived.Lib.Hide
import Derived.Handy
import Derived.KernelRfl
import Derived.IntWalk
import Derived.Laws.AppendOwnNone
import Derived.Laws.IdiomStrings
namespace Go.Proofs.Ytppbgkadpomblaa
set_option linter.unusedVariables false
set_option linter.unusedSimpArgs false
open Go.RowKit

/-! ## many tallies beside each other -/
def Apart (g : Nat) (v : Value) (g' : Nat) (v' : Value) : Prop := ∀ k, Foot g v k → ¬ Foot g' v' k
theorem Apart.symm {g g' : Nat} {v v' : Value} (h : Apart g v g' v') : Apart g' v' g v := fun k h1 h2 => h k h2 h1
theorem tl_foot {w w0 : World} {g b : Nat} {v : Value} {s : Ty} (h : Tl w g b v s) : ∀ k, Foot g v k → k < w.heap.size := by
  rintro k (f | f)
  · rw [f]; exact h.lt
  · exact own_lt h.own k f
/-- A call on one tally leaves another one as it was. -/
theorem other_tl {w w' : World} {g g' b' : Nat} {v v1 v' : Value} {s' : Ty} (ha : Apart g v g' v') (h' : Tl w g' b' v' s') (t : Tch (Foot g v) w w') (hv : ∀ k, v1.ownBlock = some k → v.ownBlock = some k ∨ w.heap.size ≤ k) : Tl w' g' b' v' s' ∧ Apart g v1 g' v' := by
  refine ⟨h'.tchS t (fun f => ha g' f (.inl rfl)) (fun i hi f => ha i f (.inr hi)), ?_⟩
  rintro k (f | f) f'
  · exact ha k (.inl f) f'
  · rcases hv k f with h | h
    · exact ha k (.inr h) f'
    · have := tl_foot (w0 := w) h' k f'; omega
theorem foot_ge {w : World} {g b m : Nat} {v : Value} {s : Ty} (h : Tl w g b v s) (hg : m ≤ g) (hb : m ≤ b) : ∀ k, Foot g v k → m ≤ k := by
  rintro k (f | f)
  · omega
  · have := own_base h.own k f; omega
/-- Three tallies, all above w0. -/
structure Tri (w0 w : World) (g1 : Nat) (v1 : Value) (s1 : Ty) (g2 : Nat) (v2 : Value) (s2 : Ty) (g3 : Nat) (v3 : Value) (s3 : Ty) : Prop where
  t1 : Tl w g1 w0.heap.size v1 s1
  t2 : Tl w g2 w0.heap.size v2 s2
  t3 : Tl w g3 w0.heap.size v3 s3
  a12 : Apart g1 v1 g2 v2
  a13 : Apart g1 v1 g3 v3
  a23 : Apart g2 v2 g3 v3
  p1 : w0.heap.size ≤ g1
  p2 : w0.heap.size ≤ g2
  p3 : w0.heap.size ≤ g3
  tch : Tch No w0 w
section
variable {w0 w w' : World} {g1 g2 g3 : Nat} {v1 v2 v3 v' : Value} {s1 s2 s3 s' : Ty}
theorem Tri.no (h : Tri w0 w g1 v1 s1 g2 v2 s2 g3 v3 s3) (t : Tch No w w') : Tri w0 w' g1 v1 s1 g2 v2 s2 g3 v3 s3 := ⟨h.t1.tch t, h.t2.tch t, h.t3.tch t, h.a12, h.a13, h.a23, h.p1, h.p2, h.p3, h.tch.and t⟩
theorem Tri.rot (h : Tri w0 w g1 v1 s1 g2 v2 s2 g3 v3 s3) : Tri w0 w g2 v2 s2 g3 v3 s3 g1 v1 s1 := ⟨h.t2, h.t3, h.t1, h.a23, h.a12.symm, h.a13.symm, h.p2, h.p3, h.p1, h.tch⟩
theorem Tri.one (h : Tri w0 w g1 v1 s1 g2 v2 s2 g3 v3 s3) (k1 : Tl w' g1 w0.heap.size v' s') (t : Tch (Foot g1 v1) w w') (hv : ∀ k, v'.ownBlock = some k → v1.ownBlock = some k ∨ w.heap.size ≤ k) : Tri w0 w' g1 v' s' g2 v2 s2 g3 v3 s3 := by
  obtain ⟨b1, b2⟩ := other_tl h.a12 h.t2 t hv
  obtain ⟨c1, c2⟩ := other_tl h.a13 h.t3 t hv
  exact ⟨k1, b1, c1, b2, c2, h.a23, h.p1, h.p2, h.p3, h.tch.trans t (fun i hi => .inr (foot_ge h.t1 h.p1 (Nat.le_refl _) i hi))⟩
theorem tri_c (h : Tri w0 w g1 v1 s1 g2 v2 s2 g3 v3 s3) (t : Int) (is : Bool) (hs : s1.Ok) (ht : t ≤ 9223372036854775807) (hn : s1.l.length ≤ 700000) :
    Calls Try.prog 27 #[.pointer (some ⟨g1, 0, none⟩), .int .i64 t, .bool is] w fun e w' => e = .returned (.int .i64 (sumL (stepT s1 t is).l)) ∧ ∃ v', Tri w0 w' g1 v' (stepT s1 t is) g2 v2 s2 g3 v3 s3 :=
  (tstep_c g1 w0.heap.size v1 s1 t is w h.t1 h.tch.size hs ht hn).mono fun e w' ⟨v', he, k1, k2, k3⟩ => ⟨he, v', h.one k1 k2 k3⟩
end
theorem tri_new (w0 w : World) (s1 s2 s3 : Ty) (h : Tch No w0 w) (e1 : s1.l = []) (e2 : s2.l = []) (e3 : s3.l = []) :
    Tri w0 (((w.alloc (.cells (tcs s1 (.slice none 0 0)) 54)).alloc (.cells (tcs s2 (.slice none 0 0)) 54)).alloc (.cells (tcs s3 (.slice none 0 0)) 54)) w.heap.size (.slice none 0 0) s1 (w.heap.size + 1) (.slice none 0 0) s2 (w.heap.size + 1 + 1) (.slice none 0 0) s3 := by
  have n1 := tnew_tl w s1 w0.heap.size e1
  have n2 := tnew_tl (w.alloc (.cells (tcs s1 (.slice none 0 0)) 54)) s2 w0.heap.size e2
  have n3 := tnew_tl ((w.alloc (.cells (tcs s1 (.slice none 0 0)) 54)).alloc (.cells (tcs s2 (.slice none 0 0)) 54)) s3 w0.heap.size e3
  rw [World.size_alloc] at n2
  rw [World.size_alloc, World.size_alloc] at n3
  have hs := h.size
  have ap : ∀ g g', g ≠ g' → Apart g (.slice none 0 0) g' (.slice none 0 0) := by
    rintro g g' hne k (f | f) (f' | f')
    · omega
    · simp [Value.ownBlock] at f'
    · simp [Value.ownBlock] at f
    · simp [Value.ownBlock] at f
  refine ⟨(n1.tch ((Tch.refl No _).alloc _)).tch ((Tch.refl No _).alloc _), n2.tch ((Tch.refl No _).alloc _), n3, ap _ _ (by omega), ap _ _ (by omega), ap _ _ (by omega), hs, by omega, by omega, ((h.alloc _).alloc _).alloc _⟩
/-- A clone of the first stands for the third. -/
theorem tri_clone {w0 w w' : World} {g1 g2 g3 gc : Nat} {v1 v2 v3 vc : Value} {s1 s2 s3 : Ty} (h : Tri w0 w g1 v1 s1 g2 v2 s2 g3 v3 s3) (hg : w.heap.size ≤ gc) (hc : Tl w' gc w.heap.size vc s1) (t : Tch No w w') : Tri w0 w' g1 v1 s1 g2 v2 s2 gc vc s1 := by
  have hs := h.tch.size
  have ge := foot_ge hc hg (Nat.le_refl _)
  refine ⟨h.t1.tch t, h.t2.tch t, ⟨hc.blk, hc.cell, hc.ne, own_mono hc.own hs⟩, h.a12, fun k f f' => ?_, fun k f f' => ?_, h.p1, h.p2, by omega, h.tch.and t⟩
  · have := tl_foot (w0 := w) h.t1 k f; have := ge k f'; omega
  · have := tl_foot (w0 := w) h.t2 k f; have := ge k f'; omega

def flipT (x : TSt) : TSt := ⟨x.at_, !x.is_⟩
theorem run_bd (hi : Int) (l : List TSt) (h0 : 0 ≤ hi) (hl : l.length ≤ 1000) : (runT hi l).l.length ≤ 1000 := by
  rw [runT_is _ _ h0]
  have a1 := (ginfo (seenT hi l) ((minfo _).nd.filter _)).len
  have a2 := seen_len hi l
  simp only
  omega
theorem run_more (hi hj : Int) (l : List TSt) (h0 : 0 ≤ hi) (h1 : hi ≤ hj) (hl : l.length ≤ 1000) : sumL (runT hi l).l ≤ sumL (runT hj l).l := by
  rw [run_sum hi l h0 (by omega), run_sum hj l (by omega) (by omega)]
  unfold seenT
  have : ((mkT l).2.filter (fun t => decide ((mkT l).1 - hi ≤ t))).length ≤ ((mkT l).2.filter (fun t => decide ((mkT l).1 - hj ≤ t))).length := by
    rw [← List.countP_eq_length_filter, ← List.countP_eq_length_filter]
    exact List.countP_mono_left (fun t _ h => by simp at h ⊢; omega)
  omega
theorem take_snoc_app {α : Type} {l r : List α} {i : Nat} {x : α} (h : r[i]? = some x) : l ++ r.take (i + 1) = (l ++ r.take i) ++ [x] := by rw [take_succ_of h, List.append_assoc]

set_option maxHeartbeats 6400000 in
set_option maxRecDepth 100000 in
theorem tclones_x (hi more : Int) (A : Option Addr) (n c : Nat) (A' : Option Addr) (n' c' : Nat) (w : World) (b0 : -9223372036854775808 ≤ hi) (b1 : hi ≤ 9223372036854775807) (b2 : -9223372036854775808 ≤ more) (b3 : more ≤ 9223372036854775807) (h : n ≤ c) (hm : c ≤ 9223372036854775807) (xs : List TSt) (hr : Rd w No 2 A n (xs.flatMap tcells) ∧ ∀ x ∈ xs, Fit x.at_)
    (h' : n' ≤ c') (hm' : c' ≤ 9223372036854775807) (xs' : List TSt) (hr' : Rd w No 2 A' n' (xs'.flatMap tcells) ∧ ∀ x ∈ xs', Fit x.at_) (hi' hj : Int) (hhi : hi' = max hi 0) (m : Int) (hmw : hi < more) (hm0 : more = m) (hhj : hj = max m 0) :
    Calls Try.prog 9 #[.int .i64 hi, .int .i64 more, .slice A n c, .slice A' n' c'] w fun e w' => e = .returned (.bool true) ∧ Below w.heap.size w w' := by
  subst hm0
  have HR := Lib.hid hr.1
  have HX : Hid (∀ x ∈ xs.take (few60 n), Fit x.at_) := fun x hx => hr.2 x (List.mem_of_mem_take hx)
  have HF := Lib.hid (few17_rd hr.1)
  have HR' := Lib.hid hr'.1
  have HX' : Hid (∀ x ∈ xs'.take (few60 n'), Fit x.at_) := fun x hx => hr'.2 x (List.mem_of_mem_take hx)
  have HF' := Lib.hid (few17_rd hr'.1)
  have hf := (few60_le n).1
  have hf' := (few60_le n').1
  have q0 : 0 ≤ hi' := by omega
  have q1 : hi' ≤ 9223372036854775807 := by omega
  have q2 : hi' ≤ hj := by omega
  have q3 : hj ≤ 9223372036854775807 := by omega
  have HHI := Lib.hid (And.intro hhi hhj)
  have hly : (xs.take (few60 n)).length ≤ 60 := by simp; omega
  have hly' : (xs'.take (few60 n')).length ≤ 60 := by simp; omega
  have HLE := Lib.hid (And.intro hly hly')
  clear hr hr' hhi hhj hly hly'
  generalize xs.take (few60 n) = ya at *
  generalize xs'.take (few60 n') = yb at *
  go_enter Try.func9, Try.ntmps9
  go_wp2_with fail
  refine (talive_c _).mono ?_
  rintro e w1 ⟨rfl, t1⟩
  have T1 := Lib.hid t1
  clear t1
  go_wp2_with fail
  refine (few17_c No A n c xs _ h hm (HR.out.tch T1.out)).mono ?_
  rintro e w2 ⟨rfl, rfl⟩
  go_wp2_with fail
  refine (few17_c No A' n' c' xs' _ h' hm' (HR'.out.tch T1.out)).mono ?_
  rintro e w2 ⟨rfl, rfl⟩
  go_wp2_with fail
  refine (tnew_c hi hi' _ HHI.out.1).mono ?_
  rintro e w2 ⟨rfl, rfl⟩
  go_wp2_with fail
  refine (tnew_c hi hi' _ HHI.out.1).mono ?_
  rintro e w2 ⟨rfl, rfl⟩
  go_wp2_with fail
  refine (tnew_c more hj _ HHI.out.2).mono ?_
  rintro e w2 ⟨rfl, rfl⟩
  have A0 := Lib.hid (tri_new w w1 ⟨hi', 0, []⟩ ⟨hi', 0, []⟩ ⟨hj, 0, []⟩ T1.out rfl rfl rfl)
  go_wp2_with fail
  generalize hW0 : ((w1.alloc (.cells (tcs ⟨hi', 0, []⟩ (.slice none 0 0)) 54)).alloc (.cells (tcs ⟨hi', 0, []⟩ (.slice none 0 0)) 54)).alloc (.cells (tcs ⟨hj, 0, []⟩ (.slice none 0 0)) 54) = wz at *
  generalize w1.heap.size + 1 + 1 = g3 at *
  generalize w1.heap.size + 1 = g2 at *
  generalize w1.heap.size = g1 at *
  clear hW0
  go_loopw [12] (fun iv wr => ∃ i : Nat, i ≤ few60 n ∧ iv = .int .i64 i ∧ ∃ v1 v2 v3, Tri w wr g1 v1 (runT hi' (ya.take i)) g2 v2 (runT hi' (ya.take i)) g3 v3 (runT hj (ya.take i))) (fun iv _ => few60 n - (intOf iv).toNat)
  case atStart => exact ⟨0, by omega, rfl, _, _, _, A0.out⟩
  case round =>
    obtain ⟨i, hil, rfl, v1, v2, v3, ha⟩ := hrel
    clear A0
    by_cases hlt : i < few60 n
    · obtain ⟨q, off, x, hA, hxi, d0, d1⟩ := rd_ts (HF.out.tch ha.tch) i hlt
      subst hA
      have hx9 := (HX.out x (List.mem_of_getElem? hxi)).2
      have hst : ∀ z, runT z (ya.take (i + 1)) = stepT (runT z (ya.take i)) x.at_ x.is_ := fun z => by rw [take_succ_of hxi, runT_snoc]
      have hmo := run_more hi' hj (ya.take (i + 1)) q0 q2 (by have := HLE.out.1; simp; omega)
      rw [hst, hst] at hmo
      have ho1 := run_okT hi' (ya.take i) q0 q1 (by have := HLE.out.1; simp; omega) (fun y hy => (HX.out y (List.mem_of_mem_take hy)).2)
      have ho2 := run_okT hj (ya.take i) (by omega) q3 (by have := HLE.out.1; simp; omega) (fun y hy => (HX.out y (List.mem_of_mem_take hy)).2)
      have hb1 := run_bd hi' (ya.take i) q0 (by have := HLE.out.1; simp; omega)
      have hb2 := run_bd hj (ya.take i) (by omega) (by have := HLE.out.1; simp; omega)
      have HST := Lib.hid hst
      have HOK := Lib.hid (And.intro ho1 ho2)
      have HA := Lib.hid ha
      have RD : Hid (∀ w9, Tch No w w9 → w9.cell? ⟨q, off + i * 2, none⟩ = some (.int .i64 x.at_) ∧ w9.cell? ⟨q, off + i * 2 + 1, none⟩ = some (.bool x.is_)) := rd_ts2 HF.out i hlt hxi
      clear ha hst ho1 ho2 hxi
      have hi1 : (i : Int) < (few60 n : Int) := by omega
      generalize hS : runT hi' (ya.take i) = s at *
      generalize hU : runT hj (ya.take i) = u at *
      have HSS := Lib.hid (And.intro hS hU)
      clear hS hU
      have hmo2 : ¬ (sumL (stepT u x.at_ x.is_).l < sumL (stepT s x.at_ x.is_).l) := by omega
      go_wp2_with fail
      go_region_held3 (fun w' => w'.cell? ⟨q, off + i * 2, none⟩ = some (.int .i64 x.at_) ∧ w'.cell? ⟨q, off + i * 2 + 1, none⟩ = some (.bool x.is_)) (go_keep)
        (first
          | (go_at_call_of 27 (Value.pointer (some ⟨g1, 0, none⟩)); refine (tri_c (HA.out.no ((Tch.refl No wr).drewN 1)) x.at_ x.is_ HOK.out.1 hx9 (by omega)).mono ?_; rintro e w4 ⟨rfl, v4, a4⟩; have A4 := Lib.hid a4; have y01 := RD.out w4 a4.tch; obtain ⟨y0, y1⟩ := y01; clear a4)
          | (go_at_call_of 27 (Value.pointer (some ⟨g2, 0, none⟩)); refine (tri_c A4.out.rot x.at_ x.is_ HOK.out.1 hx9 (by omega)).mono ?_; rintro e w5 ⟨rfl, v5, a5⟩; have A5 := Lib.hid a5; have y01 := RD.out w5 a5.tch; obtain ⟨z0, z1⟩ := y01; clear a5)
          | (go_at_call_of 27 (Value.pointer (some ⟨g3, 0, none⟩)); go_must (refine (tri_c A5.out.rot x.at_ x.is_ HOK.out.2 hx9 (by omega)).mono ?_); rintro e w6 ⟨rfl, v6, a6⟩; have A6 := Lib.hid a6.rot; have y01 := RD.out w6 a6.tch; obtain ⟨u0, u1⟩ := y01; clear a6))
      all_goals
        go_wp2
        exact ⟨⟨i + 1, by omega, by simp, v4, v5, v6, by rw [HST.out, HST.out, HSS.out.1, HSS.out.2]; exact A6.out⟩, by simp [intOf]; omega⟩
    · have him : i = few60 n := by omega
      have hl1 : ya.length = few60 n := ts_len HF.out
      have e0 : ya.take i = ya := List.take_of_length_le (by omega)
      rw [e0] at ha
      have hb1 := run_bd hi' ya q0 (by have := HLE.out.1; omega)
      have HA := Lib.hid ha
      have hl2 : yb.length = few60 n' := ts_len HF'.out
      have HL2 := Lib.hid hl2
      clear ha e0 him hl1 hl2
      go_wp2_with fail
      refine (tclone_c g1 w.heap.size v1 (runT hi' ya) _ HA.out.t1 (by omega)).mono ?_
      rintro e w2 ⟨gc, vc, rfl, hgc, hcl, t2⟩
      have A1 := Lib.hid (tri_clone HA.out hgc hcl t2)
      clear hcl t2 hgc
      go_wp2_with fail
      go_loopw [17] (fun iv wr => ∃ i : Nat, i ≤ few60 n' ∧ iv = .int .i64 i ∧ ∃ v1 v2 v3, Tri w wr g1 v1 (runT hi' (ya ++ (yb.take i).map flipT)) g2 v2 (runT hi' (ya ++ yb.take i)) gc v3 (runT hi' (ya ++ yb.take i))) (fun iv _ => few60 n' - (intOf iv).toNat)
      case atStart => exact ⟨0, by omega, rfl, v1, v2, vc, by rw [List.take_zero, List.map_nil, List.append_nil]; exact A1.out⟩
      case round =>
        obtain ⟨j, hjl, rfl, v1, v2, v3, ha⟩ := hrel
        clear A1
        by_cases hlt2 : j < few60 n'
        · obtain ⟨q, off, x, hA, hxi, d0, d1⟩ := rd_ts (HF'.out.tch ha.tch) j hlt2
          subst hA
          have hx9 := (HX'.out x (List.mem_of_getElem? hxi)).2
          have hst : runT hi' (ya ++ yb.take (j + 1)) = stepT (runT hi' (ya ++ yb.take j)) x.at_ x.is_ := by rw [take_snoc_app hxi, runT_snoc]
          have hst2 : runT hi' (ya ++ (yb.take (j + 1)).map flipT) = stepT (runT hi' (ya ++ (yb.take j).map flipT)) x.at_ (!x.is_) := by
            rw [take_succ_of hxi, List.map_append, ← List.append_assoc]
            exact runT_snoc _ _ (flipT x)
          have hla : (ya ++ yb.take j).length ≤ 120 := by have := HLE.out; simp; omega
          have hlb : (ya ++ (yb.take j).map flipT).length ≤ 120 := by have := HLE.out; simp; omega
          have ho1 := run_okT hi' (ya ++ yb.take j) q0 q1 (by omega) (fun y hy => by
            rcases List.mem_append.1 hy with hy | hy
            · exact (HX.out y hy).2
            · exact (HX'.out y (List.mem_of_mem_take hy)).2)
          have ho2 := run_okT hi' (ya ++ (yb.take j).map flipT) q0 q1 (by omega) (fun y hy => by
            rcases List.mem_append.1 hy with hy | hy
            · exact (HX.out y hy).2
            · obtain ⟨z, hz, rfl⟩ := List.mem_map.1 hy
              exact (HX'.out z (List.mem_of_mem_take hz)).2)
          have hb1 := run_bd hi' (ya ++ yb.take j) q0 (by omega)
          have hb2 := run_bd hi' (ya ++ (yb.take j).map flipT) q0 (by omega)
          have HST := Lib.hid (And.intro hst hst2)
          have HOK := Lib.hid (And.intro ho1 ho2)
          have HA := Lib.hid ha
          have RD : Hid (∀ w9, Tch No w w9 → w9.cell? ⟨q, off + j * 2, none⟩ = some (.int .i64 x.at_) ∧ w9.cell? ⟨q, off + j * 2 + 1, none⟩ = some (.bool x.is_)) := rd_ts2 HF'.out j hlt2 hxi
          clear ha hst hst2 ho1 ho2 hxi hla hlb
          have hi1 : (j : Int) < (few60 n' : Int) := by omega
          generalize hS : runT hi' (ya ++ yb.take j) = s at *
          generalize hU : runT hi' (ya ++ (yb.take j).map flipT) = u at *
          have HSS := Lib.hid (And.intro hS hU)
          clear hS hU
          go_wp2_with fail
          go_region_held3 (fun w' => w'.cell? ⟨q, off + j * 2, none⟩ = some (.int .i64 x.at_) ∧ w'.cell? ⟨q, off + j * 2 + 1, none⟩ = some (.bool x.is_)) (go_keep)
            (first
              | (go_at_call_of 27 (Value.pointer (some ⟨g1, 0, none⟩)); go_must (refine (tri_c (HA.out.no ((Tch.refl No wr).drewN 1)) x.at_ (!x.is_) HOK.out.2 hx9 (by omega)).mono ?_); rintro e w4 ⟨rfl, v4, a4⟩; have A4 := Lib.hid a4; have y01 := RD.out w4 a4.tch; obtain ⟨y0, y1⟩ := y01; clear a4))
          all_goals
            go_wp2_with fail
            go_region_held3 (fun w' => w'.cell? ⟨q, off + j * 2, none⟩ = some (.int .i64 x.at_) ∧ w'.cell? ⟨q, off + j * 2 + 1, none⟩ = some (.bool x.is_)) (go_keep)
              (first
                | (go_at_call_of 27 (Value.pointer (some ⟨gc, 0, none⟩)); refine (tri_c (A4.out.rot.rot.no ((Tch.refl No w4).drewN 1)) x.at_ x.is_ HOK.out.1 hx9 (by omega)).mono ?_; rintro e w5 ⟨rfl, v5, a5⟩; have A5 := Lib.hid a5; have y01 := RD.out w5 a5.tch; obtain ⟨z0, z1⟩ := y01; clear a5)
                | (go_at_call_of 27 (Value.pointer (some ⟨g2, 0, none⟩)); go_must (refine (tri_c A5.out.rot.rot x.at_ x.is_ HOK.out.1 hx9 (by omega)).mono ?_); rintro e w6 ⟨rfl, v6, a6⟩; have A6 := Lib.hid a6; have y01 := RD.out w6 a6.tch; obtain ⟨u0, u1⟩ := y01; clear a6))
            all_goals
              go_wp2_with fail
              refine (tcells_c gc w.heap.size v5 _ _ A6.out.rot.t1).mono ?_
              rintro e w7 ⟨rfl, rfl⟩
              go_wp2_with fail
              refine (tcells_c g2 w.heap.size v6 _ _ A6.out.t1).mono ?_
              rintro e w7 ⟨rfl, rfl⟩
              go_wp2
              exact ⟨⟨j + 1, by omega, by simp, v4, v6, v5, by rw [HST.out.1, HST.out.2]; exact A6.out.rot.rot⟩, by simp [intOf]; omega⟩
        · have T9 := Lib.hid ha.tch
          have hjn : ¬ ((j : Int) < (few60 n' : Int)) := by omega
          clear ha
          go_wp2_with fail
          refine (tstep_nil 0 true _).mono ?_
          rintro e w3 ⟨rfl, rfl⟩
          go_wp2_with fail
          refine (tcells_nil _).mono ?_
          rintro e w3 ⟨rfl, rfl⟩
          go_wp2_with fail
          refine (tclone_nil _).mono ?_
          rintro e w3 ⟨rfl, rfl⟩
          go_wp2_with fail
          have OD : Hid (Odd (wr.alloc (.cells #[.bool false, .int .i64 0, .int .i64 0, .slice none 0 0] 54)) wr.heap.size) := Blk.new wr 54 _
          refine (tstep_odd _ 0 true _ OD.out).mono ?_
          rintro e w3 ⟨rfl, rfl⟩
          go_wp2_with fail
          refine (tcells_odd _ _ OD.out).mono ?_
          rintro e w3 ⟨rfl, rfl⟩
          go_wp2_with fail
          refine (tclone_odd _ _ OD.out).mono ?_
          rintro e w3 ⟨rfl, rfl⟩
          go_wp2
          go_returns
          exact ⟨rfl, (T9.out.alloc _).noBelow⟩

set_option maxHeartbeats 6400000 in
set_option maxRecDepth 100000 in
theorem tclones_y (hi more : Int) (A : Option Addr) (n c : Nat) (A' : Option Addr) (n' c' : Nat) (w : World) (b0 : -9223372036854775808 ≤ hi) (b1 : hi ≤ 9223372036854775807) (b2 : -9223372036854775808 ≤ more) (b3 : more ≤ 9223372036854775807) (h : n ≤ c) (hm : c ≤ 9223372036854775807) (xs : List TSt) (hr : Rd w No 2 A n (xs.flatMap tcells) ∧ ∀ x ∈ xs, Fit x.at_)
    (h' : n' ≤ c') (hm' : c' ≤ 9223372036854775807) (xs' : List TSt) (hr' : Rd w No 2 A' n' (xs'.flatMap tcells) ∧ ∀ x ∈ xs', Fit x.at_) (hi' hj : Int) (hhi : hi' = max hi 0) (m : Int) (hmw : more ≤ hi) (hm0 : hi = m) (hhj : hj = max m 0) :
    Calls Try.prog 9 #[.int .i64 hi, .int .i64 more, .slice A n c, .slice A' n' c'] w fun e w' => e = .returned (.bool true) ∧ Below w.heap.size w w' := by
  subst hm0
  have HR := Lib.hid hr.1
  have HX : Hid (∀ x ∈ xs.take (few60 n), Fit x.at_) := fun x hx => hr.2 x (List.mem_of_mem_take hx)
  have HF := Lib.hid (few17_rd hr.1)
  have HR' := Lib.hid hr'.1
  have HX' : Hid (∀ x ∈ xs'.take (few60 n'), Fit x.at_) := fun x hx => hr'.2 x (List.mem_of_mem_take hx)
  have HF' := Lib.hid (few17_rd hr'.1)
  have hf := (few60_le n).1
  have hf' := (few60_le n').1
  have q0 : 0 ≤ hi' := by omega
  have q1 : hi' ≤ 9223372036854775807 := by omega
  have q2 : hi' ≤ hj := by omega
  have q3 : hj ≤ 9223372036854775807 := by omega
  have HHI := Lib.hid (And.intro hhi hhj)
  have hly : (xs.take (few60 n)).length ≤ 60 := by simp; omega
  have hly' : (xs'.take (few60 n')).length ≤ 60 := by simp; omega
  have HLE := Lib.hid (And.intro hly hly')
  clear hr hr' hhi hhj hly hly'
  generalize xs.take (few60 n) = ya at *
  generalize xs'.take (few60 n') = yb at *
  go_enter Try.func9, Try.ntmps9
  go_wp2_with fail
  refine (talive_c _).mono ?_
  rintro e w1 ⟨rfl, t1⟩
  have T1 := Lib.hid t1
  clear t1
  go_wp2_with fail
  refine (few17_c No A n c xs _ h hm (HR.out.tch T1.out)).mono ?_
  rintro e w2 ⟨rfl, rfl⟩
  go_wp2_with fail
  refine (few17_c No A' n' c' xs' _ h' hm' (HR'.out.tch T1.out)).mono ?_
  rintro e w2 ⟨rfl, rfl⟩
  go_wp2_with fail
  refine (tnew_c hi hi' _ HHI.out.1).mono ?_
  rintro e w2 ⟨rfl, rfl⟩
  go_wp2_with fail
  refine (tnew_c hi hi' _ HHI.out.1).mono ?_
  rintro e w2 ⟨rfl, rfl⟩
  go_wp2_with fail
  refine (tnew_c hi hj _ HHI.out.2).mono ?_
  rintro e w2 ⟨rfl, rfl⟩
  have A0 := Lib.hid (tri_new w w1 ⟨hi', 0, []⟩ ⟨hi', 0, []⟩ ⟨hj, 0, []⟩ T1.out rfl rfl rfl)
  go_wp2_with fail
  generalize hW0 : ((w1.alloc (.cells (tcs ⟨hi', 0, []⟩ (.slice none 0 0)) 54)).alloc (.cells (tcs ⟨hi', 0, []⟩ (.slice none 0 0)) 54)).alloc (.cells (tcs ⟨hj, 0, []⟩ (.slice none 0 0)) 54) = wz at *
  generalize w1.heap.size + 1 + 1 = g3 at *
  generalize w1.heap.size + 1 = g2 at *
  generalize w1.heap.size = g1 at *
  clear hW0
  go_loopw [12] (fun iv wr => ∃ i : Nat, i ≤ few60 n ∧ iv = .int .i64 i ∧ ∃ v1 v2 v3, Tri w wr g1 v1 (runT hi' (ya.take i)) g2 v2 (runT hi' (ya.take i)) g3 v3 (runT hj (ya.take i))) (fun iv _ => few60 n - (intOf iv).toNat)
  case atStart => exact ⟨0, by omega, rfl, _, _, _, A0.out⟩
  case round =>
    obtain ⟨i, hil, rfl, v1, v2, v3, ha⟩ := hrel
    clear A0
    by_cases hlt : i < few60 n
    · obtain ⟨q, off, x, hA, hxi, d0, d1⟩ := rd_ts (HF.out.tch ha.tch) i hlt
      subst hA
      have hx9 := (HX.out x (List.mem_of_getElem? hxi)).2
      have hst : ∀ z, runT z (ya.take (i + 1)) = stepT (runT z (ya.take i)) x.at_ x.is_ := fun z => by rw [take_succ_of hxi, runT_snoc]
      have hmo := run_more hi' hj (ya.take (i + 1)) q0 q2 (by have := HLE.out.1; simp; omega)
      rw [hst, hst] at hmo
      have ho1 := run_okT hi' (ya.take i) q0 q1 (by have := HLE.out.1; simp; omega) (fun y hy => (HX.out y (List.mem_of_mem_take hy)).2)
      have ho2 := run_okT hj (ya.take i) (by omega) q3 (by have := HLE.out.1; simp; omega) (fun y hy => (HX.out y (List.mem_of_mem_take hy)).2)
      have hb1 := run_bd hi' (ya.take i) q0 (by have := HLE.out.1; simp; omega)
      have hb2 := run_bd hj (ya.take i) (by omega) (by have := HLE.out.1; simp; omega)
      have HST := Lib.hid hst
      have HOK := Lib.hid (And.intro ho1 ho2)
      have HA := Lib.hid ha
      have RD : Hid (∀ w9, Tch No w w9 → w9.cell? ⟨q, off + i * 2, none⟩ = some (.int .i64 x.at_) ∧ w9.cell? ⟨q, off + i * 2 + 1, none⟩ = some (.bool x.is_)) := rd_ts2 HF.out i hlt hxi
      clear ha hst ho1 ho2 hxi
      have hi1 : (i : Int) < (few60 n : Int) := by omega
      generalize hS : runT hi' (ya.take i) = s at *
      generalize hU : runT hj (ya.take i) = u at *
      have HSS := Lib.hid (And.intro hS hU)
      clear hS hU
      have hmo2 : ¬ (sumL (stepT u x.at_ x.is_).l < sumL (stepT s x.at_ x.is_).l) := by omega
      go_wp2_with fail
      go_region_held3 (fun w' => w'.cell? ⟨q, off + i * 2, none⟩ = some (.int .i64 x.at_) ∧ w'.cell? ⟨q, off + i * 2 + 1, none⟩ = some (.bool x.is_)) (go_keep)
        (first
          | (go_at_call_of 27 (Value.pointer (some ⟨g1, 0, none⟩)); refine (tri_c (HA.out.no ((Tch.refl No wr).drewN 1)) x.at_ x.is_ HOK.out.1 hx9 (by omega)).mono ?_; rintro e w4 ⟨rfl, v4, a4⟩; have A4 := Lib.hid a4; have y01 := RD.out w4 a4.tch; obtain ⟨y0, y1⟩ := y01; clear a4)
          | (go_at_call_of 27 (Value.pointer (some ⟨g2, 0, none⟩)); refine (tri_c A4.out.rot x.at_ x.is_ HOK.out.1 hx9 (by omega)).mono ?_; rintro e w5 ⟨rfl, v5, a5⟩; have A5 := Lib.hid a5; have y01 := RD.out w5 a5.tch; obtain ⟨z0, z1⟩ := y01; clear a5)
          | (go_at_call_of 27 (Value.pointer (some ⟨g3, 0, none⟩)); go_must (refine (tri_c A5.out.rot x.at_ x.is_ HOK.out.2 hx9 (by omega)).mono ?_); rintro e w6 ⟨rfl, v6, a6⟩; have A6 := Lib.hid a6.rot; have y01 := RD.out w6 a6.tch; obtain ⟨u0, u1⟩ := y01; clear a6))
      all_goals
        go_wp2
        exact ⟨⟨i + 1, by omega, by simp, v4, v5, v6, by rw [HST.out, HST.out, HSS.out.1, HSS.out.2]; exact A6.out⟩, by simp [intOf]; omega⟩
    · have him : i = few60 n := by omega
      have hl1 : ya.length = few60 n := ts_len HF.out
      have e0 : ya.take i = ya := List.take_of_length_le (by omega)
      rw [e0] at ha
      have hb1 := run_bd hi' ya q0 (by have := HLE.out.1; omega)
      have HA := Lib.hid ha
      have hl2 : yb.length = few60 n' := ts_len HF'.out
      have HL2 := Lib.hid hl2
      clear ha e0 him hl1 hl2
      go_wp2_with fail
      refine (tclone_c g1 w.heap.size v1 (runT hi' ya) _ HA.out.t1 (by omega)).mono ?_
      rintro e w2 ⟨gc, vc, rfl, hgc, hcl, t2⟩
      have A1 := Lib.hid (tri_clone HA.out hgc hcl t2)
      clear hcl t2 hgc
      go_wp2_with fail
      go_loopw [17] (fun iv wr => ∃ i : Nat, i ≤ few60 n' ∧ iv = .int .i64 i ∧ ∃ v1 v2 v3, Tri w wr g1 v1 (runT hi' (ya ++ (yb.take i).map flipT)) g2 v2 (runT hi' (ya ++ yb.take i)) gc v3 (runT hi' (ya ++ yb.take i))) (fun iv _ => few60 n' - (intOf iv).toNat)
      case atStart => exact ⟨0, by omega, rfl, v1, v2, vc, by rw [List.take_zero, List.map_nil, List.append_nil]; exact A1.out⟩
      case round =>
        obtain ⟨j, hjl, rfl, v1, v2, v3, ha⟩ := hrel
        clear A1
        by_cases hlt2 : j < few60 n'
        · obtain ⟨q, off, x, hA, hxi, d0, d1⟩ := rd_ts (HF'.out.tch ha.tch) j hlt2
          subst hA
          have hx9 := (HX'.out x (List.mem_of_getElem? hxi)).2
          have hst : runT hi' (ya ++ yb.take (j + 1)) = stepT (runT hi' (ya ++ yb.take j)) x.at_ x.is_ := by rw [take_snoc_app hxi, runT_snoc]
          have hst2 : runT hi' (ya ++ (yb.take (j + 1)).map flipT) = stepT (runT hi' (ya ++ (yb.take j).map flipT)) x.at_ (!x.is_) := by
            rw [take_succ_of hxi, List.map_append, ← List.append_assoc]
            exact runT_snoc _ _ (flipT x)
          have hla : (ya ++ yb.take j).length ≤ 120 := by have := HLE.out; simp; omega
          have hlb : (ya ++ (yb.take j).map flipT).length ≤ 120 := by have := HLE.out; simp; omega
          have ho1 := run_okT hi' (ya ++ yb.take j) q0 q1 (by omega) (fun y hy => by
            rcases List.mem_append.1 hy with hy | hy
            · exact (HX.out y hy).2
            · exact (HX'.out y (List.mem_of_mem_take hy)).2)
          have ho2 := run_okT hi' (ya ++ (yb.take j).map flipT) q0 q1 (by omega) (fun y hy => by
            rcases List.mem_append.1 hy with hy | hy
            · exact (HX.out y hy).2
            · obtain ⟨z, hz, rfl⟩ := List.mem_map.1 hy
              exact (HX'.out z (List.mem_of_mem_take hz)).2)
          have hb1 := run_bd hi' (ya ++ yb.take j) q0 (by omega)
          have hb2 := run_bd hi' (ya ++ (yb.take j).map flipT) q0 (by omega)
          have HST := Lib.hid (And.intro hst hst2)
          have HOK := Lib.hid (And.intro ho1 ho2)
          have HA := Lib.hid ha
          have RD : Hid (∀ w9, Tch No w w9 → w9.cell? ⟨q, off + j * 2, none⟩ = some (.int .i64 x.at_) ∧ w9.cell? ⟨q, off + j * 2 + 1, none⟩ = some (.bool x.is_)) := rd_ts2 HF'.out j hlt2 hxi
          clear ha hst hst2 ho1 ho2 hxi hla hlb
          have hi1 : (j : Int) < (few60 n' : Int) := by omega
          generalize hS : runT hi' (ya ++ yb.take j) = s at *
          generalize hU : runT hi' (ya ++ (yb.take j).map flipT) = u at *
          have HSS := Lib.hid (And.intro hS hU)
          clear hS hU
          go_wp2_with fail
          go_region_held3 (fun w' => w'.cell? ⟨q, off + j * 2, none⟩ = some (.int .i64 x.at_) ∧ w'.cell? ⟨q, off + j * 2 + 1, none⟩ = some (.bool x.is_)) (go_keep)
            (first
              | (go_at_call_of 27 (Value.pointer (some ⟨g1, 0, none⟩)); go_must (refine (tri_c (HA.out.no ((Tch.refl No wr).drewN 1)) x.at_ (!x.is_) HOK.out.2 hx9 (by omega)).mono ?_); rintro e w4 ⟨rfl, v4, a4⟩; have A4 := Lib.hid a4; have y01 := RD.out w4 a4.tch; obtain ⟨y0, y1⟩ := y01; clear a4))
          all_goals
            go_wp2_with fail
            go_region_held3 (fun w' => w'.cell? ⟨q, off + j * 2, none⟩ = some (.int .i64 x.at_) ∧ w'.cell? ⟨q, off + j * 2 + 1, none⟩ = some (.bool x.is_)) (go_keep)
              (first
                | (go_at_call_of 27 (Value.pointer (some ⟨gc, 0, none⟩)); refine (tri_c (A4.out.rot.rot.no ((Tch.refl No w4).drewN 1)) x.at_ x.is_ HOK.out.1 hx9 (by omega)).mono ?_; rintro e w5 ⟨rfl, v5, a5⟩; have A5 := Lib.hid a5; have y01 := RD.out w5 a5.tch; obtain ⟨z0, z1⟩ := y01; clear a5)
                | (go_at_call_of 27 (Value.pointer (some ⟨g2, 0, none⟩)); go_must (refine (tri_c A5.out.rot.rot x.at_ x.is_ HOK.out.1 hx9 (by omega)).mono ?_); rintro e w6 ⟨rfl, v6, a6⟩; have A6 := Lib.hid a6; have y01 := RD.out w6 a6.tch; obtain ⟨u0, u1⟩ := y01; clear a6))
            all_goals
              go_wp2_with fail
              refine (tcells_c gc w.heap.size v5 _ _ A6.out.rot.t1).mono ?_
              rintro e w7 ⟨rfl, rfl⟩
              go_wp2_with fail
              refine (tcells_c g2 w.heap.size v6 _ _ A6.out.t1).mono ?_
              rintro e w7 ⟨rfl, rfl⟩
              go_wp2
              exact ⟨⟨j + 1, by omega, by simp, v4, v6, v5, by rw [HST.out.1, HST.out.2]; exact A6.out.rot.rot⟩, by simp [intOf]; omega⟩
        · have T9 := Lib.hid ha.tch
          have hjn : ¬ ((j : Int) < (few60 n' : Int)) := by omega
          clear ha
          go_wp2_with fail
          refine (tstep_nil 0 true _).mono ?_
          rintro e w3 ⟨rfl, rfl⟩
          go_wp2_with fail
          refine (tcells_nil _).mono ?_
          rintro e w3 ⟨rfl, rfl⟩
          go_wp2_with fail
          refine (tclone_nil _).mono ?_
          rintro e w3 ⟨rfl, rfl⟩
          go_wp2_with fail
          have OD : Hid (Odd (wr.alloc (.cells #[.bool false, .int .i64 0, .int .i64 0, .slice none 0 0] 54)) wr.heap.size) := Blk.new wr 54 _
          refine (tstep_odd _ 0 true _ OD.out).mono ?_
          rintro e w3 ⟨rfl, rfl⟩
          go_wp2_with fail
          refine (tcells_odd _ _ OD.out).mono ?_
          rintro e w3 ⟨rfl, rfl⟩
          go_wp2_with fail
          refine (tclone_odd _ _ OD.out).mono ?_
          rintro e w3 ⟨rfl, rfl⟩
          go_wp2
          go_returns
          exact ⟨rfl, (T9.out.alloc _).noBelow⟩

theorem tclones_walk (hi more : Int) (A : Option Addr) (n c : Nat) (A' : Option Addr) (n' c' : Nat) (w : World) (b0 : -9223372036854775808 ≤ hi) (b1 : hi ≤ 9223372036854775807) (b2 : -9223372036854775808 ≤ more) (b3 : more ≤ 9223372036854775807) (h : n ≤ c) (hm : c ≤ 9223372036854775807) (xs : List TSt) (hr : Rd w No 2 A n (xs.flatMap tcells) ∧ ∀ x ∈ xs, Fit x.at_)
    (h' : n' ≤ c') (hm' : c' ≤ 9223372036854775807) (xs' : List TSt) (hr' : Rd w No 2 A' n' (xs'.flatMap tcells) ∧ ∀ x ∈ xs', Fit x.at_) :
    Calls Try.prog 9 #[.int .i64 hi, .int .i64 more, .slice A n c, .slice A' n' c'] w fun e w' => e = .returned (.bool true) ∧ Below w.heap.size w w' := by
  rcases (by omega : hi < more ∨ more ≤ hi) with h9 | h9
  · exact tclones_x hi more A n c A' n' c' w b0 b1 b2 b3 h hm xs hr h' hm' xs' hr' _ _ rfl more h9 rfl rfl
  · exact tclones_y hi more A n c A' n' c' w b0 b1 b2 b3 h hm xs hr h' hm' xs' hr' _ _ rfl hi h9 rfl rfl
end Go.Proofs.Ytppbgkadpomblaa
