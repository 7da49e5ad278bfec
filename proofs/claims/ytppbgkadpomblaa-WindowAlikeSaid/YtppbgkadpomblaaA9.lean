/- Contracts. -/
import Derived.Test.YtppbgkadpomblaaProg
import Derived.Test.YtppbgkadpomblaaA8
import Derived.Tactics
import Derived.Tactics2
import Derived.WalkKit
import Derived.WalkSpells
import Derived.WalkLawsBesides
import Derived.StillTactics
import Derived.StillTailTactics
import Derived.OwnWalk
import Derived.Laws.Pointers
import Derived.Laws.ResultCell
import Derived.Deep.RegionHeld3
import Derived.Deep.RegionWith
import Derived.Deep.RegionLaw
import Derived.Deep.AppendLies
import Derived.Deep.QuietTactic
import Derived.BigQuiet
import Derived.LoopTactic
import Derived.Deep.LoopGhost
import Derived.Deep.DeepCutAuto
import Derived.Deep.DeepFit
import Derived.Maps.AppendAt
import Derived.Below
import Derived.Lib.Hide
import Derived.Handy
import Derived.KernelRfl
import Derived.IntWalk
import Derived.Laws.AppendOwnNone
import Derived.Laws.IdiomStrings
namespace Go.Proofs.Ytppbgkadpomblaa
set_option linter.unusedVariables false
set_option linter.unusedSimpArgs false
open Go.RowKit

theorem crow_last (p : List Cl) (x : Cl) : (crows (p ++ [x]))[p.length * 2 + 1]? = some (.int .i64 x.n) := by
  have := flat_get ccells_length (p ++ [x]) p.length 1 (by omega) x (by simp)
  exact this
theorem own_lenset2 {w : World} {b a c : Nat} {p : List Cl} {x y : Cl} {n : Int} (h : w.ownsRow b 30 2 (.slice (some ⟨a, 0, none⟩) (p.length + 1) c) (p.length + 1) (crows (p ++ [x]))) (hy : y = ⟨x.at_, n⟩) :
    (w.setCell ⟨a, p.length * 2 + 1, none⟩ (.int .i64 n)).ownsRow b 30 2 (.slice (some ⟨a, 0, none⟩) (p.length + 1) c) (p.length + 1) (crows (p ++ [y])) := by
  have e : (p ++ [x]).length = p.length + 1 := by simp
  have e2 : (p ++ [y]).length = p.length + 1 := by simp
  rw [← e] at h
  have := own_lenset h hy
  rw [e2] at this
  exact this

set_option maxHeartbeats 1600000 in
set_option maxRecDepth 100000 in
theorem step_push2 (F : Nat → Prop) (g b : Nat) (v : Value) (p : List Cl) (x : Cl) (A : Option Addr) (c : Nat) (o : Opp) (w : World) (ht : DqN w g b v (p ++ [x])) (hb : b ≤ w.heap.size) (hr : Rd w (FF g v F) 2 A (p.length + 1) (crows (p ++ [x]))) (hF : ∀ k, F k → k < w.heap.size) (hnil : SNil A (p.length + 1) c) (hl : p.length ≤ 30000) (hok : CellsOk (p ++ [x])) (h1 : o.kind = 1) (heq : o.at_ = x.at_) (hxn : x.n + 1 ≤ 32768) (hx0 : 0 ≤ x.n) :
    Calls Try.prog 49 #[.pointer (some ⟨g, 0, none⟩), .slice A (p.length + 1) c, oagg o] w (StepP g b v F (p ++ [⟨x.at_, min (x.n + 1) 32768⟩]) w) := by
  obtain ⟨i0, hi0, hz0, hz1, hz2⟩ := info_parts Try.info30
  have h2 : (o.kind == 1) = true := by simpa using h1
  obtain ⟨ad, rfl⟩ : ∃ ad, A = some ad := by
    cases A with
    | none => have := (hnil (.inl rfl)).2.1; omega
    | some ad => exact ⟨ad, rfl⟩
  have HT := Lib.hid ht
  have HR := Lib.hid hr
  have HS := Lib.hid hnil
  have HK := Lib.hid hok
  have hlen : (p ++ [x]).length = p.length + 1 := by simp
  have HL := Lib.hid hlen
  clear h1 ht hr hnil hok hlen
  have HEQ := Lib.hid heq
  clear heq
  unfold oagg
  go_enter Try.func49, Try.ntmps49
  go_wp2_with fail
  refine (push_c g 0 b 26 #[v] v (p ++ [x]) o.at_ _ (HT.out.tch ((Tch.refl No w).alloc _)) (le_alloc hb _) (by rw [HL.out]; omega) HK.out).mono ?_
  rintro e w1 ⟨v1, rfl, d1, t1, hv1⟩
  rw [(push_same p x o.at_ HEQ.out).1] at d1
  rw [(push_same p x o.at_ HEQ.out).2]
  have D1 : Hid (DqN w1 g b v1 (p ++ [⟨x.at_, min (x.n + 1) 32768⟩])) := d1
  have t1' : Tch (Foot g v) w w1 := ((Tch.refl (Foot g v) w).alloc (.cells #[.int .i64 o.kind, .int .i64 o.at_] 89)).and t1
  have T1 := Lib.hid t1'
  have hv1' : ∀ k, v1.ownBlock = some k → v.ownBlock = some k ∨ w.heap.size ≤ k := fun k hk => (hv1 k hk).imp id (fun h => by rw [World.size_alloc] at h; omega)
  have HV1 := Lib.hid hv1'
  have bx := box_after HT.out t1
  have B1 := Lib.hid bx
  obtain ⟨x0, x1⟩ := cells2 bx
  have R1 := Lib.hid (rd_after HR.out t1')
  obtain ⟨q, off, y, hA, _, _, hy, d0, dn⟩ := rd_cl R1.out p.length (by omega)
  have hxy : y = x := by simpa using hy.symm
  subst hxy
  injection hA with hA
  subst hA
  have hsz := t1'.size
  clear d1 t1 t1' hv1 hv1' bx hy
  have hwr : IntKind.i64.wrap (p.length : Int) = p.length := IntWalk.i64_in _ (by omega)
  have hwr2 : IntKind.i64.wrap ((p.length : Int) + 1 - 1) = p.length := by rw [show (p.length : Int) + 1 - 1 = p.length by omega]; exact hwr
  have hwl : (p.length : Int) < (p.length : Int) + 1 := by omega
  have hn0 : (0 : Int) < (p.length : Int) + 1 := by omega
  have HW := Lib.hid (And.intro hwr hwr2)
  go_wp2_with fail
  have hnlt : ¬ o.at_ < y.at_ := by have := HEQ.out; omega
  have heb : (o.at_ == y.at_) = true := by simpa using HEQ.out
  go_quiet (fail)
  have DD : Hid (DqN (w1.drewN nq) g b v1 (p ++ [⟨y.at_, min (y.n + 1) 32768⟩])) := D1.out.tch ((Tch.refl No w1).drewN nq)
  have TD : Hid (Tch (Foot g v) w (w1.drewN nq)) := T1.out.drewN nq
  have RD : Hid (Rd (w1.drewN nq) No 2 (some ⟨q, off, none⟩) (p.length + 1) (crows (p ++ [y]))) := R1.out
  have BD : Hid (Blk (w1.drewN nq) w.heap.size 89 #[.int .i64 o.kind, .int .i64 o.at_]) := B1.out
  have hsz : w.heap.size ≤ (w1.drewN nq).heap.size := hsz
  clear D1 T1 R1 B1 x0 x1 d0 dn
  generalize w1.drewN nq = wD at *
  obtain ⟨x0, x1⟩ := cells2 BD.out
  have hsrc : Hid (∀ j u, (crows (p ++ [y]))[j]? = some u → wD.cell? ((⟨q, off, none⟩ : Addr).add j) = some u) := rd_add RD.out
  have hone := ccells_one (p ++ [y])
  have HONE := Lib.hid hone
  have hk1 : 0 + (p.length + 1) ≤ maxLen := by unfold maxLen; omega
  have hk2 : (0 + (p.length + 1)) * 16 ≤ 140737488355328 := by omega
  clear hone
  go_wp2_with (at_builtin; go_must (refine wpList_append_lies _ rfl (.tmp 38) (.tmp 39) _ rfl wD.heap.size 30 i0 _ 2 16 Try.underlying24 hi0 hz0 hz1 hz2 rfl (by decide) (.slice none 0 0) 0 [] rfl (World.ownsRow_nil ..) ⟨q, off, none⟩ (p.length + 1) c (crows (p ++ [y])) rfl RD.out.1 hsrc.out HONE.out (by omega) hk1 hk2 (Nat.le_refl _) wD.heap.size rfl ?_); intro a2 c2 w2 hown2 hg2 hat2 hlt2)
  rw [List.nil_append, Nat.zero_add] at hown2
  have t2 : Tch No wD w2 := Tch.of_grown hg2 (by simp [Value.ownBlock])
  have T2 := Lib.hid t2
  have O2 := Lib.hid hown2
  have b2 := t2.blk BD.out (fun f => f)
  obtain ⟨x0, x1⟩ := cells2 b2
  obtain ⟨q', off', z, hA, _, _, hz, d0, dn⟩ := rd_cl (RD.out.tch t2) p.length (by omega)
  have hzy : z = y := by simpa using hz.symm
  subst hzy
  obtain ⟨hqq, hoo⟩ : q = q' ∧ off = off' := by simpa using hA
  subst hqq
  subst hoo
  have B2 := Lib.hid b2
  clear hown2 hg2 hat2 t2 b2 hz hA
  go_quiet (fail)
  have T2E : Hid (Tch No wD (w2.drewN nq)) := T2.out.drewN nq
  have OE : Hid ((w2.drewN nq).ownsRow wD.heap.size 30 2 (.slice (some ⟨a2, 0, none⟩) (p.length + 1) c2) (p.length + 1) (crows (p ++ [z]))) := O2.out
  have BE : Hid (Blk (w2.drewN nq) w.heap.size 89 #[.int .i64 o.kind, .int .i64 o.at_]) := B2.out
  clear T2 O2 B2 x0 x1 d0 dn
  generalize w2.drewN nq = wE at *
  obtain ⟨x0, x1⟩ := cells2 BE.out
  have k1 := own_cell OE.out (p.length * 2 + 1) (.int .i64 z.n) (crow_last p z)
  have f1 := own_frozen OE.out (p.length * 2 + 1)
  have OS := Lib.hid (own_lenset2 OE.out (y := ⟨z.at_, z.n + 1⟩) rfl)
  have hmin : min (z.n + 1) 32768 = z.n + 1 := by omega
  have HM := Lib.hid hmin
  clear hmin
  go_wp2
  go_returns
  exact fin_new (by simp) (by omega) TD.out DD.out HV1.out hF (T2E.out.set_ (p := ⟨a2, _, none⟩) (.inr (own_base OE.out a2 rfl)) _) (by rw [HM.out]; exact OS.out)

set_option maxHeartbeats 1600000 in
set_option maxRecDepth 100000 in
theorem step_push3 (F : Nat → Prop) (g b : Nat) (v : Value) (p : List Cl) (x : Cl) (A : Option Addr) (c : Nat) (o : Opp) (w : World) (ht : DqN w g b v (p ++ [x])) (hb : b ≤ w.heap.size) (hr : Rd w (FF g v F) 2 A (p.length + 1) (crows (p ++ [x]))) (hF : ∀ k, F k → k < w.heap.size) (hnil : SNil A (p.length + 1) c) (hl : p.length ≤ 30000) (hok : CellsOk (p ++ [x])) (h1 : o.kind = 1) (hgt : x.at_ < o.at_) :
    Calls Try.prog 49 #[.pointer (some ⟨g, 0, none⟩), .slice A (p.length + 1) c, oagg o] w (StepP g b v F (p ++ [x] ++ [⟨o.at_, 1⟩]) w) := by
  obtain ⟨i0, hi0, hz0, hz1, hz2⟩ := info_parts Try.info30
  have h2 : (o.kind == 1) = true := by simpa using h1
  obtain ⟨ad, rfl⟩ : ∃ ad, A = some ad := by
    cases A with
    | none => have := (hnil (.inl rfl)).2.1; omega
    | some ad => exact ⟨ad, rfl⟩
  have HT := Lib.hid ht
  have HR := Lib.hid hr
  have HS := Lib.hid hnil
  have HK := Lib.hid hok
  have hlen : (p ++ [x]).length = p.length + 1 := by simp
  have HL := Lib.hid hlen
  clear h1 ht hr hnil hok hlen
  unfold oagg
  go_enter Try.func49, Try.ntmps49
  go_wp2_with fail
  refine (push_c g 0 b 26 #[v] v (p ++ [x]) o.at_ _ (HT.out.tch ((Tch.refl No w).alloc _)) (le_alloc hb _) (by rw [HL.out]; omega) HK.out).mono ?_
  rintro e w1 ⟨v1, rfl, d1, t1, hv1⟩
  rw [(push_more p x o.at_ hgt).1] at d1
  rw [(push_more p x o.at_ hgt).2]
  have D1 : Hid (DqN w1 g b v1 (p ++ [x] ++ [⟨o.at_, 1⟩])) := d1
  have t1' : Tch (Foot g v) w w1 := ((Tch.refl (Foot g v) w).alloc (.cells #[.int .i64 o.kind, .int .i64 o.at_] 89)).and t1
  have T1 := Lib.hid t1'
  have hv1' : ∀ k, v1.ownBlock = some k → v.ownBlock = some k ∨ w.heap.size ≤ k := fun k hk => (hv1 k hk).imp id (fun h => by rw [World.size_alloc] at h; omega)
  have HV1 := Lib.hid hv1'
  have bx := box_after HT.out t1
  have B1 := Lib.hid bx
  obtain ⟨x0, x1⟩ := cells2 bx
  have R1 := Lib.hid (rd_after HR.out t1')
  obtain ⟨q, off, y, hA, _, _, hy, d0, dn⟩ := rd_cl R1.out p.length (by omega)
  have hxy : y = x := by simpa using hy.symm
  subst hxy
  injection hA with hA
  subst hA
  have hsz := t1'.size
  clear d1 t1 t1' hv1 hv1' bx hy
  have hwr : IntKind.i64.wrap (p.length : Int) = p.length := IntWalk.i64_in _ (by omega)
  have hwr2 : IntKind.i64.wrap ((p.length : Int) + 1 - 1) = p.length := by rw [show (p.length : Int) + 1 - 1 = p.length by omega]; exact hwr
  have hwl : (p.length : Int) < (p.length : Int) + 1 := by omega
  have hn0 : (0 : Int) < (p.length : Int) + 1 := by omega
  have HW := Lib.hid (And.intro hwr hwr2)
  go_wp2_with fail
  have hnlt : ¬ o.at_ < y.at_ := by omega
  have heb : (o.at_ == y.at_) = false := by simp; omega
  go_quiet (fail)
  have DD : Hid (DqN (w1.drewN nq) g b v1 (p ++ [y] ++ [⟨o.at_, 1⟩])) := D1.out.tch ((Tch.refl No w1).drewN nq)
  have TD : Hid (Tch (Foot g v) w (w1.drewN nq)) := T1.out.drewN nq
  have RD : Hid (Rd (w1.drewN nq) No 2 (some ⟨q, off, none⟩) (p.length + 1) (crows (p ++ [y]))) := R1.out
  have BD : Hid (Blk (w1.drewN nq) w.heap.size 89 #[.int .i64 o.kind, .int .i64 o.at_]) := B1.out
  have hsz : w.heap.size ≤ (w1.drewN nq).heap.size := hsz
  clear D1 T1 R1 B1 x0 x1 d0 dn
  generalize w1.drewN nq = wD at *
  obtain ⟨x0, x1⟩ := cells2 BD.out
  have hsrc : Hid (∀ j u, (crows (p ++ [y]))[j]? = some u → wD.cell? ((⟨q, off, none⟩ : Addr).add j) = some u) := rd_add RD.out
  have hone := ccells_one (p ++ [y])
  have HONE := Lib.hid hone
  have hk1 : 0 + (p.length + 1) ≤ maxLen := by unfold maxLen; omega
  have hk2 : (0 + (p.length + 1)) * 16 ≤ 140737488355328 := by omega
  clear hone
  go_wp2_with (at_builtin; go_must (refine wpList_append_lies _ rfl (.tmp 38) (.tmp 39) _ rfl wD.heap.size 30 i0 _ 2 16 Try.underlying24 hi0 hz0 hz1 hz2 rfl (by decide) (.slice none 0 0) 0 [] rfl (World.ownsRow_nil ..) ⟨q, off, none⟩ (p.length + 1) c (crows (p ++ [y])) rfl RD.out.1 hsrc.out HONE.out (by omega) hk1 hk2 (Nat.le_refl _) wD.heap.size rfl ?_); intro a2 c2 w2 hown2 hg2 hat2 hlt2)
  rw [List.nil_append, Nat.zero_add] at hown2
  have t2 : Tch No wD w2 := Tch.of_grown hg2 (by simp [Value.ownBlock])
  have T2 := Lib.hid t2
  have O2 := Lib.hid hown2
  have b2 := t2.blk BD.out (fun f => f)
  obtain ⟨x0, x1⟩ := cells2 b2
  obtain ⟨q', off', z, hA, _, _, hz, d0, dn⟩ := rd_cl (RD.out.tch t2) p.length (by omega)
  have hzy : z = y := by simpa using hz.symm
  subst hzy
  obtain ⟨hqq, hoo⟩ : q = q' ∧ off = off' := by simpa using hA
  subst hqq
  subst hoo
  have B2 := Lib.hid b2
  clear hown2 hg2 hat2 t2 b2 hz hA
  go_quiet (fail)
  have T2E : Hid (Tch No wD (w2.drewN nq)) := T2.out.drewN nq
  have OE : Hid ((w2.drewN nq).ownsRow wD.heap.size 30 2 (.slice (some ⟨a2, 0, none⟩) (p.length + 1) c2) (p.length + 1) (crows (p ++ [z]))) := O2.out
  have BE : Hid (Blk (w2.drewN nq) w.heap.size 89 #[.int .i64 o.kind, .int .i64 o.at_]) := B2.out
  clear T2 O2 B2 x0 x1 d0 dn
  generalize w2.drewN nq = wE at *
  obtain ⟨x0, x1⟩ := cells2 BE.out
  have hk3 : p.length + 1 + 1 ≤ maxLen := by unfold maxLen; omega
  have hk4 : (p.length + 1 + 1) * 16 ≤ 140737488355328 := by omega
  have hsE := T2E.out.size
  go_wp2_with (at_builtin; go_must (refine wpList_append_lies _ rfl (.tmp 68) (.tmp 72) _ rfl wD.heap.size 30 i0 _ 2 16 Try.underlying24 hi0 hz0 hz1 hz2 rfl (by decide) (.slice (some ⟨a2, 0, none⟩) (p.length + 1) c2) (p.length + 1) (crows (p ++ [z])) rfl (OE.out.alloc _) ⟨wE.heap.size, 0, none⟩ 1 1 (ccells ⟨o.at_, 1⟩) rfl rfl (newsa wE ⟨o.at_, 1⟩) (ccells_one1 _) (by omega) hk3 hk4 (le_alloc hsE _) (wE.heap.size + 1) (by simp) ?_); intro a3 c3 w3 hown3 hg3 hat3 hlt3)
  go_returns
  rw [crows_snoc] at hown3
  exact fin_new (by simp) (by omega) TD.out DD.out HV1.out hF ((T2E.out.alloc _).trans (Tch.of_grown (S := fun k => wD.heap.size ≤ k) hg3 (fun k hk => .inl (own_base OE.out k hk))) (fun k hk => .inr hk)) hown3
end Go.Proofs.Ytppbgkadpomblaa
