/- All. Conditions: the expressions lie there. -/
import Derived.Test.YtmoiehbhhplckaaProg
import Derived.Test.YtmoiehbhhplckaaX1
import Derived.Tactics
import Derived.Tactics2
import Derived.WalkKit
import Derived.WalkSpells
import Derived.WalkLawsBesides
import Derived.StillTactics
import Derived.StillTailTactics
import Derived.OwnWalk
import Derived.Laws.Pointers
import Derived.Laws.ResultCell
import Derived.Deep.RegionHeld3
import Derived.Deep.RegionWith
import Derived.Deep.RegionLaw
import Derived.Deep.AppendLies
import Derived.Deep.QuietTactic
import Derived.BigQuiet
import Derived.LoopTactic
import Derived.Deep.LoopGhost
import Derived.Deep.DeepCutAuto
import Derived.Deep.DeepFit
import Derived.Maps.AppendAt
import Derived.Below
import Derived.Lib.Hide
import Derived.Handy
import Derived.KernelRfl
import Derived.IntWalk
import Derived.Laws.AppendOwnNone
import Derived.Laws.IdiomStrings
namespace Go.Proofs.Ytmoiehbhhplckaa
set_option linter.unusedVariables false
set_option linter.unusedSimpArgs false
open Go.RowKit

structure Nx where
  k : Int
  nm : ByteArray
  n : Int
  lo : Int
  hi : Int
  kids : Fo
structure Nv where
  x : Nx
  A : Option Addr
  c : Nat
def ncells (y : Nv) : List Value := [.int .i64 y.x.k, .string y.x.nm, .int .i64 y.x.n, .int .i64 y.x.lo, .int .i64 y.x.hi, .slice y.A y.x.kids.len y.c]
theorem ncells_length (y : Nv) : (ncells y).length = 6 := rfl
def NvOK (w : World) (y : Nv) : Prop := KA w y.x.kids y.A y.x.kids.len

def allF : Fo → List Nx
  | .nil => []
  | .cons k nm n lo hi kids rest => (⟨k, nm, n, lo, hi, kids⟩ :: (if k = 4 then [] else allF kids)) ++ allF rest

def allV (x : Nx) : List Nx := x :: (if x.k = 4 then [] else allF x.kids)
theorem allF_len (f : Fo) : 100 * (allF f).length ≤ wF f := by
  induction f with
  | nil => simp [allF, wF]
  | cons k nm n lo hi kids rest ihk ihr =>
    simp only [allF, wF, List.length_append, List.length_cons]
    split
    · simp only [List.length_nil]; omega
    · omega
/-- what All gives -/
structure AllR (x : Nx) (w0 w : World) (L : List Nv) (v : Value) (w' : World) : Prop where
  eq : L.map (·.x) = allV x
  own : w'.ownsRow w.heap.size 51 6 v L.length (L.flatMap ncells)
  ok : ∀ y ∈ L, NvOK w0 y
  tch : Tch No w w'
def AllC (k : Int) (nm : ByteArray) (n lo hi : Int) (kids : Fo) : Prop := ∀ (A : Option Addr) (c : Nat) (w0 w : World), Tch No w0 w → KA w0 kids A kids.len →
  Calls Try.prog 55 #[xagg k nm n lo hi A kids.len c] w fun e w' => ∃ L v, e = .returned v ∧ AllR ⟨k, nm, n, lo, hi, kids⟩ w0 w L v w'
theorem Try.info51 : (Try.prog.info? 51).map (fun i => (i.zero, i.size, i.bytes)) = some (some (.agg #[.int .i64 0, .string ByteArray.empty, .int .i64 0, .int .i64 0, .int .i64 0, .slice none 0 0]), 6, 72) := by kernel_rfl
theorem own_n1 (w : World) (B : Nat) (hB : B ≤ w.heap.size) (y : Nv) : (w.alloc (.cells (ncells y).toArray 51)).ownsRow B 51 6 (.slice (some ⟨w.heap.size, 0, none⟩) 1 1) 1 ([y].flatMap ncells) :=
  ⟨rfl, .inr ⟨w.heap.size, 1, _, rfl, hB, Blk.new w 51 _, by omega, by unfold maxLen; omega, rfl, rfl⟩⟩
theorem ncells_one (L : List Nv) : ∀ u ∈ L.flatMap ncells, u.oneCell' = true := by
  intro u hu
  obtain ⟨y, _, hy⟩ := List.mem_flatMap.1 hu
  unfold ncells at hy
  simp at hy
  rcases hy with rfl | rfl | rfl | rfl | rfl | rfl <;> rfl
theorem own_news {w : World} {b n g c : Nat} {e : TypeId} {xs : List Value} (h : w.ownsRow b e 6 (.slice (some ⟨g, 0, none⟩) n c) n xs) : ∀ j u, xs[j]? = some u → w.cell? ((⟨g, 0, none⟩ : Addr).add j) = some u := by
  intro j u hu
  rw [addr_add]; exact own_cell h j u hu
set_option maxHeartbeats 4000000 in
set_option maxRecDepth 100000 in
theorem all_step (k : Int) (nm : ByteArray) (n lo hi : Int) (kids : Fo) (hw : wF kids ≤ 200000000) (H : Each AllC kids) : AllC k nm n lo hi kids := by
  intro A c w0 w ht0 hk
  have HT0 := Lib.hid ht0
  obtain ⟨i0, hi0, hz0, hz1, hz2⟩ := info_parts Try.info51
  have HK := Lib.hid hk
  have hlw := len_wF kids
  have hal := allF_len kids
  have HH := Lib.hid H
  have HD4 : Hid (k = 4 → allV ⟨k, nm, n, lo, hi, kids⟩ = [⟨k, nm, n, lo, hi, kids⟩]) := fun h => by unfold allV; rw [if_pos h]
  have HDn : Hid (k ≠ 4 → allV ⟨k, nm, n, lo, hi, kids⟩ = ⟨k, nm, n, lo, hi, kids⟩ :: allF kids) := fun h => by unfold allV; rw [if_neg h]
  clear H hk ht0
  unfold xagg
  generalize hwb : w.alloc (.cells (xcells k nm n lo hi A kids.len c) 51) = wb
  have TB : Hid (Tch No w wb) := by subst hwb; exact (Tch.refl No w).alloc _
  have BX : Hid (Blk wb w.heap.size 51 (xcells k nm n lo hi A kids.len c)) := by subst hwb; exact Blk.new w 51 _
  have hsb : w.heap.size ≤ wb.heap.size := TB.out.size
  obtain ⟨e0, e1, e2, e3, e4, e5⟩ := cells6 BX.out
  generalize hw2 : wb.alloc (.cells (xcells k nm n lo hi A kids.len c) 51) = w2
  have T2 : Hid (Tch No w w2) := by subst hw2; exact TB.out.alloc _
  have B2 : Hid (Blk w2 w.heap.size 51 (xcells k nm n lo hi A kids.len c)) := by subst hw2; exact BX.out.alloc _
  have O2 : Hid (w2.ownsRow wb.heap.size 51 6 (.slice (some ⟨wb.heap.size, 0, none⟩) 1 1) 1 ([(⟨⟨k, nm, n, lo, hi, kids⟩, A, c⟩ : Nv)].flatMap ncells)) := by subst hw2; exact own_n1 wb wb.heap.size (Nat.le_refl _) ⟨⟨k, nm, n, lo, hi, kids⟩, A, c⟩
  unfold xcells at hwb hw2
  obtain ⟨f0, f1, f2, f3, f4, f5⟩ := cells6 B2.out
  have HOK : Hid (NvOK w0 ⟨⟨k, nm, n, lo, hi, kids⟩, A, c⟩) := HK.out
  by_cases k4 : k = 4
  · subst k4
    have D4 := Lib.hid (HD4.out rfl)
    go_enter Try.func55, Try.ntmps55
    go_wp2
    go_returns
    exact ⟨[⟨⟨4, nm, n, lo, hi, kids⟩, A, c⟩], _, rfl, by rw [D4.out]; rfl, own_mono O2.out hsb, by intro y hy; simp at hy; subst hy; exact HOK.out, T2.out⟩
  · have hk4 : (k == 4) = false := by simp [k4]
    have K4 := Lib.hid k4
    clear k4
    go_enter Try.func55, Try.ntmps55
    go_wp2_with fail
    have T0 : Hid (Tch No wb w2) := by subst hw2; exact (Tch.refl No wb).alloc _
    have HX : Hid (∀ r, [(⟨k, nm, n, lo, hi, kids⟩ : Nx)] ++ allF r = ⟨k, nm, n, lo, hi, kids⟩ :: allF r) := fun _ => rfl
    have HDN := Lib.hid (HDn.out K4.out)
    clear hwb hw2 HD4 HDn e0 e1 e2 e3 e4 e5 f0 f1 f2 f3 f4 f5
    go_loopw [3, 4] (fun lv iv wr => ∃ (i : Nat) (r : Fo) (L : List Nv), i + r.len = kids.len ∧ iv = .int .i64 i ∧ wr.ownsRow wb.heap.size 51 6 lv L.length (L.flatMap ncells) ∧ L.map (·.x) ++ allF r = ⟨k, nm, n, lo, hi, kids⟩ :: allF kids ∧ (∀ y ∈ L, NvOK w0 y) ∧ Each AllC r ∧ (r.len = 0 ∨ ∃ g o, A = some ⟨g, o, none⟩ ∧ FoA w0 r g (o + i * 6)) ∧ Tch No wb wr) (fun _ iv _ => kids.len - (intOf iv).toNat)
    case atStart => exact ⟨0, kids, [⟨⟨k, nm, n, lo, hi, kids⟩, A, c⟩], by omega, rfl, O2.out, HX.out kids, by intro y hy; simp at hy; subst hy; exact HOK.out, HH.out, by simpa using HK.out.2, T0.out⟩
    case round =>
      obtain ⟨i, r, L, hil, rfl, ho, hm, hok, hE, hf, ht⟩ := hrel
      have HT := Lib.hid ht
      have HO := Lib.hid ho
      have HM := Lib.hid hm
      have HOKL := Lib.hid hok
      have hlen := congrArg List.length hm
      rw [List.length_append, List.length_map, List.length_cons] at hlen
      obtain ⟨a0, a1, a2, a3, a4, a5⟩ := cells6 (ht.blk BX.out (fun f => f))
      clear ht ho hm hok
      cases r with
      | nil =>
        have hlt : ¬ ((i : Int) < (kids.len : Int)) := by simp only [Fo.len] at hil; omega
        clear hf hE hil
        go_wp2
        go_returns
        refine ⟨L, _, rfl, ?_, own_mono HO.out hsb, HOKL.out, TB.out.and HT.out⟩
        rw [HDN.out, ← HM.out]
        simp [allF]
      | cons k1 nm1 n1 lo1 hi1 kids1 rest =>
        simp only [Fo.len] at hil hf
        rcases hf with hf | ⟨g, o, hA, hf⟩
        · omega
        subst hA
        obtain ⟨A1, c1, ⟨x0, x1, x2, x3, x4, x5⟩, hk1, hr1⟩ := foa_first (FoA.tch (HT0.out.and (TB.out.and HT.out)) _ _ _ hf)
        obtain ⟨A2, c2, hcc, hk0, hr2⟩ := foa_first hf
        have hlt : (i : Int) < (kids.len : Int) := by omega
        obtain ⟨rfl, rfl⟩ : A2 = A1 ∧ c2 = c1 := by
          have h5 := (HT0.out.and (TB.out.and HT.out)).cell (fun f => f) hcc.2.2.2.2.2
          rw [x5] at h5
          simp at h5
          exact ⟨h5.1.symm, h5.2.symm⟩
        have DC := Lib.hid (hE.1 A2 c2 w0 wr (HT0.out.and (TB.out.and HT.out)) hk0)
        have HE := Lib.hid hE.2
        have HR := Lib.hid hr2
        unfold xagg at DC
        have hil2 : i + 1 + rest.len = kids.len := by omega
        have hL := Lib.hid hil2
        have hal2 : Hid (allF (.cons k1 nm1 n1 lo1 hi1 kids1 rest) = allV ⟨k1, nm1, n1, lo1, hi1, kids1⟩ ++ allF rest) := rfl
        have hv1 : Hid ((allV ⟨k1, nm1, n1, lo1, hi1, kids1⟩).length + (allF rest).length + L.length = 1 + (allF kids).length) := by
          have h7 := congrArg List.length hal2.out
          rw [List.length_append] at h7
          exact (by omega : (allV ⟨k1, nm1, n1, lo1, hi1, kids1⟩).length + (allF rest).length + L.length = 1 + (allF kids).length)
        have hLs : L.length ≤ 3000000 := by have := hv1.out; omega
        clear hk1 hr1 hf hE hil hr2 hil2 hlen hcc hk0
        go_wp2_with (first
          | (at_builtin; go_must (refine wpList_append_own_at _ rfl (.tmp 18) (.tmp 24) _ rfl wb.heap.size 51 i0 _ 6 72 Try.underlying49 hi0 hz0 hz1 hz2 rfl (by decide) u3 L.length _ rfl O5.out ⟨g5, 0, none⟩ L5.length c5 (L5.flatMap ncells) rfl (flat_length ncells_length L5) (own_news P5.out) (ncells_one L5) hk1 hk2 hs5 ?_; intro v6 w6 ho6 hg6 hn6 ha6; have T6 := Lib.hid (grown_no hg6 T5.out (own_base O5.out)); have O6 := Lib.hid ho6; clear ho6 hg6 hn6 ha6))
          | (go_at_call 55; go_must (refine DC.out.mono ?_; rintro e w5 ⟨L5, v5, rfl, hr5⟩; have heq5 := congrArg List.length hr5.eq; rw [List.length_map] at heq5; have h1 := hv1.out; have hpos : 0 < L5.length := (by rw [heq5]; unfold allV; simp); obtain ⟨g5, c5, rfl, _, _⟩ := hr5.own.form hpos; have T5 := Lib.hid (HT.out.and hr5.tch); have O5 := Lib.hid (hr5.tch.own HO.out (fun _ _ f => f)); have P5 := Lib.hid hr5.own; have R5 := Lib.hid (And.intro hr5.eq hr5.ok); have hs5 := T5.out.size; have hk1 : L.length + L5.length ≤ maxLen := (by unfold maxLen; omega); have hk2 : (L.length + L5.length) * 72 ≤ 140737488355328 := (by omega); clear hr5 heq5))
          | fail)
        have hm6 : Hid ((L ++ L5).map (·.x) ++ allF rest = ⟨k, nm, n, lo, hi, kids⟩ :: allF kids) := by
          have h2 := HM.out
          rw [hal2.out, ← R5.out.1, ← List.append_assoc, ← List.map_append] at h2
          exact h2
        have ho6 : Hid (w6.ownsRow wb.heap.size 51 6 v6 (L ++ L5).length ((L ++ L5).flatMap ncells)) := by
          rw [List.length_append, List.flatMap_append]; exact O6.out
        refine ⟨⟨i + 1, rest, L ++ L5, hL.out, by simp, ho6.out, hm6.out, ?_, HE.out, .inr ⟨g, o, rfl, ?_⟩, T6.out⟩, by have := hL.out; simp [intOf]; omega⟩
        · intro y hy
          rcases List.mem_append.1 hy with hy | hy
          · exact HOKL.out y hy
          · exact R5.out.2 y hy
        · have := HR.out
          rw [show o + (i + 1) * 6 = o + i * 6 + 6 by omega]
          exact this
theorem all_c (k : Int) (nm : ByteArray) (n lo hi : Int) (kids : Fo) (hw : wF kids ≤ 200000000) : AllC k nm n lo hi kids :=
  all_step k nm n lo hi kids hw (each_w _ (fun k nm n lo hi kids hw H => all_step k nm n lo hi kids hw H) kids hw)
end Go.Proofs.Ytmoiehbhhplckaa
