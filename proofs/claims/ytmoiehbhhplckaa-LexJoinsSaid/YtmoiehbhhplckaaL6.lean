/- The lexer: signs. Conditions: the lexer is one block. -/
import Derived.Test.YtmoiehbhhplckaaProg
import Derived.Test.YtmoiehbhhplckaaL5
import Derived.Tactics
import Derived.Tactics2
import Derived.WalkKit
import Derived.WalkSpells
import Derived.WalkLawsBesides
import Derived.StillTactics
import Derived.StillTailTactics
import Derived.OwnWalk
import Derived.Laws.Pointers
import Derived.Laws.ResultCell
import Derived.Deep.RegionHeld3
import Derived.Deep.RegionWith
import Derived.Deep.RegionLaw
import Derived.Deep.AppendLies
import Derived.Deep.QuietTactic
import Derived.BigQuiet
import Derived.LoopTactic
import Derived.Deep.LoopGhost
import Derived.Deep.DeepCutAuto
import Derived.Deep.DeepFit
import Derived.Maps.AppendAt
import Derived.Below
import Derived.Lib.Hide
import Derived.Handy
import Derived.KernelRfl
import Derived.IntWalk
import Derived.Laws.AppendOwnNone
import Derived.Laws.IdiomStrings
namespace Go.Proofs.Ytmoiehbhhplckaa
set_option linter.unusedVariables false
set_option linter.unusedSimpArgs false
open Go.RowKit

theorem Try.underlying109 : Try.prog.underlying 109 = some (.array 3 9) := by kernel_rfl
def arr3 : Value := Value.agg #[Value.string { data := #[58, 61] }, Value.string { data := #[33, 61] }, Value.string { data := #[60, 61] }]
def sg (k : Nat) : List UInt8 := if k = 0 then [58, 61] else if k = 1 then [33, 61] else [60, 61]
def signsL : List UInt8 := [40, 41, 91, 93, 123, 125, 44, 59, 46, 43, 45, 42, 61, 60]
def pre2 (L : List UInt8) (p k : Nat) : Bool := Lib.hasPrefix (L.drop p) (sg k)
def cAt (L : List UInt8) (p : Nat) : UInt8 := L[p]?.getD 0
def signR (L : List UInt8) (p : Nat) : LexR :=
  if pre2 L p 0 = true then ⟨true, ⟨4, sg 0, 0, p⟩, p + 2⟩ else if pre2 L p 1 = true then ⟨true, ⟨4, sg 1, 0, p⟩, p + 2⟩ else if pre2 L p 2 = true then ⟨true, ⟨4, sg 2, 0, p⟩, p + 2⟩
  else ⟨decide (0 ≤ Lib.indexByte signsL (cAt L p)), ⟨4, (L.drop p).take 1, 0, p⟩, p + 1⟩
set_option maxHeartbeats 1600000 in
set_option maxRecDepth 100000 in
theorem signed_c (g b : Nat) (v : Value) (s : ByteArray) (p : Nat) (l : List Tk) (w : World) (h : Lx w g b s p v l) (hb : b ≤ w.heap.size) (hl : l.length ≤ 1000000) (hp : p < s.size) (hs : s.size ≤ 4096) :
    Calls Try.prog 70 #[.pointer (some ⟨g, 0, none⟩)] w (NextP (signR s.data.toList p) g b v s p l w) := by
  obtain ⟨c0, c1, c2⟩ := cells3 h.blk
  have H := Lib.hid h
  clear h
  have hp1 : (p : Int) < (s.size : Int) := by omega
  have hp2 : (p : Int) ≤ (s.size : Int) := by omega
  have hp3 : (0 : Int) ≤ (p : Int) := by omega
  have PF : Hid (∀ k w, Calls Try.prog 82 #[.string (s.extract p s.size), .string ⟨(sg k).toArray⟩] w fun e w' => e = .returned (.bool (pre2 s.data.toList p k)) ∧ w' = w) := fun k w => by
    have := Try.strings_HasPrefix (s.extract p s.size) ⟨(sg k).toArray⟩ w
    rw [Lib.extract_to_end] at this
    exact this
  have hca : cAt s.data.toList p = s[p] := by unfold cAt; rw [byte_at s p hp]; rfl
  have HIDX : Hid (∀ w, Calls Try.prog 47 #[.string ⟨signsL.toArray⟩, .int .u8 s[p].toNat] w fun e w' => e = .returned (.int .i64 (Lib.indexByte signsL (cAt s.data.toList p))) ∧ w' = w) := fun w => by
    have := Try.strings_IndexByte ⟨signsL.toArray⟩ s[p].toNat w
    rw [hca]
    simpa using this
  clear hca
  have HR : Hid (signR s.data.toList p = if pre2 s.data.toList p 0 = true then ⟨true, ⟨4, sg 0, 0, p⟩, p + 2⟩ else if pre2 s.data.toList p 1 = true then ⟨true, ⟨4, sg 1, 0, p⟩, p + 2⟩ else if pre2 s.data.toList p 2 = true then ⟨true, ⟨4, sg 2, 0, p⟩, p + 2⟩
    else ⟨decide (0 ≤ Lib.indexByte signsL (cAt s.data.toList p)), ⟨4, (s.data.toList.drop p).take 1, 0, p⟩, p + 1⟩) := rfl
  generalize Lib.indexByte signsL (cAt s.data.toList p) = ix at *
  generalize signR s.data.toList p = r at *
  have P0 := Lib.hid (PF.out 0)
  have P1 := Lib.hid (PF.out 1)
  have P2 := Lib.hid (PF.out 2)
  clear PF
  generalize pre2 s.data.toList p 0 = b0 at *
  generalize pre2 s.data.toList p 1 = b1 at *
  generalize pre2 s.data.toList p 2 = b2 at *
  have Q2 : Hid ((p : Int) + 2 = ((p + 2 : Nat) : Int)) := by show _ = _; omega
  have Q1 : Hid ((p : Int) + 1 = ((p + 1 : Nat) : Int)) := by show _ = _; omega
  have hwp2 : IntKind.i64.wrap ((p : Int) + 2) = (p : Int) + 2 := IntWalk.i64_in _ (by omega)
  have hwp1 : IntKind.i64.wrap ((p : Int) + 1) = (p : Int) + 1 := IntWalk.i64_in _ (by omega)
  have hp4 : (p : Int) ≤ (p : Int) + 1 := by omega
  have hp5 : (p : Int) + 1 ≤ (s.size : Int) := by omega
  have hp6 : (0 : Int) ≤ (p : Int) + 1 := by omega
  go_enter Try.func70, Try.ntmps70
  go_wp2_with fail
  go_loopw [6] (fun iv wr => ∃ k : Nat, k ≤ 3 ∧ iv = .int .i64 k ∧ (0 < k → b0 = false) ∧ (1 < k → b1 = false) ∧ (2 < k → b2 = false) ∧ Tch No w wr) (fun iv _ => 3 - (intOf iv).toNat)
  case atStart => exact ⟨0, by omega, rfl, fun h => absurd h (by omega), fun h => absurd h (by omega), fun h => absurd h (by omega), Tch.refl _ _⟩
  case round =>
    obtain ⟨k, hk, rfl, f0, f1, f2, ht⟩ := hrel
    have T := Lib.hid ht
    obtain ⟨x0, x1, x2⟩ := cells3 (H.out.tch ht).blk
    have hbw := Nat.le_trans hb ht.size
    clear ht c0 c1 c2
    have hsg0 : ∀ w, (Instr.index 109 (Value.agg #[Value.string { data := #[58, 61] }, Value.string { data := #[33, 61] }, Value.string { data := #[60, 61] }]) (Value.int IntKind.i64 0)).run Try.prog w = .ok (.string { data := #[58, 61] }) w := fun w => by simp [Instr.index, run_underlying Try.underlying109, asIntOf, go_sem]
    have hsg1 : ∀ w, (Instr.index 109 (Value.agg #[Value.string { data := #[58, 61] }, Value.string { data := #[33, 61] }, Value.string { data := #[60, 61] }]) (Value.int IntKind.i64 1)).run Try.prog w = .ok (.string { data := #[33, 61] }) w := fun w => by simp [Instr.index, run_underlying Try.underlying109, asIntOf, go_sem]
    have hsg2 : ∀ w, (Instr.index 109 (Value.agg #[Value.string { data := #[58, 61] }, Value.string { data := #[33, 61] }, Value.string { data := #[60, 61] }]) (Value.int IntKind.i64 2)).run Try.prog w = .ok (.string { data := #[60, 61] }) w := fun w => by simp [Instr.index, run_underlying Try.underlying109, asIntOf, go_sem]
    rcases (by omega : k = 0 ∨ k = 1 ∨ k = 2 ∨ k = 3) with rfl | rfl | rfl | rfl
    · clear f0 f1 f2
      have E := Lib.hid (And.intro True.intro (And.intro True.intro True.intro))
      cases hb0 : b0
      · have HB := Lib.hid hb0
        clear hb0
        go_wp2_with fail
        go_region_held3 (fun w' => w'.cell? ⟨g, 0, none⟩ = some (.string s) ∧ w'.cell? ⟨g, 1, none⟩ = some (.int .i64 p)) (go_keep)
          (first
            | (go_at_call 82; refine (P0.out _).mono ?_; rintro e w1 ⟨rfl, rfl⟩))
        all_goals
          rw [HB.out]
          go_wp2_with fail
          exact ⟨⟨1, by omega, by simp, fun h => (by first | exact HB.out | trivial), fun h => (by first | exact absurd h (by omega) | trivial), fun h => (by first | exact absurd h (by omega) | trivial), T.out.drewN 1⟩, by simp [intOf]⟩
      · have HB := Lib.hid hb0
        clear hb0
        have HRT : Hid (r = ⟨true, ⟨4, sg 0, 0, p⟩, p + 2⟩) := by show _ = _; rw [HR.out, HB.out]; rfl
        go_wp2_with fail
        go_region_held3 (fun w' => w'.cell? ⟨g, 0, none⟩ = some (.string s) ∧ w'.cell? ⟨g, 1, none⟩ = some (.int .i64 p)) (go_keep)
          (first
            | (go_at_call 82; refine (P0.out _).mono ?_; rintro e w1 ⟨rfl, rfl⟩))
        all_goals
          rw [HB.out]
          go_wp2_with fail
          rw [Q2.out]
          refine (lput_s g b v s p (p + 2) l 4 0 0 ⟨(sg 0).toArray⟩ _ (H.out.tch (T.out.drewN 1)) (Nat.le_trans hb T.out.size) hl).mono ?_
          rintro e w2 ⟨v2, rfl, a2⟩
          have A2 := Lib.hid (a2.no (T.out.drewN 1))
          clear a2
          go_wp2
          go_returns
          exact ⟨fun _ => ⟨v2, rfl, by rw [HRT.out]; exact A2.out⟩, fun h => (by rw [HRT.out] at h; cases h)⟩
    · skip
      have e0 := f0 (by omega)
      have E := Lib.hid (And.intro True.intro (And.intro e0 True.intro))
      clear e0 f0 f1 f2
      cases hb1 : b1
      · have HB := Lib.hid hb1
        clear hb1
        go_wp2_with fail
        go_region_held3 (fun w' => w'.cell? ⟨g, 0, none⟩ = some (.string s) ∧ w'.cell? ⟨g, 1, none⟩ = some (.int .i64 p)) (go_keep)
          (first
            | (go_at_call 82; refine (P1.out _).mono ?_; rintro e w1 ⟨rfl, rfl⟩))
        all_goals
          rw [HB.out]
          go_wp2_with fail
          exact ⟨⟨2, by omega, by simp, fun h => (by first | exact E.out.2.1 | trivial), fun h => (by first | exact HB.out | trivial), fun h => (by first | exact absurd h (by omega) | trivial), T.out.drewN 1⟩, by simp [intOf]⟩
      · have HB := Lib.hid hb1
        clear hb1
        have HRT : Hid (r = ⟨true, ⟨4, sg 1, 0, p⟩, p + 2⟩) := by show _ = _; rw [HR.out, E.out.2.1, HB.out]; rfl
        go_wp2_with fail
        go_region_held3 (fun w' => w'.cell? ⟨g, 0, none⟩ = some (.string s) ∧ w'.cell? ⟨g, 1, none⟩ = some (.int .i64 p)) (go_keep)
          (first
            | (go_at_call 82; refine (P1.out _).mono ?_; rintro e w1 ⟨rfl, rfl⟩))
        all_goals
          rw [HB.out]
          go_wp2_with fail
          rw [Q2.out]
          refine (lput_s g b v s p (p + 2) l 4 0 0 ⟨(sg 1).toArray⟩ _ (H.out.tch (T.out.drewN 1)) (Nat.le_trans hb T.out.size) hl).mono ?_
          rintro e w2 ⟨v2, rfl, a2⟩
          have A2 := Lib.hid (a2.no (T.out.drewN 1))
          clear a2
          go_wp2
          go_returns
          exact ⟨fun _ => ⟨v2, rfl, by rw [HRT.out]; exact A2.out⟩, fun h => (by rw [HRT.out] at h; cases h)⟩
    · skip
      have e0 := f0 (by omega)
      have e1 := f1 (by omega)
      have E := Lib.hid (And.intro True.intro (And.intro e0 e1))
      clear e0 e1 f0 f1 f2
      cases hb2 : b2
      · have HB := Lib.hid hb2
        clear hb2
        go_wp2_with fail
        go_region_held3 (fun w' => w'.cell? ⟨g, 0, none⟩ = some (.string s) ∧ w'.cell? ⟨g, 1, none⟩ = some (.int .i64 p)) (go_keep)
          (first
            | (go_at_call 82; refine (P2.out _).mono ?_; rintro e w1 ⟨rfl, rfl⟩))
        all_goals
          rw [HB.out]
          go_wp2_with fail
          exact ⟨⟨3, by omega, by simp, fun h => (by first | exact E.out.2.1 | trivial), fun h => (by first | exact E.out.2.2 | trivial), fun h => (by first | exact HB.out | trivial), T.out.drewN 1⟩, by simp [intOf]⟩
      · have HB := Lib.hid hb2
        clear hb2
        have HRT : Hid (r = ⟨true, ⟨4, sg 2, 0, p⟩, p + 2⟩) := by show _ = _; rw [HR.out, E.out.2.1, E.out.2.2, HB.out]; rfl
        go_wp2_with fail
        go_region_held3 (fun w' => w'.cell? ⟨g, 0, none⟩ = some (.string s) ∧ w'.cell? ⟨g, 1, none⟩ = some (.int .i64 p)) (go_keep)
          (first
            | (go_at_call 82; refine (P2.out _).mono ?_; rintro e w1 ⟨rfl, rfl⟩))
        all_goals
          rw [HB.out]
          go_wp2_with fail
          rw [Q2.out]
          refine (lput_s g b v s p (p + 2) l 4 0 0 ⟨(sg 2).toArray⟩ _ (H.out.tch (T.out.drewN 1)) (Nat.le_trans hb T.out.size) hl).mono ?_
          rintro e w2 ⟨v2, rfl, a2⟩
          have A2 := Lib.hid (a2.no (T.out.drewN 1))
          clear a2
          go_wp2
          go_returns
          exact ⟨fun _ => ⟨v2, rfl, by rw [HRT.out]; exact A2.out⟩, fun h => (by rw [HRT.out] at h; cases h)⟩
    · have e0 := f0 (by omega)
      have e1 := f1 (by omega)
      have e2 := f2 (by omega)
      have HRL : Hid (r = ⟨decide (0 ≤ ix), ⟨4, (s.data.toList.drop p).take 1, 0, p⟩, p + 1⟩) := by show _ = _; rw [HR.out, e0, e1, e2]; rfl
      clear e0 e1 e2 f0 f1 f2
      rcases (by omega : ix < 0 ∨ 0 ≤ ix) with hx | hx
      · have HOK : Hid (r.ok = false) := by show _ = _; rw [HRL.out]; simp; omega
        go_wp2_with fail
        go_region_held3 (fun w' => w'.cell? ⟨g, 0, none⟩ = some (.string s) ∧ w'.cell? ⟨g, 1, none⟩ = some (.int .i64 p)) (go_keep)
          (first
            | (go_at_call 47; refine (HIDX.out _).mono ?_; rintro e w1 ⟨rfl, rfl⟩))
        all_goals
          go_wp2_with fail
          refine (new_c _ _ _).mono ?_
          rintro e w3 ⟨u, rfl, hu, t3⟩
          have HU := Lib.hid (And.intro hu ((T.out.drewN 1).and t3))
          clear hu t3
          go_wp2
          go_returns
          exact ⟨fun h => (by rw [HOK.out] at h; cases h), fun _ => ⟨u, v, rfl, HU.out.1, lv_refl H.out HU.out.2⟩⟩
      · have HOK : Hid (r.ok = true) := by show _ = _; rw [HRL.out]; simp; omega
        have HEX : Hid ((s.extract p (p + 1)).data.toList = (s.data.toList.drop p).take 1) := by show _ = _; rw [ext_eq]; congr 1; omega
        go_wp2_with fail
        go_region_held3 (fun w' => w'.cell? ⟨g, 0, none⟩ = some (.string s) ∧ w'.cell? ⟨g, 1, none⟩ = some (.int .i64 p)) (go_keep)
          (first
            | (go_at_call 47; refine (HIDX.out _).mono ?_; rintro e w1 ⟨rfl, rfl⟩))
        all_goals
          go_wp2_with fail
          have TB : Hid (Tch No w wr.drew) := T.out.drewN 1
          have y012 : wr.drew.cell? ⟨g, 0, none⟩ = some (.string s) ∧ wr.drew.cell? ⟨g, 1, none⟩ = some (.int .i64 p) := ⟨x0, x1⟩
          obtain ⟨y0, y1⟩ := y012
          clear x0 x1 x2 T
          generalize wr.drew = wB at *
          go_still_tail 21, (by kernel_rfl)
          go_wp2_with fail
          rw [Q1.out]
          refine (lput_s g b v s p (p + 1) l 4 0 0 (s.extract p (p + 1)) _ (H.out.tch (TB.out.drewN 1)) (Nat.le_trans hb TB.out.size) hl).mono ?_
          rintro e w2 ⟨v2, rfl, a2⟩
          have A2 := Lib.hid (a2.no (TB.out.drewN 1))
          clear a2
          go_wp2
          go_returns
          exact ⟨fun _ => ⟨v2, rfl, by rw [HRL.out, ← HEX.out]; exact A2.out⟩, fun h => (by rw [HOK.out] at h; cases h)⟩
end Go.Proofs.Ytmoiehbhhplckaa
