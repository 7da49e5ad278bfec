/- errors.Is. Conditions: the chain lies there. -/
import Derived.Test.YtmoiehbhhplckaaDoorProg
import Derived.Test.YtmoiehbhhplckaaDoorG5
import Derived.Tactics
import Derived.Tactics2
import Derived.WalkKit
import Derived.WalkSpells
import Derived.WalkLawsBesides
import Derived.StillTactics
import Derived.StillTailTactics
import Derived.OwnWalk
import Derived.Laws.Pointers
import Derived.Laws.ResultCell
import Derived.Deep.RegionHeld3
import Derived.Deep.RegionWith
import Derived.Deep.RegionLaw
import Derived.Deep.AppendLies
import Derived.Deep.QuietTactic
import Derived.BigQuiet
import Derived.LoopTactic
import Derived.Deep.LoopGhost
import Derived.Deep.DeepCutAuto
import Derived.Deep.DeepFit
import Derived.Maps.AppendAt
import Derived.Below
import Derived.Lib.Hide
import Derived.Handy
import Derived.KernelRfl
import Derived.IntWalk
import Derived.Laws.AppendOwnNone
import Derived.Laws.IdiomStrings
namespace Go.Proofs.YtmoiehbhhplckaaDoor
set_option linter.unusedVariables false
set_option linter.unusedSimpArgs false
open Go.RowKit

open Go.Extern.Stop Go.Stop Go.Extern
theorem Tryd.isComparable (w : World) : ((Extern.ReflectliteType.method fun t => do Rtype.noPackHeld "Comparable" t; pure (.bool (← typeInfo t).comparable)) #[.agg #[.pointer (some ⟨1, 23, none⟩)]]).run Tryd.prog w = .ok (.bool true) w := by kernel_rfl
theorem Tryd.methodComparable (v : Value) (w : World) : (Go.method 188 68 v "Comparable").run Tryd.prog w = .ok (57, v) w := by kernel_rfl
theorem Tryd.eq23_23 (a b : Int) (w : World) : (binOp .eql 27 (.iface 23 (.int .i64 a)) (.iface 23 (.int .i64 b))).run Tryd.prog w = .ok (.bool (decide (a = b))) w := by
  have hc : (Tryd.prog.info? 23).map (·.comparable) = some true := by kernel_rfl
  obtain ⟨i, hi, hcmp⟩ := Option.map_eq_some_iff.1 hc
  have h : ∀ d : Nat, (Op.equalIn (d + 2) 27 (.iface 23 (.int .i64 a)) (.iface 23 (.int .i64 b))).run Tryd.prog w = .ok (decide (a = b)) w := fun d => by
    simp [Op.equalIn, run_underlying Tryd.underlying27, run_underlying Tryd.underlying23, typeInfo, hi, hcmp]
    by_cases hab : a = b <;> simp [hab]
  simp only [binOp]
  simp [Op.equal, Op.maxDepth, h 9998]
def hasV (l : List Mk) (inner k : Int) : Bool := l.any (fun m => decide (m.code = k)) || (decide (inner = k) && decide (inner ≠ 0))
theorem hasV_nil (inner k : Int) (h : inner ≠ 0) : hasV [] inner k = decide (inner = k) := by simp [hasV, h]
theorem hasV_no (k : Int) : hasV [] 0 k = false := by simp [hasV]
theorem hasV_cons (m : Mk) (l : List Mk) (inner k : Int) : hasV (m :: l) inner k = (decide (m.code = k) || hasV l inner k) := by simp [hasV, Bool.or_assoc]
theorem is_nil (k : Int) (w : World) : Calls Tryd.prog 21 #[.nilIface, .iface 23 (.int .i64 k)] w fun e w' => e = .returned (.bool false) ∧ w' = w := by
  have hn := run_eql_iface_nil_left (P := Tryd.prog) w 23 (.int .i64 k) Tryd.underlying27
  go_enter Tryd.func21, Tryd.ntmps21
  go_wp2
  go_ret
  exact ⟨rfl, rfl⟩

set_option maxHeartbeats 4000000 in
theorem isl_c (k : Int) (l : List Mk) (inner : Int) (w : World) (hl0 : l.length ≤ 1000) (u : Value) (h : Ch w u l inner) (hne : l ≠ [] ∨ inner ≠ 0) :
    Calls Tryd.prog 29 #[u, .iface 23 (.int .i64 k), .bool true] w fun e w' => e = .returned (.bool (hasV l inner k)) ∧ w' = w := by
  have H := Lib.hid h
  have HN := Lib.hid hne
  clear h hne
  have s1 := Tryd.has38_79
  have s2 := Tryd.no23_79
  have s3 := Tryd.no23_75
  have s4 := Tryd.no23_76
  have s5 := Tryd.has38_75
  have mS := Tryd.methodIs
  have mU := Tryd.methodUnwrap
  have eq1 := Tryd.eq23_23
  have eq2 : ∀ (p : Value) (n : Int) (w : World), (binOp .eql 27 (.iface 38 p) (.iface 23 (.int .i64 n))).run Tryd.prog w = .ok (.bool false) w := fun p n w => run_eql_iface_types (P := Tryd.prog) 38 23 p (.int .i64 n) Tryd.underlying27 (by decide) w
  have hv1 : Hid (∀ inner, inner ≠ 0 → hasV [] inner k = decide (inner = k)) := fun i h => hasV_nil i k h
  have hv2 : Hid (hasV [] 0 k = false) := hasV_no k
  have hv3 : Hid (∀ m l, hasV (m :: l) inner k = (decide (m.code = k) || hasV l inner k)) := fun m l => hasV_cons m l inner k
  go_enter Tryd.func29, Tryd.ntmps29
  go_wp2_with fail
  go_loopg [0] (l.length) (fun n uv wr => ∃ (r : List Mk), r.length = n ∧ Ch w uv r inner ∧ (r ≠ [] ∨ inner ≠ 0) ∧ hasV l inner k = hasV r inner k ∧ wr = w)
  case atStart => exact ⟨l, rfl, H.out, HN.out, rfl, rfl⟩
  case round =>
    obtain ⟨r, rfl, hc, hn, he, rfl⟩ := hrel
    have HE := Lib.hid he
    clear he
    cases r with
    | nil =>
      have hi0 : inner ≠ 0 := by rcases hn with h | h; exact absurd rfl h; exact h
      rcases hc with ⟨h0, rfl⟩ | ⟨h0, rfl⟩
      · exact absurd h0 hi0
      have HV := Lib.hid (hv1.out inner hi0)
      have HI := Lib.hid hi0
      clear hi0 h0 hn
      by_cases hik : inner = k
      · have hik2 : decide (inner = k) = true := by simp [hik]
        have HIK := Lib.hid hik
        clear hik
        go_wp2
        go_ret
        refine ⟨?_, rfl⟩
        rw [HE.out, HV.out, hik2]; rfl
      · have hik2 : decide (inner = k) = false := by simp [hik]
        have HIK := Lib.hid hik
        clear hik
        go_wp2
        go_ret
        refine ⟨?_, rfl⟩
        rw [HE.out, HV.out, hik2]; rfl
    | cons m r =>
      obtain ⟨g, u', rfl, hb, hr⟩ := hc
      have FI := fis_c g m.code m.at_ k u' wr hb
      have FU := funw_c g m.code m.at_ u' wr hb
      have HV := Lib.hid (hv3.out m r)
      clear hn
      by_cases hik : m.code = k
      · have hik2 : decide (m.code = k) = true := by simp [hik]
        rw [hik2] at FI
        have HIK := Lib.hid hik
        clear hik
        go_wp2_with (go_at_call 51; refine FI.mono ?_; rintro e w1 ⟨rfl, rfl⟩)
        go_ret
        refine ⟨?_, rfl⟩
        rw [HE.out, HV.out, hik2]; rfl
      · have hik2 : decide (m.code = k) = false := by simp [hik]
        rw [hik2] at FI
        have HIK := Lib.hid hik
        clear hik
        rw [hik2, Bool.false_or] at HV
        cases r with
        | nil =>
          rcases hr with ⟨h0, rfl⟩ | ⟨h0, rfl⟩
          · have HI := Lib.hid h0
            clear h0
            go_wp2_with first | (go_at_call 51; refine FI.mono ?_; rintro e w1 ⟨rfl, rfl⟩) | (go_at_call 16; refine FU.mono ?_; rintro e w1 ⟨rfl, rfl⟩)
            go_ret
            refine ⟨?_, rfl⟩
            rw [HE.out, HV.out, HI.out, hv2.out]; rfl
          · have HI := Lib.hid h0
            clear h0
            go_wp2_with first | (go_at_call 51; refine FI.mono ?_; rintro e w1 ⟨rfl, rfl⟩) | (go_at_call 16; refine FU.mono ?_; rintro e w1 ⟨rfl, rfl⟩)
            go_roundg 0
            case measure => simp
            case rel => exact ⟨[], rfl, .inr ⟨HI.out, rfl⟩, .inr HI.out, HE.out.trans HV.out, rfl⟩
        | cons m2 r2 =>
          obtain ⟨g2, u2, rfl, hb2, hr2⟩ := hr
          go_wp2_with first | (go_at_call 51; refine FI.mono ?_; rintro e w1 ⟨rfl, rfl⟩) | (go_at_call 16; refine FU.mono ?_; rintro e w1 ⟨rfl, rfl⟩)
          go_roundg (r2.length + 1)
          case measure => simp
          case rel => exact ⟨m2 :: r2, rfl, ⟨g2, u2, rfl, hb2, hr2⟩, .inl (by simp), HE.out.trans HV.out, rfl⟩
set_option maxHeartbeats 4000000 in
theorem is_c (k : Int) (l : List Mk) (inner : Int) (w : World) (hl0 : l.length ≤ 1000) (u : Value) (h : Ch w u l inner) :
    Calls Tryd.prog 21 #[u, .iface 23 (.int .i64 k)] w fun e w' => e = .returned (.bool (hasV l inner k)) ∧ w' = w := by
  have h28 := @run_callFunc_extern Tryd.prog 28 _ ReflectliteType.typeOf Tryd.func28 (by kernel_rfl) (by kernel_rfl) (by kernel_rfl) (by kernel_rfl)
  have h57 := @run_callFunc_extern Tryd.prog 57 _ (Extern.ReflectliteType.method fun t => do Rtype.noPackHeld "Comparable" t; pure (.bool (← typeInfo t).comparable)) Tryd.func57 (by kernel_rfl) (by kernel_rfl) (by kernel_rfl) (by kernel_rfl)
  have tT := Tryd.typeOf23
  have hC : ∀ w, (callFunc 57 #[.agg #[.pointer (some ⟨1, 23, none⟩)]]).run Tryd.prog w = .ok (.value (.bool true)) w := fun w => by rw [h57, Tryd.isComparable]; rfl
  clear h57
  have mR := Tryd.methodComparable
  have key : (l ≠ [] ∨ inner ≠ 0) → (∃ t v, u = .iface t v) → Calls Tryd.prog 21 #[u, .iface 23 (.int .i64 k)] w fun e w' => e = .returned (.bool (hasV l inner k)) ∧ w' = w := by
    intro hne ⟨t, v, hu⟩
    have A := isl_c k l inner w hl0 u h hne
    clear hne h
    subst hu
    go_enter Tryd.func21, Tryd.ntmps21
    go_wp2_with (go_at_call 29; refine A.mono ?_; rintro e w1 ⟨rfl, rfl⟩)
    go_ret
    exact ⟨rfl, rfl⟩
  cases l with
  | nil =>
    rcases h with ⟨h0, rfl⟩ | ⟨h0, rfl⟩
    · subst h0
      rw [hasV_no]
      exact is_nil k w
    · exact key (.inr h0) ⟨_, _, rfl⟩
  | cons m r =>
    obtain ⟨g, u', rfl, hb, hr⟩ := h
    exact key (.inl (by simp)) ⟨_, _, rfl⟩
theorem has_c (k : Int) (l : List Mk) (inner : Int) (w : World) (hl0 : l.length ≤ 1000) (u : Value) (h : Ch w u l inner) :
    Calls Tryd.prog 13 #[u, .int .i64 k] w (RetB (hasV l inner k) w) := by
  have A := is_c k l inner w hl0 u h
  go_enter Tryd.func13, Tryd.ntmps13
  go_wp2_with (go_at_call 21; refine A.mono ?_; rintro e w1 ⟨rfl, rfl⟩)
  go_ret
  exact ⟨rfl, Tch.refl _ _⟩
end Go.Proofs.YtmoiehbhhplckaaDoor
