/- The text of faults. Conditions: the chain lies there. -/
import Derived.Test.YtmoiehbhhplckaaDoorProg
import Derived.Test.YtmoiehbhhplckaaDoorM2
import Derived.Tactics
import Derived.Tactics2
import Derived.WalkKit
import Derived.WalkSpells
import Derived.WalkLawsBesides
import Derived.StillTactics
import Derived.StillTailTactics
import Derived.OwnWalk
import Derived.Laws.Pointers
import Derived.Laws.ResultCell
import Derived.Deep.RegionHeld3
import Derived.Deep.RegionWith
import Derived.Deep.RegionLaw
import Derived.Deep.AppendLies
import Derived.Deep.QuietTactic
import Derived.BigQuiet
import Derived.LoopTactic
import Derived.Deep.LoopGhost
import Derived.Deep.DeepCutAuto
import Derived.Deep.DeepFit
import Derived.Maps.AppendAt
import Derived.Below
import Derived.Lib.Hide
import Derived.Handy
import Derived.KernelRfl
import Derived.IntWalk
import Derived.Laws.AppendOwnNone
import Derived.Laws.IdiomStrings
namespace Go.Proofs.YtmoiehbhhplckaaDoor
set_option linter.unusedVariables false
set_option linter.unusedSimpArgs false
open Go.RowKit

open Go.Extern.Stop Go.Stop Go.Extern
def headL (m : Mk) : List UInt8 := (([97, 116, 32] ++ decL m.at_) ++ [58, 32]) ++ errL m.code
def tailL : List Mk → Int → List UInt8
  | [], i => if i = 0 then [] else [59, 32] ++ errL i
  | m :: r, i => [59, 32] ++ (headL m ++ tailL r i)
theorem dec_len {n : Int} (h : Fit n) : (decL n).length ≤ 20 := by
  have h1 := digs_len n.natAbs 18 (by unfold Fit at h; omega)
  unfold decL
  split
  · simp; omega
  · omega
theorem head_len {m : Mk} (h : Fit m.at_) : (headL m).length ≤ 33 := by
  have := dec_len h
  unfold headL
  simp [errL_len]
  omega
theorem tail_len (l : List Mk) (i : Int) (h : ∀ m ∈ l, Fit m.at_) : (tailL l i).length ≤ 35 * l.length + 10 := by
  induction l with
  | nil => unfold tailL; split <;> simp [errL_len]
  | cons m r ih =>
    have h1 := head_len (h m (by simp))
    have h2 := ih (fun x hx => h x (by simp [hx]))
    unfold tailL
    simp
    omega
def SizeOK (l : List UInt8) : Prop := l.length ≤ 100000
/-- Error at a fault, by what inner gives of what it is wrapped around -/
theorem err_c (m : Mk) (t : List UInt8) (g : Nat) (u' : Value) (w : World) (hb : Blk w g 40 #[.int .i64 m.code, .int .i64 m.at_, u']) (hf : Fit m.at_) (ht : t.length ≤ 100000)
    (H : ∀ w', Tch No w w' → Calls Tryd.prog 23 #[u'] w' (Str1 t w')) : Calls Tryd.prog 15 #[.pointer (some ⟨g, 0, none⟩)] w (Str1 (headL m ++ t) w) := by
  have HB := Lib.hid hb
  have HH := Lib.hid H
  have HD := Lib.hid (fun w => decimal_c m.at_ w hf)
  have HL := Lib.hid (dec_len hf)
  have hll := dec_len hf
  have hlt := hb.lt
  obtain ⟨g0, g1, g2⟩ := cells3 hb
  have RD : Hid (∀ w9, Tch No w w9 → w9.cell? ⟨g, 0, none⟩ = some (.int .i64 m.code) ∧ w9.cell? ⟨g, 1, none⟩ = some (.int .i64 m.at_) ∧ w9.cell? ⟨g, 2, none⟩ = some u') := fun w9 t => cells3 (t.blk hb (fun f => f))
  clear hb H hf
  generalize hE : errL m.code = E
  have hEl : E.length = 8 := by subst hE; rfl
  have EC : Hid (∀ w, Calls Tryd.prog 18 #[.int .i64 m.code] w (Str1 E w)) := by subst hE; exact fun w => errno_c m.code w
  have HE := Lib.hid hE
  have hD : Hid (headL m ++ t = ((([97, 116, 32] ++ decL m.at_) ++ [58, 32]) ++ E) ++ t) := by subst hE; rfl
  clear hE
  generalize decL m.at_ = D at *
  have n1 : ¬ (9223372036854775807 < 3 + D.length) := by omega
  have n2 : ¬ (9223372036854775807 < 3 + D.length + 2) := by omega
  have n3 : ¬ (9223372036854775807 < 3 + D.length + 2 + E.length) := by omega
  have n4 : ¬ (9223372036854775807 < 3 + D.length + 2 + E.length + t.length) := by omega
  clear hll hEl ht
  go_enter Tryd.func15, Tryd.ntmps15
  go_wp2_with fail
  go_region_held3 (fun w' => w'.cell? ⟨g, 0, none⟩ = some (.int .i64 m.code) ∧ w'.cell? ⟨g, 1, none⟩ = some (.int .i64 m.at_) ∧ w'.cell? ⟨g, 2, none⟩ = some u') (go_keep)
    (first
      | (go_at_call 23; go_must (refine (HH.out _ T2.out).mono ?_); rintro e w4 ⟨rfl, t3⟩; have y01 := RD.out w4 (T2.out.and t3); obtain ⟨a0, a1, a2⟩ := y01; have T3 := Lib.hid (T2.out.and t3); clear t3)
      | (go_at_call 18; go_must (refine (EC.out _).mono ?_); rintro e w3 ⟨rfl, t2⟩; have y01 := RD.out w3 (T1.out.and t2); obtain ⟨b0, b1, b2⟩ := y01; have T2 := Lib.hid (T1.out.and t2); clear t2)
      | (go_at_call 22; go_must (refine (HD.out _).mono ?_); rintro e w2 ⟨rfl, t1⟩; replace t1 : Tch No w w2 := t1.undrewN; have y01 := RD.out w2 t1; obtain ⟨c0, c1, c2⟩ := y01; have T1 := Lib.hid t1; clear t1))
  all_goals
    go_wp2
    go_returns
    refine ⟨?_, T3.out⟩
    rw [hD.out]
    exact ret_str (by rw [bapp, bapp, bapp, bapp])
theorem Tryd.asnil_38 (w : World) : (Instr.typeAssert .nilIface 27 38 true).run Tryd.prog w = .ok (.tuple #[.pointer none, .bool false]) w := by kernel_rfl
theorem Tryd.asnil_23 (w : World) : (Instr.typeAssert .nilIface 27 23 true).run Tryd.prog w = .ok (.tuple #[.int .i64 0, .bool false]) w := by kernel_rfl
theorem txt_of (m : Mk) (r : List Mk) (i : Int) : tailL (m :: r) i = [59, 32] ++ (headL m ++ tailL r i) := rfl
set_option maxHeartbeats 1600000 in
set_option maxRecDepth 100000 in
theorem inn_c (l : List Mk) (i : Int) (hl : l.length ≤ 1000) (hf : ∀ m ∈ l, Fit m.at_) : ∀ (u : Value) (w : World), Ch w u l i → Calls Tryd.prog 23 #[u] w (Str1 (tailL l i) w) := by
  have a1 := Tryd.as23_23
  have a2 := Tryd.as23_38
  have a3 := Tryd.as38_38
  have a4 := Tryd.asnil_38
  have a5 := Tryd.asnil_23
  induction l with
  | nil =>
    intro u w hc
    rcases hc with ⟨h0, rfl⟩ | ⟨h0, rfl⟩
    · have HL : Hid (tailL [] i = []) := if_pos h0
      clear h0
      go_enter Tryd.func23, Tryd.ntmps23
      go_wp2
      go_ret
      exact ⟨by rw [HL.out]; rfl, Tch.refl _ _⟩
    · have HL : Hid (tailL [] i = [59, 32] ++ errL i) := if_neg h0
      have EC : Hid (∀ w, Calls Tryd.prog 18 #[.int .i64 i] w (Str1 (errL i) w)) := fun w => errno_c i w
      have hE : (errL i).length = 8 := rfl
      have n1 : ¬ (9223372036854775807 < 2 + (errL i).length) := by omega
      generalize errL i = E at *
      clear h0 hE
      go_enter Tryd.func23, Tryd.ntmps23
      go_wp2_with (go_at_call 18; refine (EC.out _).mono ?_; rintro e w3 ⟨rfl, t2⟩; have T2 := Lib.hid t2; clear t2)
      go_ret
      refine ⟨?_, T2.out⟩
      rw [HL.out]
      exact ret_str (by rw [← bapp])
  | cons m r ih =>
    intro u w hc
    obtain ⟨g, u', rfl, hb, hr⟩ := hc
    have hlen := tail_len r i (fun x hx => hf x (by simp [hx]))
    have hlen2 : r.length ≤ 1000 := by simp at hl; omega
    have hhl := head_len (hf m (by simp))
    have EC := Lib.hid (err_c m (tailL r i) g u' w hb (hf m (by simp)) (by omega) (fun w' t => ih hlen2 (fun x hx => hf x (by simp [hx])) u' w' (hr.tch t)))
    have HT := Lib.hid (txt_of m r i)
    have n1 : ¬ (9223372036854775807 < 2 + (headL m ++ tailL r i).length) := by rw [List.length_append]; omega
    clear hb hr ih hf hl hlen hlen2 hhl
    generalize headL m ++ tailL r i = E at *
    go_enter Tryd.func23, Tryd.ntmps23
    go_wp2_with (go_at_call 15; refine (EC.out).mono ?_; rintro e w3 ⟨rfl, t2⟩; have T2 := Lib.hid t2; clear t2)
    go_ret
    refine ⟨?_, T2.out⟩
    rw [HT.out]
    exact ret_str (by rw [← bapp])
/-- Error at a chain of at least one fault -/
theorem errs_c (m : Mk) (r : List Mk) (i : Int) (hl : r.length ≤ 1000) (hf : ∀ x ∈ m :: r, Fit x.at_) (g : Nat) (w : World) (hc : Ch w (.iface 38 (.pointer (some ⟨g, 0, none⟩))) (m :: r) i) :
    Calls Tryd.prog 15 #[.pointer (some ⟨g, 0, none⟩)] w (Str1 (headL m ++ tailL r i) w) := by
  obtain ⟨g', u', e, hb, hr⟩ := hc
  injection e with _ e
  injection e with e
  injection e with e
  injection e with e
  subst e
  have hlen := tail_len r i (fun x hx => hf x (by simp [hx]))
  exact err_c m (tailL r i) g u' w hb (hf m (by simp)) (by omega) (fun w' t => inn_c r i hl (fun x hx => hf x (by simp [hx])) u' w' (hr.tch t))
theorem err_nil (w : World) : Calls Tryd.prog 15 #[.pointer none] w fun e w' => e = .returned (.string ⟨#[]⟩) ∧ w' = w := by
  go_enter Tryd.func15, Tryd.ntmps15
  go_wp2
  go_ret
  exact ⟨rfl, rfl⟩
end Go.Proofs.YtmoiehbhhplckaaDoor
