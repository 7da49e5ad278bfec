/- alive. Conditions: none. -/
import Derived.Test.YtmoiehbhhplckaaProg
import Derived.Test.YtmoiehbhhplckaaV6
import Derived.Tactics
import Derived.Tactics2
import Derived.WalkKit
import Derived.WalkSpells
import Derived.WalkLawsBesides
import Derived.StillTactics
import Derived.StillTailTactics
import Derived.OwnWalk
import Derived.Laws.Pointers
import Derived.Laws.ResultCell
import Derived.Deep.RegionHeld3
import Derived.Deep.RegionWith
import Derived.Deep.RegionLaw
import Derived.Deep.AppendLies
import Derived.Deep.QuietTactic
import Derived.BigQuiet
import Derived.LoopTactic
import Derived.Deep.LoopGhost
import Derived.Deep.DeepCutAuto
import Derived.Deep.DeepFit
import Derived.Maps.AppendAt
import Derived.Below
import Derived.Lib.Hide
import Derived.Handy
import Derived.KernelRfl
import Derived.IntWalk
import Derived.Laws.AppendOwnNone
import Derived.Laws.IdiomStrings
namespace Go.Proofs.Ytmoiehbhhplckaa
set_option linter.unusedVariables false
set_option linter.unusedSimpArgs false
open Go.RowKit

theorem value_c (n : Int) (s : ByteArray) (A : Option Addr) (m c : Nat) (w : World) (hn : Fit n) : Calls Try.prog 51 #[.agg #[.int .i64 1, .int .i64 n, .string s, .slice A m c]] w (Str1 (decL n) w) := by
  have DC := Lib.hid (fun w => decimal_c n w hn)
  go_enter Try.func51, Try.ntmps51
  go_wp2_with (go_at_call 22; refine (DC.out _).mono ?_; rintro e w3 ⟨rfl, t2⟩; have T2 := Lib.hid t2; clear t2)
  go_returns
  exact ⟨rfl, ((Tch.refl No w).alloc _).and T2.out⟩
theorem decs : decL 3 = [51] ∧ decL 0 = [48] ∧ decL (-4) = [45, 52] ∧ decL 1 = [49] := by
  refine ⟨?_, ?_, ?_, ?_⟩
  · unfold decL; rw [if_neg (by omega)]; exact digs_lt (by decide)
  · unfold decL; rw [if_neg (by omega)]; exact digs_lt (by decide)
  · unfold decL; rw [if_pos (by omega)]
    show 45 :: digs 4 = _
    rw [digs_lt (by decide)]; rfl
  · unfold decL; rw [if_neg (by omega)]; exact digs_lt (by decide)
def v31 : Vd := ⟨3, 1, 0⟩
theorem ver31 : verL v31 = [51, 32, 103, 114, 97, 110, 116] := by
  show (decL 3 ++ [32]) ++ wordL 1 ++ codeL 0 = _
  rw [decs.1]; rfl
theorem rec31 : recL 0 [v31] = [48, 59, 32, 51, 32, 103, 114, 97, 110, 116] := by
  show decL 0 ++ ((sepV ++ verL v31) ++ []) = _
  rw [decs.2.1, ver31]; rfl
theorem fit31 : VFit v31 := by unfold VFit Fit v31; simp only; omega
def yesE : Ev := ⟨2, ByteArray.empty, 1, 0, 0, none, 0, 0⟩
def r31 (A : Option Addr) : Rv := ⟨⟨#[114]⟩, yesE, yesE, none, 0, 0, none, 0, 0, none, 0, 0, A, 1, 1⟩
def YesT (w : World) (e : Ending) (w' : World) : Prop := e = .returned (.bool true) ∧ Tch No w w'
theorem rd_one (w : World) (v : Vd) : Rd (w.alloc (.cells (vcells v).toArray 45)) No 3 (some ⟨w.heap.size, 0, none⟩) 1 ([v].flatMap vcells) := by
  refine ⟨rfl, fun _ => ⟨w.heap.size, 0, rfl, fun f => f, by simp, fun j u hu => ?_⟩⟩
  rw [Nat.zero_add, (Blk.new w 45 (vcells v).toArray).cell j]
  simpa using hu
theorem right31 (A : Option Addr) (w : World) : Calls Try.prog 39 #[ragg (r31 A)] w fun e w' => (∃ B c, e = .returned (.slice B 2 c)) ∧ Hid (Tch No w w') := by
  have h := right_c (r31 A) [] [] w (by unfold RFit r31; simp) (.inl ⟨⟨rfl, rfl⟩, rfl⟩) (.inl ⟨⟨rfl, rfl⟩, rfl⟩)
  refine h.mono ?_
  rintro e w' ⟨v, rfl, ho, ht⟩
  obtain ⟨B, c, rfl⟩ := own_slice ho
  refine ⟨⟨B, c, ?_⟩, ht⟩
  have : (rightL (r31 A) [] []).length = 2 := by
    unfold rightL r31 cntL
    simp
  rw [this]
set_option maxHeartbeats 4000000 in
set_option maxRecDepth 100000 in
theorem oalive_c (w : World) : Calls Try.prog 30 #[] w (YesT w) := by
  have V1 := Lib.hid (fun w => overdict_c v31 w fit31)
  rw [ver31] at V1
  have Vv : Hid (∀ w, Calls Try.prog 51 #[.agg #[.int .i64 1, .int .i64 (-4), .string ⟨#[]⟩, .slice none 0 0]] w (Str1 [45, 52] w)) := fun w => by
    have := value_c (-4) ⟨#[]⟩ none 0 0 w (by unfold Fit; omega)
    rw [decs.2.2.1] at this
    exact this
  go_enter Try.func30, Try.ntmps30
  go_wp2_with fail
  generalize hw2 : (w.alloc _).alloc _ = w2
  have T2 : Hid (Tch No w w2) := by subst hw2; exact ((Tch.refl No w).alloc _).alloc _
  have B1 : Hid (Blk w2 w.heap.size 45 (vcells v31).toArray) := by subst hw2; exact (Blk.new w 45 _).alloc _
  have B2 : Hid (Blk w2 (w.heap.size + 1) 51 (ecells yesE).toArray) := by
    subst hw2
    have := Blk.new (w.alloc (.cells (vcells v31).toArray 45)) 51 (ecells yesE).toArray
    rw [show (w.alloc (.cells (vcells v31).toArray 45)).heap.size = w.heap.size + 1 by simp] at this
    exact this
  clear hw2
  refine (V1.out w2).mono ?_
  rintro e w3 ⟨rfl, t3⟩
  have T3 := Lib.hid (T2.out.and t3)
  obtain ⟨a0, a1, a2⟩ := cells3 (t3.blk B1.out (fun f => f))
  have B2a := Lib.hid (t3.blk B2.out (fun f => f))
  have hs3 := B2a.out.lt
  clear t3
  go_wp2_with fail
  have RC := record_c 0 (some ⟨w3.heap.size, 0, none⟩) 1 1 [v31] (w3.alloc (.cells (vcells v31).toArray 45)) (rd_one w3 v31) (by decide) (by unfold Fit; omega) (by intro v hv; simp at hv; subst hv; exact fit31)
  rw [rec31] at RC
  refine RC.mono ?_
  rintro e w4 ⟨rfl, t4⟩
  have T4 := Lib.hid ((T3.out.alloc _).and t4)
  have B2b := Lib.hid (t4.blk (B2a.out.alloc _) (fun f => f))
  clear t4 a0 a1 a2
  go_wp2_with fail
  refine (Vv.out w4).mono ?_
  rintro e w5 ⟨rfl, t5⟩
  have T5 := Lib.hid (T4.out.and t5)
  obtain ⟨b0, b1, b2, b3, b4, b5⟩ := cells6 (t5.blk B2b.out (fun f => f))
  clear t5
  go_wp2_with fail
  refine (right31 (some ⟨w5.heap.size, 0, none⟩) _).mono ?_
  rintro e w6 ⟨⟨B, c, rfl⟩, T6⟩
  go_wp2
  go_returns
  exact ⟨rfl, (T5.out.alloc _).and T6.out⟩
end Go.Proofs.Ytmoiehbhhplckaa
