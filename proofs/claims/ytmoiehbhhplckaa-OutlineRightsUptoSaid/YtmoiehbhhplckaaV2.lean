/- verdict of the law. Conditions: the numbers fit. -/
import Derived.Test.YtmoiehbhhplckaaProg
import Derived.Test.YtmoiehbhhplckaaV1
import Derived.Tactics
import Derived.Tactics2
import Derived.WalkKit
import Derived.WalkSpells
import Derived.WalkLawsBesides
import Derived.StillTactics
import Derived.StillTailTactics
import Derived.OwnWalk
import Derived.Laws.Pointers
import Derived.Laws.ResultCell
import Derived.Deep.RegionHeld3
import Derived.Deep.RegionWith
import Derived.Deep.RegionLaw
import Derived.Deep.AppendLies
import Derived.Deep.QuietTactic
import Derived.BigQuiet
import Derived.LoopTactic
import Derived.Deep.LoopGhost
import Derived.Deep.DeepCutAuto
import Derived.Deep.DeepFit
import Derived.Maps.AppendAt
import Derived.Below
import Derived.Lib.Hide
import Derived.Handy
import Derived.KernelRfl
import Derived.IntWalk
import Derived.Laws.AppendOwnNone
import Derived.Laws.IdiomStrings
namespace Go.Proofs.Ytmoiehbhhplckaa
set_option linter.unusedVariables false
set_option linter.unusedSimpArgs false
open Go.RowKit

def rwords : Array Value := #[.string ⟨#[]⟩, .string ⟨#[103, 114, 97, 110, 116]⟩, .string ⟨#[100, 101, 110, 121]⟩, .string ⟨#[103, 111]⟩, .string ⟨#[114, 101, 118, 111, 107, 101]⟩, .string ⟨#[101, 110, 100]⟩]
theorem rvd_keep {id kind code : Int} {w w1 w2 : World} (h1 : Blk w1 w.heap.size 45 #[.int .i64 id, .int .i64 kind, .int .i64 code]) (h2 : Blk w1 (w.heap.size + 1) 85 rwords) (t : Tch No w1 w2) :
    Blk w2 w.heap.size 45 #[.int .i64 id, .int .i64 kind, .int .i64 code] ∧ Blk w2 (w.heap.size + 1) 85 rwords := ⟨t.blk h1 (fun f => f), t.blk h2 (fun f => f)⟩
theorem rwords_cells {w : World} {g : Nat} (h : Blk w g 85 rwords) : w.cell? ⟨g, 0, none⟩ = some (.string ⟨#[]⟩) ∧ w.cell? ⟨g, 1, none⟩ = some (.string ⟨#[103, 114, 97, 110, 116]⟩) ∧ w.cell? ⟨g, 2, none⟩ = some (.string ⟨#[100, 101, 110, 121]⟩) ∧ w.cell? ⟨g, 3, none⟩ = some (.string ⟨#[103, 111]⟩) ∧ w.cell? ⟨g, 4, none⟩ = some (.string ⟨#[114, 101, 118, 111, 107, 101]⟩) ∧ w.cell? ⟨g, 5, none⟩ = some (.string ⟨#[101, 110, 100]⟩) := cells6 h
set_option maxHeartbeats 4000000 in
set_option maxRecDepth 100000 in
theorem rverdict_c (v : Vd) (w : World) (hv : VFit v) : Calls Try.prog 31 #[vagg v] w (Str1 (verL v) w) := by
  obtain ⟨h1, h2, h3⟩ := hv
  have d1 := Lib.hid (fun w => rdecimal_c v.id w h1)
  have d2 := Lib.hid (fun w => rdecimal_c v.kind w h2)
  have d3 := Lib.hid (fun w => rdecimal_c v.code w h3)
  have l1 := dec_len h1
  have l2 := dec_len h2
  have l3 := dec_len h3
  obtain ⟨id, kind, code⟩ := v
  unfold vagg
  simp only at *
  have HV : Hid (verL ⟨id, kind, code⟩ = (decL id ++ [32]) ++ wordL kind ++ codeL code) := rfl
  have hw0 : Hid (kind ≠ 1 → kind ≠ 2 → kind ≠ 3 → kind ≠ 4 → kind ≠ 5 → wordL kind = decL kind) := fun a b c d e => by unfold wordL; rw [if_neg a, if_neg b, if_neg c, if_neg d, if_neg e]
  have hc0 : Hid (code ≠ 0 → codeL code = [32] ++ decL code) := fun a => if_neg a
  generalize decL id = I at *
  generalize decL kind = K at *
  generalize decL code = C at *
  generalize hw1 : (w.alloc (.cells #[.int .i64 id, .int .i64 kind, .int .i64 code] 45)).alloc (.cells rwords 85) = w1
  have b1 : Blk w1 w.heap.size 45 #[.int .i64 id, .int .i64 kind, .int .i64 code] := by subst hw1; exact (Blk.new w 45 _).alloc _
  have b2 : Blk w1 (w.heap.size + 1) 85 rwords := by
    subst hw1
    have := Blk.new (w.alloc (.cells #[.int .i64 id, .int .i64 kind, .int .i64 code] 45)) 85 rwords
    simpa using this
  have tw : Hid (Tch No w w1) := by subst hw1; exact ((Tch.refl No w).alloc _).alloc _
  have HB := Lib.hid (And.intro b1 b2)
  clear b1 b2
  unfold rwords at hw1
  have n1 : ¬ (9223372036854775807 < I.length + 1) := by omega
  have n2 : ¬ (9223372036854775807 < I.length + 1 + K.length) := by omega
  have n3 : ¬ (9223372036854775807 < 1 + C.length) := by omega
  have hkk : (kind = 1 ∨ kind = 2 ∨ kind = 3 ∨ kind = 4 ∨ kind = 5) ∨ (kind < 1 ∨ 5 < kind) := by omega
  clear h1 h2 h3
  rcases hkk with (k1 | k1 | k1 | k1 | k1) | (k1 | k1)
  all_goals
    try subst k1
    rcases (by omega : code = 0 ∨ code ≠ 0) with c0 | c0
    all_goals
      try subst c0
      obtain ⟨z0, z1, z2⟩ := cells3 HB.out.1
      go_enter Try.func31, Try.ntmps31
      go_wp2_with first
        | (go_at_call_of 23 (Value.int IntKind.i64 code); refine (d3.out _).mono ?_; rintro e w5 ⟨rfl, t5⟩; first | have T5 := Lib.hid (T4.out.and t5) | have T5 := Lib.hid (T3.out.and t5))
        | (go_at_call_of 23 (Value.int IntKind.i64 kind); refine (d2.out _).mono ?_; rintro e w4 ⟨rfl, t4⟩; have T4 := Lib.hid (T3.out.and t4); have bb := rvd_keep HB.out.1 HB.out.2 T4.out; obtain ⟨p0, p1, p2⟩ := cells3 bb.1; clear bb t4)
        | (go_at_call_of 23 (Value.int IntKind.i64 id); refine (d1.out _).mono ?_; rintro e w3 ⟨rfl, t3⟩; have T3 := Lib.hid t3; have bb := rvd_keep HB.out.1 HB.out.2 T3.out; obtain ⟨q0, q1, q2⟩ := cells3 bb.1; obtain ⟨a0, a1, a2, a3, a4, a5⟩ := rwords_cells bb.2; clear bb t3)
      go_returns
      first
        | exact ⟨vd_ret (X := []) (W := wordL _) (HV.out.trans (by rfl)) (by first | (simp only [bapp, List.append_nil]; done) | (simp only [bapp, List.append_nil]; rfl)), tw.out.and T3.out⟩
        | exact ⟨vd_ret (W := wordL _) (HV.out.trans (by rw [hc0.out c0])) (by first | (simp only [bapp, List.append_nil, List.append_assoc]; done) | (simp only [bapp, List.append_nil, List.append_assoc]; rfl)), tw.out.and T5.out⟩
        | exact ⟨vd_ret (X := []) (HV.out.trans (by rw [hw0.out (by omega) (by omega) (by omega) (by omega) (by omega)]; rfl)) (by simp only [bapp, List.append_nil]), tw.out.and T4.out⟩
        | exact ⟨vd_ret (HV.out.trans (by rw [hw0.out (by omega) (by omega) (by omega) (by omega) (by omega), hc0.out c0])) (by simp only [bapp, List.append_nil, List.append_assoc]), tw.out.and T5.out⟩
end Go.Proofs.Ytmoiehbhhplckaa
