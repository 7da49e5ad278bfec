/- Verdict. Conditions: the numbers fit. -/
import Derived.Test.YtmoiehbhhplckaaProg
import Derived.Test.YtmoiehbhhplckaaN4
import Derived.Test.YtmoiehbhhplckaaSh
import Derived.Tactics
import Derived.Tactics2
import Derived.WalkKit
import Derived.WalkSpells
import Derived.WalkLawsBesides
import Derived.StillTactics
import Derived.StillTailTactics
import Derived.OwnWalk
import Derived.Laws.Pointers
import Derived.Laws.ResultCell
import Derived.Deep.RegionHeld3
import Derived.Deep.RegionWith
import Derived.Deep.RegionLaw
import Derived.Deep.AppendLies
import Derived.Deep.QuietTactic
import Derived.BigQuiet
import Derived.LoopTactic
import Derived.Deep.LoopGhost
import Derived.Deep.DeepCutAuto
import Derived.Deep.DeepFit
import Derived.Maps.AppendAt
import Derived.Below
import Derived.Lib.Hide
import Derived.Handy
import Derived.KernelRfl
import Derived.IntWalk
import Derived.Laws.AppendOwnNone
import Derived.Laws.IdiomStrings
namespace Go.Proofs.Ytmoiehbhhplckaa
set_option linter.unusedVariables false
set_option linter.unusedSimpArgs false
open Go.RowKit

theorem dec_len {n : Int} (h : Fit n) : (decL n).length ≤ 20 := by
  have h1 := digs_len n.natAbs 18 (by unfold Fit at h; omega)
  unfold decL
  split
  · simp; omega
  · omega
theorem num_c (n : Int) (w : World) (hn : Fit n) : Calls Try.prog 52 #[.int .i64 n] w (Str1 (decL n) w) := by
  go_enter Try.func52, Try.ntmps52
  go_wp2_with (go_at_call 22; refine (decimal_c n _ hn).mono ?_; rintro e w3 ⟨rfl, t2⟩; have T2 := Lib.hid t2; clear t2)
  go_ret
  exact ⟨rfl, T2.out⟩
structure Vd where
  id : Int
  kind : Int
  code : Int
instance : Inhabited Vd := ⟨⟨0, 0, 0⟩⟩
def vcells (v : Vd) : List Value := [.int .i64 v.id, .int .i64 v.kind, .int .i64 v.code]
theorem vcells_length (v : Vd) : (vcells v).length = 3 := rfl
def vagg (v : Vd) : Value := .agg #[.int .i64 v.id, .int .i64 v.kind, .int .i64 v.code]
def wordL (k : Int) : List UInt8 :=
  if k = 1 then [103, 114, 97, 110, 116] else if k = 2 then [100, 101, 110, 121] else if k = 3 then [103, 111] else if k = 4 then [114, 101, 118, 111, 107, 101] else if k = 5 then [101, 110, 100] else decL k
def codeL (c : Int) : List UInt8 := if c = 0 then [] else [32] ++ decL c
def verL (v : Vd) : List UInt8 := (decL v.id ++ [32]) ++ wordL v.kind ++ codeL v.code
def VFit (v : Vd) : Prop := Fit v.id ∧ Fit v.kind ∧ Fit v.code
theorem word_len {k : Int} (h : Fit k) : (wordL k).length ≤ 20 := by
  have := dec_len h
  unfold wordL
  repeat' split
  all_goals first | omega | decide
theorem ver_len {v : Vd} (h : VFit v) : (verL v).length ≤ 62 := by
  have h1 := dec_len h.1
  have h2 := word_len h.2.1
  have h3 : (codeL v.code).length ≤ 21 := by
    have := dec_len h.2.2
    unfold codeL
    split
    · simp
    · simp; omega
  unfold verL
  simp
  omega
def owords : Array Value := #[.string ⟨#[103, 114, 97, 110, 116]⟩, .string ⟨#[100, 101, 110, 121]⟩, .string ⟨#[103, 111]⟩, .string ⟨#[114, 101, 118, 111, 107, 101]⟩, .string ⟨#[101, 110, 100]⟩]
/-- what a call of a number leaves of the two blocks -/
theorem vd_keep {id kind code : Int} {w w1 w2 : World} (h1 : Blk w1 w.heap.size 45 #[.int .i64 id, .int .i64 kind, .int .i64 code]) (h2 : Blk w1 (w.heap.size + 1) 86 owords) (t : Tch No w1 w2) :
    Blk w2 w.heap.size 45 #[.int .i64 id, .int .i64 kind, .int .i64 code] ∧ Blk w2 (w.heap.size + 1) 86 owords := ⟨t.blk h1 (fun f => f), t.blk h2 (fun f => f)⟩
theorem owords_cells {w : World} {g : Nat} (h : Blk w g 86 owords) : w.cell? ⟨g, 0, none⟩ = some (.string ⟨#[103, 114, 97, 110, 116]⟩) ∧ w.cell? ⟨g, 1, none⟩ = some (.string ⟨#[100, 101, 110, 121]⟩) ∧ w.cell? ⟨g, 2, none⟩ = some (.string ⟨#[103, 111]⟩) ∧ w.cell? ⟨g, 3, none⟩ = some (.string ⟨#[114, 101, 118, 111, 107, 101]⟩) ∧ w.cell? ⟨g, 4, none⟩ = some (.string ⟨#[101, 110, 100]⟩) := cells5 h
theorem vd_ret {I W X V : List UInt8} {s : ByteArray} (e : V = (I ++ [32]) ++ W ++ X) (hs : s = ⟨((I ++ [32]) ++ W ++ X).toArray⟩) : Ending.returned (.string s) = .returned (.string ⟨V.toArray⟩) := by rw [e, hs]
set_option maxHeartbeats 4000000 in
set_option maxRecDepth 100000 in
theorem overdict_c (v : Vd) (w : World) (hv : VFit v) : Calls Try.prog 32 #[vagg v] w (Str1 (verL v) w) := by
  obtain ⟨h1, h2, h3⟩ := hv
  have d1 := Lib.hid (fun w => num_c v.id w h1)
  have d2 := Lib.hid (fun w => num_c v.kind w h2)
  have d3 := Lib.hid (fun w => num_c v.code w h3)
  have l1 := dec_len h1
  have l2 := dec_len h2
  have l3 := dec_len h3
  obtain ⟨id, kind, code⟩ := v
  unfold vagg
  simp only at *
  have HV : Hid (verL ⟨id, kind, code⟩ = (decL id ++ [32]) ++ wordL kind ++ codeL code) := rfl
  have hw0 : Hid (kind ≠ 1 → kind ≠ 2 → kind ≠ 3 → kind ≠ 4 → kind ≠ 5 → wordL kind = decL kind) := fun a b c d e => by unfold wordL; rw [if_neg a, if_neg b, if_neg c, if_neg d, if_neg e]
  have hc0 : Hid (code ≠ 0 → codeL code = [32] ++ decL code) := fun a => if_neg a
  generalize decL id = I at *
  generalize decL kind = K at *
  generalize decL code = C at *
  generalize hw1 : (w.alloc (.cells #[.int .i64 id, .int .i64 kind, .int .i64 code] 45)).alloc (.cells owords 86) = w1
  have b1 : Blk w1 w.heap.size 45 #[.int .i64 id, .int .i64 kind, .int .i64 code] := by subst hw1; exact (Blk.new w 45 _).alloc _
  have b2 : Blk w1 (w.heap.size + 1) 86 owords := by
    subst hw1
    have := Blk.new (w.alloc (.cells #[.int .i64 id, .int .i64 kind, .int .i64 code] 45)) 86 owords
    simpa using this
  have tw : Hid (Tch No w w1) := by subst hw1; exact ((Tch.refl No w).alloc _).alloc _
  have HB := Lib.hid (And.intro b1 b2)
  clear b1 b2
  unfold owords at hw1
  have n1 : ¬ (9223372036854775807 < I.length + 1) := by omega
  have n2 : ¬ (9223372036854775807 < I.length + 1 + K.length) := by omega
  have n3 : ¬ (9223372036854775807 < 1 + C.length) := by omega
  have hL := Lib.hid (And.intro l1 (And.intro l2 l3))
  have hkk : (kind = 1 ∨ kind = 2 ∨ kind = 3 ∨ kind = 4 ∨ kind = 5) ∨ (kind < 1 ∨ 5 < kind) := by omega
  clear h1 h2 h3
  rcases hkk with (k1 | k1 | k1 | k1 | k1) | (k1 | k1)
  all_goals
    try subst k1
    rcases (by omega : code = 0 ∨ code ≠ 0) with c0 | c0
    all_goals
      try subst c0
      obtain ⟨z0, z1, z2⟩ := cells3 HB.out.1
      go_enter Try.func32, Try.ntmps32
      go_wp2_with first
        | (go_at_call 52; refine (d3.out _).mono ?_; rintro e w5 ⟨rfl, t5⟩; have T5 := Lib.hid (T4.out.and t5); clear t5)
        | (go_at_call 52; refine (d1.out _).mono ?_; rintro e w4 ⟨rfl, t4⟩; have T4 := Lib.hid (T3.out.and t4); have bb := vd_keep HB.out.1 HB.out.2 T4.out; obtain ⟨p0, p1, p2⟩ := cells3 bb.1; clear bb t4)
        | (go_at_call 52; refine (d2.out _).mono ?_; rintro e w3 ⟨rfl, t3⟩; have T3 := Lib.hid t3; have bb := vd_keep HB.out.1 HB.out.2 T3.out; obtain ⟨q0, q1, q2⟩ := cells3 bb.1; obtain ⟨a0, a1, a2, a3, a4⟩ := owords_cells bb.2; clear bb t3)
      go_returns
      first
        | exact ⟨vd_ret (X := []) (W := wordL _) (HV.out.trans (by rfl)) (by first | (simp only [bapp, List.append_nil]; done) | (simp only [bapp, List.append_nil]; rfl)), tw.out.and T4.out⟩
        | exact ⟨vd_ret (W := wordL _) (HV.out.trans (by rw [hc0.out c0])) (by first | (simp only [bapp, List.append_nil]; done) | (simp only [bapp, List.append_nil]; rfl)), tw.out.and T5.out⟩
        | exact ⟨vd_ret (X := []) (HV.out.trans (by rw [hw0.out (by omega) (by omega) (by omega) (by omega) (by omega)]; rfl)) (by first | (simp only [bapp, List.append_nil]; done) | (simp only [bapp, List.append_nil]; rfl)), tw.out.and T4.out⟩
        | exact ⟨vd_ret (HV.out.trans (by rw [hw0.out (by omega) (by omega) (by omega) (by omega) (by omega), hc0.out c0])) (by first | (simp only [bapp, List.append_nil]; done) | (simp only [bapp, List.append_nil]; rfl)), tw.out.and T5.out⟩
end Go.Proofs.Ytmoiehbhhplckaa
