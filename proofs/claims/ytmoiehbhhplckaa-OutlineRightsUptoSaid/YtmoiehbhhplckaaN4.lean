/- Contracts. -/
import Derived.Test.YtmoiehbhhplckaaProg
import Derived.Test.YtmoiehbhhplckaaN3
import Derived.Tactics
import Derived.Tactics2
import Derived.WalkKit
import Derived.WalkSpells
import Derived.WalkLawsBesides
import Derived.StillTactics
import Derived.StillTailTactics
import Derived.OwnWalk
import Derived.Laws.Pointers
import Derived.Laws.ResultCell
import Derived.Deep.RegionHeld3
import Derived.Deep.RegionWith
import Derived.Deep.RegionLaw
import Derived.Deep.AppendLies
import Derived.Deep.QuietTactic
import Derived.BigQuiet
import Derived.LoopTactic
import Derived.Deep.LoopGhost
import Derived.Deep.DeepCutAuto
import Derived.Deep.DeepFit
import Derived.Maps.AppendAt
import Derived.Below
import Derived.Lib.Hide
import Derived.Handy
import Derived.KernelRfl
import Derived.IntWalk
import Derived.Laws.AppendOwnNone
import Derived.Laws.IdiomStrings
namespace Go.Proofs.Ytmoiehbhhplckaa
set_option linter.unusedVariables false
set_option linter.unusedSimpArgs false
open Go.RowKit

theorem tdiv_neg10 (k : Nat) : Int.tdiv (-(k : Int)) 10 = -((k / 10 : Nat) : Int) := by
  rw [Int.neg_tdiv]
  rfl
theorem tmod_neg10 (k : Nat) : Int.tmod (-(k : Int)) 10 = -((k % 10 : Nat) : Int) := by
  rw [Int.neg_tmod]
  rfl
theorem digs0_app {k u0 : Nat} {l : List UInt8} (hk : k ≠ 0) (h : digs0 k ++ l = digs0 u0) : digs0 (k / 10) ++ (dgt (k % 10) :: l) = digs0 u0 := (digs0_step hk l).trans h

theorem digs0_bd {k u0 : Nat} {l : List UInt8} (h : u0 ≤ 9223372036854775808) (hd : digs0 k ++ l = digs0 u0) : l.length ≤ 19 := by
  have h1 := digs_len u0 18 (by omega)
  have h2 := congrArg List.length hd
  rw [List.length_append] at h2
  have h3 : (digs0 u0).length ≤ 19 := by
    unfold digs0
    split
    · simp
    · omega
  omega
theorem str_cons (d : UInt8) (l : List UInt8) : Value.string ((⟨#[d]⟩ : ByteArray) ++ ⟨l.toArray⟩) = .string ⟨(d :: l).toArray⟩ := congrArg Value.string (bapp [d] l)

set_option maxHeartbeats 1600000 in
set_option maxRecDepth 100000 in
theorem rdec_pos (n : Int) (w : World) (h0 : 0 < n) (h1 : n ≤ 9223372036854775807) : Calls Try.prog 23 #[.int .i64 n] w (Str1 (digs n.natAbs) w) := by
  obtain ⟨u0, rfl⟩ : ∃ u0 : Nat, n = u0 := ⟨n.natAbs, by omega⟩
  have hb : ((u0 : Int) == 0) = false := by simp; omega
  have hu0 : u0 ≠ 0 := by omega
  have HU := Lib.hid hu0
  clear hu0
  go_enter Try.func23, Try.ntmps23
  go_wp2_with fail
  go_loopw [3, 4] (fun sv mv wr => ∃ (k : Nat) (l : List UInt8), k ≤ u0 ∧ mv = .int .i64 k ∧ sv = .string ⟨l.toArray⟩ ∧ digs0 k ++ l = digs0 u0 ∧ Tch No w wr) (fun _ mv _ => (intOf mv).toNat)
  case atStart => exact ⟨u0, [], by omega, rfl, rfl, by simp, Tch.refl _ _⟩
  case round =>
    obtain ⟨k, l, hk, rfl, rfl, hd, ht⟩ := hrel
    have HD := Lib.hid hd
    have HT := Lib.hid ht
    have hsz := ht.size
    have hll : l.length ≤ 19 := digs0_bd (by omega) hd
    clear hd ht
    by_cases hlt : k = 0
    · subst hlt
      have hl : l = digs (u0 : Int).natAbs := by
        have := HD.out
        unfold digs0 at this
        rw [if_pos rfl, if_neg HU.out] at this
        simpa using this
      have HL := Lib.hid hl
      clear hl
      go_wp2
      go_returns
      exact ⟨ret_str (by rw [HL.out]), HT.out⟩
    · have hkb : ((k : Int) != 0) = true := by simp; omega
      have hkb2 : ((k : Int) == 0) = false := by simp; omega
      have hmod : k % 10 < 10 := Nat.mod_lt _ (by omega)
      have hk0 : 0 < k := by omega
      have hcv : (convert 68 9 (.slice (some ⟨wr.heap.size, 0, none⟩) 1 1)).run Try.prog (wr.alloc (.cells #[.int .u8 (48 + (k : Int) % 10)] 5)) = .ok (.string ⟨#[dgt (k % 10)]⟩) (wr.alloc (.cells #[.int .u8 (48 + (k : Int) % 10)] 5)) := conv_own (own_digit wr wr.heap.size (Nat.le_refl _) (k % 10) hmod)
      have HS := digs0_app hlt HD.out
      have HSS := Lib.hid HS
      clear HS hlt
      go_wp2
      exact ⟨⟨k / 10, dgt (k % 10) :: l, by omega, by simp, str_cons _ l, HSS.out, HT.out.alloc _⟩, by simp [intOf]; omega⟩
set_option maxHeartbeats 1600000 in
set_option maxRecDepth 100000 in
theorem rdec_neg (n : Int) (w : World) (h0 : n < 0) (h1 : -9223372036854775808 ≤ n) : Calls Try.prog 23 #[.int .i64 n] w (Str1 (45 :: digs n.natAbs) w) := by
  obtain ⟨u0, rfl⟩ : ∃ u0 : Nat, n = -(u0 : Int) := ⟨n.natAbs, by omega⟩
  have hneg : -(u0 : Int) < 0 := by omega
  have hu9 : (u0 : Int) ≤ 9223372036854775808 := by omega
  have hb : (-(u0 : Int) == 0) = false := by simp; omega
  have hu0 : u0 ≠ 0 := by omega
  have HU := Lib.hid hu0
  clear hu0
  go_enter Try.func23, Try.ntmps23
  go_wp2_with fail
  go_loopw [3, 4] (fun sv mv wr => ∃ (k : Nat) (l : List UInt8), k ≤ u0 ∧ mv = .int .i64 (-(k : Int)) ∧ sv = .string ⟨l.toArray⟩ ∧ digs0 k ++ l = digs0 u0 ∧ Tch No w wr) (fun _ mv _ => (-(intOf mv)).toNat)
  case atStart => exact ⟨u0, [], by omega, rfl, rfl, by simp, Tch.refl _ _⟩
  case round =>
    obtain ⟨k, l, hk, rfl, rfl, hd, ht⟩ := hrel
    have HD := Lib.hid hd
    have HT := Lib.hid ht
    have hsz := ht.size
    have hll : l.length ≤ 19 := digs0_bd (by omega) hd
    clear hd ht
    by_cases hlt : k = 0
    · subst hlt
      have hl : l = digs (-(u0 : Int)).natAbs := by
        have := HD.out
        unfold digs0 at this
        rw [if_pos rfl, if_neg HU.out] at this
        have e : (-(u0 : Int)).natAbs = u0 := by omega
        rw [e]
        simpa using this
      have HL := Lib.hid hl
      clear hl
      go_wp2
      go_returns
      exact ⟨ret_str (by rw [HL.out]; exact bapp [45] _), HT.out⟩
    · have hkb : (-(k : Int) != 0) = true := by simp; omega
      have hkb2 : (-(k : Int) == 0) = false := by simp; omega
      have hmod : k % 10 < 10 := Nat.mod_lt _ (by omega)
      have hk0 : 0 < k := by omega
      have hcv : (convert 68 9 (.slice (some ⟨wr.heap.size, 0, none⟩) 1 1)).run Try.prog (wr.alloc (.cells #[.int .u8 (48 + (k : Int) % 10)] 5)) = .ok (.string ⟨#[dgt (k % 10)]⟩) (wr.alloc (.cells #[.int .u8 (48 + (k : Int) % 10)] 5)) := conv_own (own_digit wr wr.heap.size (Nat.le_refl _) (k % 10) hmod)
      have td := tdiv_neg10 k
      have tm := tmod_neg10 k
      have HS := digs0_app hlt HD.out
      have HSS := Lib.hid HS
      clear HS hlt
      rcases (by omega : ((k : Int) % 10 = 0) ∨ 0 < (k : Int) % 10) with hz | hz
      · have e : -((k : Int) % 10) = (k : Int) % 10 := by omega
        have hcv2 : (convert 68 9 (.slice (some ⟨wr.heap.size, 0, none⟩) 1 1)).run Try.prog (wr.alloc (.cells #[.int .u8 (48 + -((k : Int) % 10))] 5)) = .ok (.string ⟨#[dgt (k % 10)]⟩) (wr.alloc (.cells #[.int .u8 (48 + -((k : Int) % 10))] 5)) := by rw [e]; exact hcv
        have hz1 : (k : Int) % 10 ≤ 0 := by omega
        clear hz e hcv
        go_wp2
        all_goals exact ⟨⟨k / 10, dgt (k % 10) :: l, by omega, by simp <;> omega, str_cons _ l, HSS.out, HT.out.alloc _⟩, by simp [intOf]; omega⟩
      · go_wp2
        all_goals exact ⟨⟨k / 10, dgt (k % 10) :: l, by omega, by simp <;> omega, str_cons _ l, HSS.out, HT.out.alloc _⟩, by simp [intOf]; omega⟩

theorem dec0 : decL 0 = [48] := by unfold decL; rw [if_neg (by omega)]; exact digs_lt (by decide)
theorem rdecimal_c (n : Int) (w : World) (hn : Fit n) : Calls Try.prog 23 #[.int .i64 n] w (Str1 (decL n) w) := by
  obtain ⟨h1, h2⟩ := hn
  rcases (by omega : n < 0 ∨ n = 0 ∨ 0 < n) with h | h | h
  · have e : decL n = 45 :: digs n.natAbs := if_pos h
    rw [e]
    exact rdec_neg n w h h1
  · subst h
    go_enter Try.func23, Try.ntmps23
    go_wp2
    go_returns
    exact ⟨ret_str (by rw [dec0]), Tch.refl _ _⟩
  · have e : decL n = digs n.natAbs := if_neg (by omega)
    rw [e]
    exact rdec_pos n w h h2
end Go.Proofs.Ytmoiehbhhplckaa
