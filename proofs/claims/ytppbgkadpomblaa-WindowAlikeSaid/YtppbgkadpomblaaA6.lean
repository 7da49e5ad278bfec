/- Contracts. -/
import Derived.Test.YtppbgkadpomblaaProg
import Derived.Test.YtppbgkadpomblaaA5
import Derived.Tactics
import Derived.Tactics2
import Derived.WalkKit
import Derived.WalkSpells
import Derived.WalkLawsBesides
import Derived.StillTactics
import Derived.StillTailTactics
import Derived.OwnWalk
import Derived.Laws.Pointers
import Derived.Laws.ResultCell
import Derived.Deep.RegionHeld3
import Derived.Deep.RegionWith
import Derived.Deep.RegionLaw
import Derived.Deep.AppendLies
import Derived.Deep.QuietTactic
import Derived.BigQuiet
import Derived.LoopTactic
import Derived.Deep.LoopGhost
import Derived.Deep.DeepCutAuto
import Derived.Deep.DeepFit
import Derived.Maps.AppendAt
import Derived.Below
import Derived.Lib.Hide
import Derived.Handy
import Derived.KernelRfl
import Derived.IntWalk
namespace Go.Proofs.Ytppbgkadpomblaa
set_option linter.unusedVariables false
set_option linter.unusedSimpArgs false
open Go.RowKit

/-- A deque in a block of its own. -/
abbrev DqN (w : World) (g b : Nat) (v : Value) (l : List Cl) : Prop := Dq w g 0 b 26 #[v] v l
theorem dq_new (w : World) (b : Nat) : DqN (w.alloc (.cells #[.slice none 0 0] 26)) w.heap.size b (.slice none 0 0) [] := ⟨Blk.new w 26 _, rfl, by decide, World.ownsRow_nil ..⟩
/-- What is touched of a deque that lies above B. -/
theorem foot_no {w0 w w' : World} {g o b : Nat} {t : TypeId} {cs : Array Value} {v : Value} {l : List Cl} (h0 : Tch No w0 w) (ht : Dq w g o b t cs v l) (hg : w0.heap.size ≤ g) (hb : w0.heap.size ≤ b) (k : Tch (Foot g v) w w') : Tch No w0 w' :=
  h0.trans k fun i f => by
    rcases f with f | f
    · right; omega
    · right; have := own_base ht.own i f; omega

/-- Behind a call on a deque in a block of its own, all above w0. -/
structure After (w0 : World) (g : Nat) (l : List Cl) (v : Value) (w : World) : Prop where
  dq : DqN w g w0.heap.size v l
  tch : Tch No w0 w
  ge : w0.heap.size ≤ g
theorem after_push {w0 w w' : World} {g : Nat} {l : List Cl} {v : Value} (h : After w0 g l v w) {t : Int} {r : Bool} {l' : List Cl} {e : Ending} (k : PushP g 0 w0.heap.size 26 #[v] v l' r w e w') : e = .returned (.bool r) ∧ ∃ v', After w0 g l' v' w' := by
  obtain ⟨v', he, hd, ht, _⟩ := k
  exact ⟨he, v', hd, foot_no h.tch h.dq h.ge (Nat.le_refl _) ht, h.ge⟩
theorem after_no {w0 w w' : World} {g : Nat} {l : List Cl} {v : Value} (h : After w0 g l v w) (k : Tch No w w') : After w0 g l v w' := ⟨h.dq.tch k, h.tch.and k, h.ge⟩
theorem push_n {w0 w : World} {g : Nat} {l : List Cl} {v : Value} (h : After w0 g l v w) (t : Int) (hl : l.length ≤ 900000) (hok : CellsOk l) :
    Calls Try.prog 16 #[.pointer (some ⟨g, 0, none⟩), .int .i64 t] w fun e w' => e = .returned (.bool (pushB l t)) ∧ ∃ v', After w0 g (pushL l t) v' w' :=
  (push_c g 0 w0.heap.size 26 #[v] v l t w h.dq h.tch.size hl hok).mono fun e w' k => after_push (t := t) h k

set_option maxHeartbeats 1600000 in
theorem alive_c (w : World) : Calls Try.prog 15 #[] w (YesNo w) := by
  have A0 : Hid (After w w.heap.size [] (.slice none 0 0) (w.alloc (.cells #[.slice none 0 0] 26))) := ⟨dq_new w _, (Tch.refl No w).alloc _, Nat.le_refl _⟩
  go_enter Try.func15, Try.ntmps15
  go_wp2_with fail
  refine (push_n A0.out 5 (by simp) (by unfold CellsOk; simp)).mono ?_
  rintro e w1 ⟨rfl, v1, a1⟩
  have A1 : Hid (After w w.heap.size [⟨5, 1⟩] v1 w1) := a1
  rw [show pushB [] 5 = true from rfl]
  clear a1
  go_wp2_with fail
  refine (push_n A1.out 5 (by simp) (by unfold CellsOk; simp)).mono ?_
  rintro e w2 ⟨rfl, v2, a2⟩
  have A2 : Hid (After w w.heap.size [⟨5, 2⟩] v2 w2) := a2
  rw [show pushB [⟨5, 1⟩] 5 = true from rfl]
  clear a2
  go_wp2_with fail
  refine (push_n A2.out 4 (by simp) (by unfold CellsOk; simp)).mono ?_
  rintro e w3 ⟨rfl, v3, a3⟩
  have A3 : Hid (After w w.heap.size [⟨5, 2⟩] v3 w3) := a3
  rw [show pushB [⟨5, 2⟩] 4 = false from rfl]
  clear a3
  go_wp2_with fail
  obtain ⟨AA, CC, hv⟩ := A3.out.dq.form
  have c0 := A3.out.dq.at_
  rw [hv] at c0
  clear hv
  refine (len_c _ 0 _ _ _ _ c0).mono ?_
  rintro e w4 ⟨rfl, rfl⟩
  go_wp2_with fail
  refine (sum_c _ 0 _ _ _ _ _ _ A3.out.dq (by simp) (by unfold CellsOk; simp)).mono ?_
  rintro e w5 ⟨rfl, t5⟩
  rw [show sumL [⟨5, 2⟩] = 2 from rfl]
  have T5 := Lib.hid (A3.out.tch.and t5)
  clear t5
  go_wp2
  go_returns
  exact ⟨rfl, T5.out⟩

def countL (t : Int) (i : Nat) : List Cl := if i = 0 then [] else [⟨t, min (i : Int) 32768⟩]
theorem count_ok (t : Int) (i : Nat) : CellsOk (countL t i) ∧ (countL t i).length ≤ 1 := by
  unfold countL CellsOk
  split
  · simp
  · simp; omega
theorem count_push (t : Int) (i : Nat) : pushL (countL t i) t = countL t (i + 1) ∧ pushB (countL t i) t = true := by
  unfold countL
  by_cases h : i = 0
  · subst h; exact ⟨rfl, rfl⟩
  · rw [if_neg h, if_neg (by omega)]
    have := push_same [] ⟨t, min (i : Int) 32768⟩ t rfl
    rw [List.nil_append] at this
    rw [this.1, this.2]
    refine ⟨?_, rfl⟩
    rw [List.nil_append]
    show [(⟨t, min (min (i : Int) 32768 + 1) 32768⟩ : Cl)] = _
    rw [show min (min (i : Int) 32768 + 1) 32768 = min (((i + 1 : Nat) : Int)) 32768 by omega]

theorem one_ok (t n : Int) (h0 : 0 ≤ n) (h1 : n ≤ 32768) : CellsOk [⟨t, n⟩] := by
  unfold CellsOk; simp; omega
theorem rd_one (w : World) (x : Cl) : Rd (w.alloc (.cells (ccells x).toArray 30)) No 2 (some ⟨w.heap.size, 0, none⟩) 1 (crows [x]) := by
  refine ⟨rfl, fun _ => ⟨w.heap.size, 0, rfl, fun f => f, by simp, fun j u hu => ?_⟩⟩
  have := (Blk.new w 30 (ccells x).toArray).cell (0 + j)
  rw [this, Nat.zero_add]
  simpa [crows] using hu

set_option maxHeartbeats 1600000 in
theorem counts_walk (at_ n : Int) (w : World) (h0 : -9223372036854775808 ≤ at_) (h1 : at_ ≤ 9223372036854775807) (h2 : -9223372036854775808 ≤ n) (h3 : n ≤ 9223372036854775807) :
    Calls Try.prog 3 #[.int .i64 at_, .int .i64 n] w fun e w' => e = .returned (.bool true) ∧ Below w.heap.size w w' := by
  rcases (by omega : n < 1 ∨ (1 ≤ n ∧ n ≤ 33000) ∨ 33000 < n) with hn | ⟨hn, hn'⟩ | hn
  · go_enter Try.func3, Try.ntmps3
    go_wp2_with fail
    refine (alive_c _).mono ?_
    rintro e w1 ⟨rfl, t1⟩
    have A0 : Hid (After w1 w1.heap.size [] (.slice none 0 0) (w1.alloc (.cells #[.slice none 0 0] 26))) := ⟨dq_new w1 _, (Tch.refl No w1).alloc _, Nat.le_refl _⟩
    have T1 := Lib.hid t1
    clear t1
    go_wp2_with fail
    go_loopw [6] (fun iv wr => ∃ i : Nat, (i : Int) ≤ 1 ∧ iv = .int .i64 i ∧ ∃ v, After w1 w1.heap.size (countL at_ i) v wr) (fun iv _ => (1 - intOf iv).toNat)
    case atStart => exact ⟨0, by omega, rfl, _, A0.out⟩
    case round =>
      obtain ⟨i, hi, rfl, v, ha⟩ := hrel
      have HA := Lib.hid ha
      clear ha
      by_cases hlt : (i : Int) < 1
      · go_wp2_with fail
        refine (push_n HA.out at_ (by have := (count_ok at_ i).2; omega) (count_ok at_ i).1).mono ?_
        rintro e w2 ⟨rfl, v2, a2⟩
        rw [(count_push at_ i).1] at a2
        rw [(count_push at_ i).2]
        have A2 := Lib.hid a2
        clear a2
        go_wp2_with fail
        exact ⟨⟨i + 1, by omega, by simp, v2, A2.out⟩, by simp [intOf]; omega⟩
      · skip
        have e0 : countL at_ i = [⟨at_, 1⟩] := by unfold countL; rw [if_neg (by omega), show min (i : Int) 32768 = 1 by omega]
        have D1 : Hid (After w1 w1.heap.size [⟨at_, 1⟩] v wr) := by have := HA.out; rw [e0] at this; exact this
        clear e0 HA hi
        go_wp2_with fail
        refine (like_c _ 0 _ _ _ _ [⟨at_, 1⟩] _ _ _ (D1.out.dq.tch ((Tch.refl No _).alloc _)) (rd_one wr ⟨at_, 1⟩) (by simp) (one_ok at_ _ (by omega) (by omega))).mono ?_
        rintro e w3 ⟨rfl, t3⟩
        go_wp2
        go_returns
        exact ⟨rfl, (T1.out.and ((D1.out.tch.alloc _).and t3)).noBelow⟩
  · go_enter Try.func3, Try.ntmps3
    go_wp2_with fail
    refine (alive_c _).mono ?_
    rintro e w1 ⟨rfl, t1⟩
    have A0 : Hid (After w1 w1.heap.size [] (.slice none 0 0) (w1.alloc (.cells #[.slice none 0 0] 26))) := ⟨dq_new w1 _, (Tch.refl No w1).alloc _, Nat.le_refl _⟩
    have T1 := Lib.hid t1
    clear t1
    go_wp2_with fail
    go_loopw [6] (fun iv wr => ∃ i : Nat, (i : Int) ≤ n ∧ iv = .int .i64 i ∧ ∃ v, After w1 w1.heap.size (countL at_ i) v wr) (fun iv _ => (n - intOf iv).toNat)
    case atStart => exact ⟨0, by omega, rfl, _, A0.out⟩
    case round =>
      obtain ⟨i, hi, rfl, v, ha⟩ := hrel
      have HA := Lib.hid ha
      clear ha
      by_cases hlt : (i : Int) < n
      · go_wp2_with fail
        refine (push_n HA.out at_ (by have := (count_ok at_ i).2; omega) (count_ok at_ i).1).mono ?_
        rintro e w2 ⟨rfl, v2, a2⟩
        rw [(count_push at_ i).1] at a2
        rw [(count_push at_ i).2]
        have A2 := Lib.hid a2
        clear a2
        go_wp2_with fail
        exact ⟨⟨i + 1, by omega, by simp, v2, A2.out⟩, by simp [intOf]; omega⟩
      · rcases (by omega : n ≤ 32768 ∨ 32768 < n) with hm | hm
        · skip
          have e0 : countL at_ i = [⟨at_, n⟩] := by unfold countL; rw [if_neg (by omega), show min (i : Int) 32768 = n by omega]
          have D1 : Hid (After w1 w1.heap.size [⟨at_, n⟩] v wr) := by have := HA.out; rw [e0] at this; exact this
          clear e0 HA hi
          go_wp2_with fail
          refine (like_c _ 0 _ _ _ _ [⟨at_, n⟩] _ _ _ (D1.out.dq.tch ((Tch.refl No _).alloc _)) (rd_one wr ⟨at_, n⟩) (by simp) (one_ok at_ _ (by omega) (by omega))).mono ?_
          rintro e w3 ⟨rfl, t3⟩
          go_wp2
          go_returns
          exact ⟨rfl, (T1.out.and ((D1.out.tch.alloc _).and t3)).noBelow⟩
        · skip
          have e0 : countL at_ i = [⟨at_, 32768⟩] := by unfold countL; rw [if_neg (by omega), show min (i : Int) 32768 = 32768 by omega]
          have D1 : Hid (After w1 w1.heap.size [⟨at_, 32768⟩] v wr) := by have := HA.out; rw [e0] at this; exact this
          clear e0 HA hi
          go_wp2_with fail
          refine (like_c _ 0 _ _ _ _ [⟨at_, 32768⟩] _ _ _ (D1.out.dq.tch ((Tch.refl No _).alloc _)) (rd_one wr ⟨at_, 32768⟩) (by simp) (one_ok at_ _ (by omega) (by omega))).mono ?_
          rintro e w3 ⟨rfl, t3⟩
          go_wp2
          go_returns
          exact ⟨rfl, (T1.out.and ((D1.out.tch.alloc _).and t3)).noBelow⟩
  · go_enter Try.func3, Try.ntmps3
    go_wp2_with fail
    refine (alive_c _).mono ?_
    rintro e w1 ⟨rfl, t1⟩
    have A0 : Hid (After w1 w1.heap.size [] (.slice none 0 0) (w1.alloc (.cells #[.slice none 0 0] 26))) := ⟨dq_new w1 _, (Tch.refl No w1).alloc _, Nat.le_refl _⟩
    have T1 := Lib.hid t1
    clear t1
    go_wp2_with fail
    go_loopw [6] (fun iv wr => ∃ i : Nat, (i : Int) ≤ 33000 ∧ iv = .int .i64 i ∧ ∃ v, After w1 w1.heap.size (countL at_ i) v wr) (fun iv _ => (33000 - intOf iv).toNat)
    case atStart => exact ⟨0, by omega, rfl, _, A0.out⟩
    case round =>
      obtain ⟨i, hi, rfl, v, ha⟩ := hrel
      have HA := Lib.hid ha
      clear ha
      by_cases hlt : (i : Int) < 33000
      · go_wp2_with fail
        refine (push_n HA.out at_ (by have := (count_ok at_ i).2; omega) (count_ok at_ i).1).mono ?_
        rintro e w2 ⟨rfl, v2, a2⟩
        rw [(count_push at_ i).1] at a2
        rw [(count_push at_ i).2]
        have A2 := Lib.hid a2
        clear a2
        go_wp2_with fail
        exact ⟨⟨i + 1, by omega, by simp, v2, A2.out⟩, by simp [intOf]; omega⟩
      · skip
        have e0 : countL at_ i = [⟨at_, 32768⟩] := by unfold countL; rw [if_neg (by omega), show min (i : Int) 32768 = 32768 by omega]
        have D1 : Hid (After w1 w1.heap.size [⟨at_, 32768⟩] v wr) := by have := HA.out; rw [e0] at this; exact this
        clear e0 HA hi
        go_wp2_with fail
        refine (like_c _ 0 _ _ _ _ [⟨at_, 32768⟩] _ _ _ (D1.out.dq.tch ((Tch.refl No _).alloc _)) (rd_one wr ⟨at_, 32768⟩) (by simp) (one_ok at_ _ (by omega) (by omega))).mono ?_
        rintro e w3 ⟨rfl, t3⟩
        go_wp2
        go_returns
        exact ⟨rfl, (T1.out.and ((D1.out.tch.alloc _).and t3)).noBelow⟩
end Go.Proofs.Ytppbgkadpomblaa
