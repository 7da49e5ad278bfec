/- The lexer's law: words, alive, LexNames. Conditions: none. -/
import Derived.Test.YtmoiehbhhplckaaProg
import Derived.Test.YtmoiehbhhplckaaL8
import Derived.Tactics
import Derived.Tactics2
import Derived.WalkKit
import Derived.WalkSpells
import Derived.WalkLawsBesides
import Derived.StillTactics
import Derived.StillTailTactics
import Derived.OwnWalk
import Derived.Laws.Pointers
import Derived.Laws.ResultCell
import Derived.Deep.RegionHeld3
import Derived.Deep.RegionWith
import Derived.Deep.RegionLaw
import Derived.Deep.AppendLies
import Derived.Deep.QuietTactic
import Derived.BigQuiet
import Derived.LoopTactic
import Derived.Deep.LoopGhost
import Derived.Deep.DeepCutAuto
import Derived.Deep.DeepFit
import Derived.Maps.AppendAt
import Derived.Below
import Derived.Lib.Hide
import Derived.Handy
import Derived.KernelRfl
import Derived.IntWalk
import Derived.Laws.AppendOwnNone
import Derived.Laws.IdiomStrings
namespace Go.Proofs.Ytmoiehbhhplckaa
set_option linter.unusedVariables false
set_option linter.unusedSimpArgs false
open Go.RowKit

theorem rd_at {α : Type} {f : α → List Value} {s : Nat} (hf : ∀ x, (f x).length = s) {w : World} {S : Nat → Prop} {A : Option Addr} {n : Nat} {l : List α} (hr : Rd w S s A n (l.flatMap f)) (i : Nat) (hi : i < n) (hn : l.length = n) :
    ∃ g off x, A = some ⟨g, off, none⟩ ∧ ¬ S g ∧ g < w.heap.size ∧ l[i]? = some x ∧ ∀ j, j < s → ∀ u, (f x)[j]? = some u → w.cell? ⟨g, off + (i * s + j), none⟩ = some u := by
  obtain ⟨g, off, hA, hg, hlt, hc⟩ := hr.2 (by omega)
  refine ⟨g, off, l[i], hA, hg, hlt, List.getElem?_eq_getElem (by omega), fun j hj u hu => hc _ u ?_⟩
  rw [flat_get hf l i j hj _ (List.getElem?_eq_getElem (by omega))]
  exact hu
theorem rd_kt {w : World} {S : Nat → Prop} {A : Option Addr} {n : Nat} {l : List Tk} (hr : Rd w S 4 A n (krows l)) (i : Nat) (hi : i < n) :
    ∃ g off x, A = some ⟨g, off, none⟩ ∧ l[i]? = some x ∧ w.cell? ⟨g, off + i * 4, none⟩ = some (.int .i64 x.k) ∧ w.cell? ⟨g, off + i * 4 + 1, none⟩ = some (.string ⟨x.s.toArray⟩) ∧ w.cell? ⟨g, off + i * 4 + 2, none⟩ = some (.int .i64 x.n) ∧ w.cell? ⟨g, off + i * 4 + 3, none⟩ = some (.int .i64 x.at_) := by
  have hn : l.length = n := by have := hr.1; unfold krows at this; rw [flat_length kcells_length] at this; omega
  obtain ⟨g, off, x, hA, hS, hg, hx, hc⟩ := rd_at kcells_length hr i hi hn
  refine ⟨g, off, x, hA, hx, hc 0 (by omega) _ rfl, ?_, ?_, ?_⟩
  · rw [Nat.add_assoc]; exact hc 1 (by omega) _ rfl
  · rw [Nat.add_assoc]; exact hc 2 (by omega) _ rfl
  · rw [Nat.add_assoc]; exact hc 3 (by omega) _ rfl
def YesD (w : World) (e : Ending) (w' : World) : Prop := e = .returned (.bool true) ∧ ∃ k, w' = w.drewN k
set_option maxHeartbeats 1600000 in
set_option maxRecDepth 100000 in
theorem words_c (A B : Option Addr) (n c d : Nat) (l : List Tk) (w : World) (ha : Rd w No 4 A n (krows l)) (hb : Rd w No 4 B n (krows l)) (hn : n ≤ 1000000) :
    Calls Try.prog 42 #[.slice A n c, .slice B n d] w (YesD w) := by
  have HA := Lib.hid ha
  have HB := Lib.hid hb
  clear ha hb
  go_enter Try.func42, Try.ntmps42
  go_wp2_with fail
  go_loopw [5] (fun iv wr => ∃ i : Nat, i ≤ n ∧ iv = .int .i64 i ∧ ∃ k, wr = w.drewN k) (fun iv _ => n - (intOf iv).toNat)
  case atStart => exact ⟨0, by omega, rfl, 0, rfl⟩
  case round =>
    obtain ⟨i, hil, rfl, k, rfl⟩ := hrel
    by_cases hlt : i < n
    · obtain ⟨g, o, x, hA, hx, a0, a1, a2, a3⟩ := rd_kt (HA.out.drewN k) i hlt
      obtain ⟨g', o', y, hB, hy, b0, b1, b2, b3⟩ := rd_kt (HB.out.drewN k) i hlt
      subst hA
      subst hB
      obtain rfl : x = y := by rw [hx] at hy; injection hy
      have hlt2 : (i : Int) < (n : Int) := by omega
      clear hx hy
      generalize hwk : w.drewN k = wk at *
      have HWK := Lib.hid hwk
      clear hwk
      go_wp2_with fail
      go_quiet (fail)
      go_wp2
      exact ⟨⟨i + 1, by omega, by simp, k + nq, by rw [← HWK.out]; simp⟩, by simp [intOf]; omega⟩
    · have hlt2 : ¬ ((i : Int) < (n : Int)) := by omega
      go_wp2
      go_returns
      exact ⟨rfl, k, rfl⟩
theorem rd_own4 {w : World} {b n c : Nat} {A : Option Addr} {xs : List Value} (h : w.ownsRow b 38 4 (.slice A n c) n xs) : Rd w No 4 A n xs := by
  obtain ⟨A', c', e, hr⟩ := Rd.of_own (S := No) h (fun _ _ f => f)
  injection e with e _ _
  subst e
  exact hr
theorem rd_blk {w : World} {g n s : Nat} {t : TypeId} {cs : List Value} (h : Blk w g t cs.toArray) (hn : cs.length = n * s) : Rd w No s (some ⟨g, 0, none⟩) n cs := by
  refine ⟨hn, fun _ => ⟨g, 0, rfl, fun f => f, h.lt, fun j u hu => ?_⟩⟩
  rw [Nat.zero_add, h.cell j]
  simpa using hu
def tksA : List Tk := [⟨1, [97], 0, 0⟩, ⟨4, [60, 61], 0, 1⟩, ⟨2, [49, 48], 10, 3⟩, ⟨5, [], 0, 5⟩]
theorem parse_a : parseV [49, 48] = (10, true) := by
  have := parse_yes (l := [49, 48]) (by
    show digs 10 = [49, 48]
    rw [digs_ge (by decide), digs_lt (by decide)]
    rfl) (by decide)
  exact this
theorem allR_a : allR [97, 60, 61, 49, 48] = some tksA := by
  have s0 : stepR [97, 60, 61, 49, 48] 0 = (true, [⟨1, [97], 0, 0⟩], 1) := by kernel_rfl
  have s1 : stepR [97, 60, 61, 49, 48] 1 = (true, [⟨4, [60, 61], 0, 1⟩], 3) := by kernel_rfl
  have s3 : stepR [97, 60, 61, 49, 48] 3 = ((parseV [49, 48]).2, [⟨2, [49, 48], (parseV [49, 48]).1, 3⟩], 5) := by kernel_rfl
  rw [parse_a] at s3
  unfold allR
  rw [if_pos (by decide)]
  show lexF 6 [97, 60, 61, 49, 48] 0 [] = _
  rw [lexF, if_pos (by decide), s0, if_pos rfl]
  rw [lexF, if_pos (by decide), s1, if_pos rfl]
  rw [lexF, if_pos (by decide), s3, if_pos rfl]
  rw [lexF, if_neg (by decide)]
  rfl
theorem name_a : nameB [97, 49] = true := by decide
theorem plain_a : plainB [97, 32, 49] = true := by decide
def YesT (w : World) (e : Ending) (w' : World) : Prop := e = .returned (.bool true) ∧ Tch No w w'
set_option maxHeartbeats 1600000 in
set_option maxRecDepth 100000 in
theorem lalive_c (w : World) : Calls Try.prog 24 #[] w (YesT w) := by
  have AC : Hid (∀ w, Calls Try.prog 29 #[.string ⟨#[97, 60, 61, 49, 48]⟩] w (AllP (some tksA) w)) := fun w => by
    have := all_c ⟨#[97, 60, 61, 49, 48]⟩ w
    rw [show allR (⟨#[97, 60, 61, 49, 48]⟩ : ByteArray).data.toList = some tksA from allR_a] at this
    exact this
  have NC : Hid (∀ w, Calls Try.prog 25 #[.string ⟨#[97, 49]⟩] w (Same true w)) := fun w => by
    have := name_c ⟨#[97, 49]⟩ w (by decide)
    rw [show nameB (⟨#[97, 49]⟩ : ByteArray).data.toList = true from name_a] at this
    exact this
  have PC : Hid (∀ w, Calls Try.prog 27 #[.string ⟨#[97, 32, 49]⟩] w (Same true w)) := fun w => by
    have := plain_c ⟨#[97, 32, 49]⟩ w (by decide)
    rw [show plainB (⟨#[97, 32, 49]⟩ : ByteArray).data.toList = true from plain_a] at this
    exact this
  go_enter Try.func24, Try.ntmps24
  go_wp2_with fail
  refine (AC.out _).mono ?_
  rintro e w1 ⟨h1, _⟩
  obtain ⟨v, rfl, ov, t1, _⟩ := h1 _ rfl
  obtain ⟨A, c, rfl⟩ := own_slice ov
  have RA : Hid (Rd w1 No 4 A 4 (krows tksA)) := rd_own4 ov
  have T1 := Lib.hid t1
  clear h1 ov t1
  rw [show tksA.length = 4 from rfl]
  go_wp2_with fail
  have RB : Hid (Rd (w1.alloc (.cells (krows tksA).toArray 70)) No 4 (some ⟨w1.heap.size, 0, none⟩) 4 (krows tksA)) := rd_blk (Blk.new w1 70 _) rfl
  refine (words_c A _ 4 c 4 tksA _ (RA.out.tch ((Tch.refl No w1).alloc _)) RB.out (by decide)).mono ?_
  rintro e w2 ⟨rfl, k, rfl⟩
  have T2 : Hid (Tch No w ((w1.alloc (.cells (krows tksA).toArray 70)).drewN k)) := (T1.out.alloc _).drewN k
  generalize (w1.alloc (.cells (krows tksA).toArray 70)).drewN k = w2 at *
  go_wp2_with fail
  refine (NC.out _).mono ?_
  rintro e w3 ⟨rfl, rfl⟩
  go_wp2_with fail
  refine (PC.out _).mono ?_
  rintro e w3 ⟨rfl, rfl⟩
  go_wp2
  go_returns
  exact ⟨rfl, T2.out⟩
set_option maxHeartbeats 1600000 in
theorem lnames_walk (s : ByteArray) (w : World) (hs0 : s.size ≤ 140737488351232) : Calls Try.prog 7 #[.string s] w fun e w' => e = .returned (.bool true) ∧ Below w.heap.size w w' := by
  have hs : s.size ≤ 9223372036854775807 := by omega
  have N1 := Lib.hid (fun w => name_c s w hs)
  have N2 := Lib.hid (fun w => rname_c s w hs)
  have P1 := Lib.hid (fun w => plain_c s w hs)
  have P2 := Lib.hid (fun w => rplain_c s w hs)
  generalize nameB s.data.toList = nb at *
  generalize plainB s.data.toList = pb at *
  go_enter Try.func7, Try.ntmps7
  go_wp2_with fail
  refine (lalive_c _).mono ?_
  rintro e w1 ⟨rfl, t1⟩
  have T1 := Lib.hid t1
  clear t1
  go_wp2_with fail
  refine (N1.out _).mono ?_
  rintro e w2 ⟨rfl, rfl⟩
  go_wp2_with fail
  refine (N2.out _).mono ?_
  rintro e w2 ⟨rfl, rfl⟩
  go_wp2_with fail
  refine (P1.out _).mono ?_
  rintro e w2 ⟨rfl, rfl⟩
  go_wp2_with fail
  refine (P2.out _).mono ?_
  rintro e w2 ⟨rfl, rfl⟩
  go_wp2
  go_returns
  exact ⟨by simp, T1.out.noBelow⟩
end Go.Proofs.Ytmoiehbhhplckaa
