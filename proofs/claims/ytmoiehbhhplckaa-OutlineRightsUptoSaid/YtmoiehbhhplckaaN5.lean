/- Contracts. -/
import Derived.Test.YtmoiehbhhplckaaProg
import Derived.Test.YtmoiehbhhplckaaN4
import Derived.Tactics
import Derived.Tactics2
import Derived.WalkKit
import Derived.WalkSpells
import Derived.WalkLawsBesides
import Derived.StillTactics
import Derived.StillTailTactics
import Derived.OwnWalk
import Derived.Laws.Pointers
import Derived.Laws.ResultCell
import Derived.Deep.RegionHeld3
import Derived.Deep.RegionWith
import Derived.Deep.RegionLaw
import Derived.Deep.AppendLies
import Derived.Deep.QuietTactic
import Derived.BigQuiet
import Derived.LoopTactic
import Derived.Deep.LoopGhost
import Derived.Deep.DeepCutAuto
import Derived.Deep.DeepFit
import Derived.Maps.AppendAt
import Derived.Below
import Derived.Lib.Hide
import Derived.Handy
import Derived.KernelRfl
import Derived.IntWalk
import Derived.Laws.AppendOwnNone
import Derived.Laws.IdiomStrings
namespace Go.Proofs.Ytmoiehbhhplckaa
set_option linter.unusedVariables false
set_option linter.unusedSimpArgs false
open Go.RowKit

def YesNo (w : World) (e : Ending) (w' : World) : Prop := e = .returned (.bool true) ∧ Tch No w w'
theorem z_add : addV 1 2 = (3, true) := by decide +kernel
theorem z_mul : mulV 3 4 = (12, true) := by decide +kernel
theorem z_neg : negV (-9223372036854775808) = (0, false) := by decide +kernel
theorem z_dec : decL (-7) = [45, 55] := by
  unfold decL
  rw [if_pos (by omega), digs_lt (by decide)]
  decide +kernel
theorem fit_of {x : Int} (h : -9223372036854775808 ≤ x) (h' : x ≤ 9223372036854775807) : Fit x := ⟨h, h'⟩

set_option maxHeartbeats 800000 in
theorem alive_c (w : World) : Calls Try.prog 11 #[] w (YesNo w) := by
  go_enter Try.func11, Try.ntmps11
  go_wp2_with fail
  refine (add_c 1 2 _ (fit_of (by decide) (by decide)) (fit_of (by decide) (by decide))).mono ?_
  rintro e w' ⟨rfl, rfl⟩
  rw [z_add]
  go_wp2_with fail
  refine (mul_c 3 4 _ (fit_of (by decide) (by decide)) (fit_of (by decide) (by decide))).mono ?_
  rintro e w' ⟨rfl, rfl⟩
  rw [z_mul]
  go_wp2_with fail
  refine (neg_c (-9223372036854775808) _ (fit_of (by decide) (by decide))).mono ?_
  rintro e w' ⟨rfl, rfl⟩
  rw [z_neg]
  go_wp2_with fail
  refine (decimal_c (-7) _ (fit_of (by decide) (by decide))).mono ?_
  rintro e w' ⟨rfl, t1⟩
  rw [z_dec]
  go_wp2_with fail
  go_returns
  exact ⟨rfl, t1⟩

set_option maxHeartbeats 1600000 in
set_option maxRecDepth 100000 in
theorem tells_walk (a b : Int) (w : World) (h0 : -9223372036854775808 ≤ a) (h1 : a ≤ 9223372036854775807) (h2 : -9223372036854775808 ≤ b) (h3 : b ≤ 9223372036854775807) :
    Calls Try.prog 3 #[.int .i64 a, .int .i64 b] w fun e w' => e = .returned (.bool true) ∧ Below w.heap.size w w' := by
  have HA := Lib.hid (fit_of h0 h1)
  have HB := Lib.hid (fit_of h2 h3)
  go_enter Try.func3, Try.ntmps3
  go_wp2_with fail
  refine (alive_c _).mono ?_
  rintro e w1 ⟨rfl, t1⟩
  have T1 := Lib.hid t1
  clear t1
  go_wp2_with fail
  refine (add_c a b _ HA.out HB.out).mono ?_
  rintro e w' ⟨rfl, rfl⟩
  go_wp2_with fail
  refine (radd_c a b _ HA.out HB.out).mono ?_
  rintro e w' ⟨rfl, rfl⟩
  generalize addV a b = s
  go_wp2_with fail
  refine (sub_c a b _ HA.out HB.out).mono ?_
  rintro e w' ⟨rfl, rfl⟩
  go_wp2_with fail
  refine (rsub_c a b _ HA.out HB.out).mono ?_
  rintro e w' ⟨rfl, rfl⟩
  generalize subV a b = d
  go_wp2_with fail
  refine (mul_c a b _ HA.out HB.out).mono ?_
  rintro e w' ⟨rfl, rfl⟩
  go_wp2_with fail
  refine (rmul_c a b _ HA.out HB.out).mono ?_
  rintro e w' ⟨rfl, rfl⟩
  generalize mulV a b = m
  go_wp2_with fail
  refine (neg_c a _ HA.out).mono ?_
  rintro e w' ⟨rfl, rfl⟩
  go_wp2_with fail
  refine (rneg_c a _ HA.out).mono ?_
  rintro e w' ⟨rfl, rfl⟩
  generalize negV a = k
  go_wp2
  go_returns
  exact ⟨rfl, T1.out.noBelow⟩

theorem addV_comm (a b : Int) : addV b a = addV a b := by unfold addV; rw [Int.add_comm]
theorem mulV_comm (a b : Int) : mulV b a = mulV a b := by unfold mulV; rw [Int.mul_comm]
theorem addV_is {a b : Int} (h : Fit (a + b)) : addV a b = (a + b, true) := if_pos h
theorem addV_not {a b : Int} (h : ¬ Fit (a + b)) : addV a b = (0, false) := if_neg h
theorem subV_back (a b : Int) (h : Fit a) : subV (a + b) b = (a, true) := by
  unfold subV
  rw [show a + b - b = a by omega]
  exact if_pos h
theorem over_sum {a b c : Int} (h1 : (mulV a c).2 = true) (h2 : (mulV b c).2 = true) (h3 : (mulV (a + b) c).2 = true) (h5 : (addV (mulV a c).1 (mulV b c).1).2 = true) : (addV (mulV a c).1 (mulV b c).1).1 = (mulV (a + b) c).1 := by
  have g : ∀ x y : Int, (mulV x y).2 = true → (mulV x y).1 = x * y := by
    intro x y h
    unfold mulV at h ⊢
    split at h
    · rename_i hh; rw [if_pos hh]
    · cases h
  have k : ∀ x y : Int, (addV x y).2 = true → (addV x y).1 = x + y := by
    intro x y h
    unfold addV at h ⊢
    split at h
    · rename_i hh; rw [if_pos hh]
    · cases h
  rw [k _ _ h5, g _ _ h1, g _ _ h2, g _ _ h3, Int.add_mul]
theorem mulV_cases (x y : Int) : ∃ p o, mulV x y = (p, o) ∧ Fit p := ⟨_, _, rfl, mulV_fit x y⟩
theorem addV_cases (x y : Int) : ∃ p o, addV x y = (p, o) ∧ Fit p := ⟨_, _, rfl, addV_fit x y⟩

set_option maxHeartbeats 3200000 in
set_option maxRecDepth 100000 in
theorem undoes_walk (a b c : Int) (w : World) (h0 : -9223372036854775808 ≤ a) (h1 : a ≤ 9223372036854775807) (h2 : -9223372036854775808 ≤ b) (h3 : b ≤ 9223372036854775807) (h4 : -9223372036854775808 ≤ c) (h5 : c ≤ 9223372036854775807) :
    Calls Try.prog 4 #[.int .i64 a, .int .i64 b, .int .i64 c] w fun e w' => e = .returned (.bool true) ∧ Below w.heap.size w w' := by
  have HA := Lib.hid (fit_of h0 h1)
  have HB := Lib.hid (fit_of h2 h3)
  have HC := Lib.hid (fit_of h4 h5)
  obtain ⟨s, ok, hs, hsf⟩ := addV_cases a b
  have hback : ok = true → subV s b = (a, true) := by
    intro h
    subst h
    have : s = a + b := by
      unfold addV at hs
      split at hs
      · injection hs with h _; exact h.symm
      · injection hs with _ h; cases h
    subst this
    exact subV_back a b HA.out
  obtain ⟨p, o1, hp, hpf⟩ := mulV_cases a c
  obtain ⟨q, o2, hq, hqf⟩ := mulV_cases b c
  obtain ⟨r, o3, hr, hrf⟩ := mulV_cases s c
  obtain ⟨v, o5, hv, hvf⟩ := addV_cases p q
  have hfin : ok = true → o1 = true → o2 = true → o3 = true → o5 = true → (v == r) = true := by
    intro k0 k1 k2 k3 k5
    subst k0 k1 k2 k3 k5
    have e : s = a + b := by
      unfold addV at hs
      split at hs
      · injection hs with h _; exact h.symm
      · injection hs with _ h; cases h
    subst e
    have := over_sum (a := a) (b := b) (c := c) (by rw [hp]) (by rw [hq]) (by rw [hr]) (by rw [hp, hq, hv])
    rw [hp, hq, hr, hv] at this
    simpa using this
  have FF := Lib.hid (And.intro (And.intro hs (And.intro hp (And.intro hq (And.intro hr hv)))) (And.intro hback hfin))
  have FT := Lib.hid (And.intro hsf (And.intro hpf (And.intro hqf (And.intro hrf hvf))))
  clear hs hp hq hr hv hback hfin hsf hpf hqf hrf hvf
  cases ok
  · go_enter Try.func4, Try.ntmps4
    go_wp2_with fail
    refine (alive_c _).mono ?_
    rintro e w1 ⟨rfl, t1⟩
    have T1 := Lib.hid t1
    clear t1
    go_wp2_with fail
    refine (add_c a b _ HA.out HB.out).mono ?_
    rintro e w' ⟨rfl, rfl⟩
    rw [FF.out.1.1]
    go_wp2_with fail
    refine (add_c b a _ HB.out HA.out).mono ?_
    rintro e w' ⟨rfl, rfl⟩
    rw [addV_comm a b, FF.out.1.1]
    go_wp2_with fail
    refine (sub_c s b _ FT.out.1 HB.out).mono ?_
    rintro e w' ⟨rfl, rfl⟩
    generalize subV s b = d
    go_wp2_with fail
    refine (mul_c a c _ HA.out HC.out).mono ?_
    rintro e w' ⟨rfl, rfl⟩
    rw [FF.out.1.2.1]
    go_wp2_with fail
    refine (mul_c b c _ HB.out HC.out).mono ?_
    rintro e w' ⟨rfl, rfl⟩
    rw [FF.out.1.2.2.1]
    go_wp2_with fail
    refine (mul_c s c _ FT.out.1 HC.out).mono ?_
    rintro e w' ⟨rfl, rfl⟩
    rw [FF.out.1.2.2.2.1]
    go_wp2_with fail
    refine (mul_c c s _ HC.out FT.out.1).mono ?_
    rintro e w' ⟨rfl, rfl⟩
    rw [mulV_comm s c, FF.out.1.2.2.2.1]
    go_wp2_with fail
    refine (add_c p q _ FT.out.2.1 FT.out.2.2.1).mono ?_
    rintro e w' ⟨rfl, rfl⟩
    rw [FF.out.1.2.2.2.2]
    go_wp2
    go_returns
    exact ⟨rfl, T1.out.noBelow⟩
  · go_enter Try.func4, Try.ntmps4
    go_wp2_with fail
    refine (alive_c _).mono ?_
    rintro e w1 ⟨rfl, t1⟩
    have T1 := Lib.hid t1
    clear t1
    go_wp2_with fail
    refine (add_c a b _ HA.out HB.out).mono ?_
    rintro e w' ⟨rfl, rfl⟩
    rw [FF.out.1.1]
    go_wp2_with fail
    refine (add_c b a _ HB.out HA.out).mono ?_
    rintro e w' ⟨rfl, rfl⟩
    rw [addV_comm a b, FF.out.1.1]
    go_wp2_with fail
    refine (sub_c s b _ FT.out.1 HB.out).mono ?_
    rintro e w' ⟨rfl, rfl⟩
    rw [FF.out.2.1 (by trivial)]
    go_wp2_with fail
    refine (mul_c a c _ HA.out HC.out).mono ?_
    rintro e w' ⟨rfl, rfl⟩
    rw [FF.out.1.2.1]
    go_wp2_with fail
    refine (mul_c b c _ HB.out HC.out).mono ?_
    rintro e w' ⟨rfl, rfl⟩
    rw [FF.out.1.2.2.1]
    go_wp2_with fail
    refine (mul_c s c _ FT.out.1 HC.out).mono ?_
    rintro e w' ⟨rfl, rfl⟩
    rw [FF.out.1.2.2.2.1]
    go_wp2_with fail
    refine (mul_c c s _ HC.out FT.out.1).mono ?_
    rintro e w' ⟨rfl, rfl⟩
    rw [mulV_comm s c, FF.out.1.2.2.2.1]
    go_wp2_with fail
    refine (add_c p q _ FT.out.2.1 FT.out.2.2.1).mono ?_
    rintro e w' ⟨rfl, rfl⟩
    rw [FF.out.1.2.2.2.2]
    cases o1
    · go_wp2
      go_returns
      exact ⟨rfl, T1.out.noBelow⟩
    cases o2
    · go_wp2
      go_returns
      exact ⟨rfl, T1.out.noBelow⟩
    cases o3
    · go_wp2
      go_returns
      exact ⟨rfl, T1.out.noBelow⟩
    cases o5
    · go_wp2
      go_returns
      exact ⟨rfl, T1.out.noBelow⟩
    have hvr := FF.out.2.2 (by trivial) (by trivial) (by trivial) (by trivial) (by trivial)
    go_wp2
    go_returns
    exact ⟨rfl, T1.out.noBelow⟩
end Go.Proofs.Ytmoiehbhhplckaa
