/- the page's list. Conditions: the expressions may be. -/
import Derived.Test.YtmoiehbhhplckaaProg
import Derived.Test.YtmoiehbhhplckaaX10
import Derived.Tactics
import Derived.Tactics2
import Derived.WalkKit
import Derived.WalkSpells
import Derived.WalkLawsBesides
import Derived.StillTactics
import Derived.StillTailTactics
import Derived.OwnWalk
import Derived.Laws.Pointers
import Derived.Laws.ResultCell
import Derived.Deep.RegionHeld3
import Derived.Deep.RegionWith
import Derived.Deep.RegionLaw
import Derived.Deep.AppendLies
import Derived.Deep.QuietTactic
import Derived.BigQuiet
import Derived.LoopTactic
import Derived.Deep.LoopGhost
import Derived.Deep.DeepCutAuto
import Derived.Deep.DeepFit
import Derived.Maps.AppendAt
import Derived.Below
import Derived.Lib.Hide
import Derived.Handy
import Derived.KernelRfl
import Derived.IntWalk
import Derived.Laws.AppendOwnNone
import Derived.Laws.IdiomStrings
namespace Go.Proofs.Ytmoiehbhhplckaa
set_option linter.unusedVariables false
set_option linter.unusedSimpArgs false
open Go.RowKit

def okK (k n : Int) (m : Nat) : Prop := k = 4 ∨ ((k = 11 ∨ k = 12 ∨ k = 18 ∨ k = 25 ∨ k = 22 ∨ k = 23) ∧ m = 1) ∨ ((k = 8 ∨ k = 9 ∨ k = 10 ∨ k = 14 ∨ k = 15 ∨ k = 16 ∨ k = 17 ∨ k = 19 ∨ k = 20 ∨ k = 24) ∧ m = 2) ∨
  ((k = 1 ∨ k = 2 ∨ k = 3 ∨ k = 5 ∨ k = 6 ∨ k = 7 ∨ k = 13 ∨ k = 21) ∧ m = 0 ∧ (k = 2 → n = 0 ∨ n = 1))
def vF : Fo → Prop
  | .nil => True
  | .cons k _ n _ _ kids rest => okK k n kids.len ∧ vF kids ∧ vF rest
def RrC (k : Int) (nm : ByteArray) (n lo hi : Int) (kids : Fo) : Prop := okK k n kids.len → vF kids → ∀ (A : Option Addr) (c : Nat) (w0 w : World), Tch No w0 w → KA w0 kids A kids.len → Calls Try.prog 36 #[xagg k nm n lo hi A kids.len c] w (Str1 (prX k nm n lo hi (prs kids)) w)
/-- what is written so far, ahead of the rest -/
def SoFar (kids : Fo) (i : Nat) (W : List UInt8) (r : Fo) : Prop := (i = 0 ∧ W = [] ∧ r = kids) ∨ (0 < i ∧ W ++ Lib.joinTail sepC (prs r) = Lib.join (prs kids) sepC)
theorem sofar_len {kids : Fo} {i : Nat} {W : List UInt8} {r : Fo} (h : SoFar kids i W r) : W.length ≤ (Lib.join (prs kids) sepC).length := by
  rcases h with ⟨_, rfl, _⟩ | ⟨_, h⟩
  · simp
  · rw [← h]; simp
theorem sofar_done {kids : Fo} {i : Nat} {W : List UInt8} (h : SoFar kids i W .nil) : W = Lib.join (prs kids) sepC := by
  rcases h with ⟨_, rfl, rfl⟩ | ⟨_, h⟩
  · simp [prs, Lib.join_nil]
  · rw [← h]; simp [prs, Lib.joinTail]
theorem sofar_first {kids : Fo} {W : List UInt8} {k : Int} {nm : ByteArray} {n lo hi : Int} {ks r : Fo} (h : SoFar kids 0 W (.cons k nm n lo hi ks r)) : W = [] ∧ SoFar kids 1 (prX k nm n lo hi (prs ks)) r := by
  rcases h with ⟨_, rfl, rfl⟩ | ⟨h0, _⟩
  · exact ⟨rfl, .inr ⟨by omega, by simp [prs, Lib.join_cons]⟩⟩
  · omega
theorem sofar_next {kids : Fo} {i : Nat} {W : List UInt8} {k : Int} {nm : ByteArray} {n lo hi : Int} {ks r : Fo} (hi0 : 0 < i) (h : SoFar kids i W (.cons k nm n lo hi ks r)) : SoFar kids (i + 1) ((W ++ [44, 32]) ++ prX k nm n lo hi (prs ks)) r := by
  rcases h with ⟨h0, _, _⟩ | ⟨_, h⟩
  · omega
  · refine .inr ⟨by omega, ?_⟩
    rw [← h]
    simp [prs, Lib.joinTail, sepC]
set_option maxHeartbeats 8000000 in
set_option maxRecDepth 100000 in
theorem rlist_c (kids : Fo) (hw : wF kids ≤ 100000000) (hf : fitF kids) (hv : vF kids) (H : Each RrC kids) (A : Option Addr) (c : Nat) (w0 w : World) (ht0 : Tch No w0 w) (hk : KA w0 kids A kids.len) :
    Calls Try.prog 59 #[.slice A kids.len c] w (Str1 (Lib.join (prs kids) sepC) w) := by
  have HK := Lib.hid hk
  have HT0 := Lib.hid ht0
  have HH := Lib.hid H
  have HV := Lib.hid hv
  have hlw := len_wF kids
  have hlen := join_tl (prs kids)
  have htl := prs_tl kids hf
  have HJL : Hid ((Lib.join (prs kids) sepC).length ≤ 100000000) := by show _ ≤ _; omega
  clear hk ht0 H hlen htl hf hv
  go_enter Try.func59, Try.ntmps59
  go_wp2_with fail
  go_loopw [3, 4] (fun sv iv wr => ∃ (i : Nat) (r : Fo) (W : List UInt8), i + r.len = kids.len ∧ iv = .int .i64 i ∧ sv = .string ⟨W.toArray⟩ ∧ SoFar kids i W r ∧ vF r ∧ Each RrC r ∧ (r.len = 0 ∨ ∃ g o, A = some ⟨g, o, none⟩ ∧ FoA w0 r g (o + i * 6)) ∧ Tch No w wr) (fun _ iv _ => kids.len - (intOf iv).toNat)
  case atStart => exact ⟨0, kids, [], by omega, rfl, rfl, .inl ⟨rfl, rfl, rfl⟩, HV.out, HH.out, by simpa using HK.out.2, Tch.refl _ _⟩
  case round =>
    obtain ⟨i, r, W, hil, rfl, rfl, hs, hvr, hE, hfo, ht⟩ := hrel
    have HT := Lib.hid ht
    have HS := Lib.hid hs
    have hWl : W.length ≤ 100000000 := Nat.le_trans (sofar_len hs) HJL.out
    clear ht hs
    cases r with
    | nil =>
      have hlt : ¬ ((i : Int) < (kids.len : Int)) := by simp only [Fo.len] at hil; omega
      have hall := Lib.hid (sofar_done HS.out)
      clear hfo hE hil hvr
      go_wp2
      go_returns
      exact ⟨by rw [← hall.out]; rfl, HT.out⟩
    | cons k1 nm1 n1 lo1 hi1 kids1 rest =>
      simp only [Fo.len] at hil hfo
      rcases hfo with hfo | ⟨g, o, hA, hfo⟩
      · omega
      subst hA
      obtain ⟨A1, c1, ⟨x0, x1, x2, x3, x4, x5⟩, hk1, hr1⟩ := foa_first (FoA.tch (HT0.out.and HT.out) _ _ _ hfo)
      obtain ⟨A2, c2, hcc, hk0, hr2⟩ := foa_first hfo
      obtain ⟨rfl, rfl⟩ : A2 = A1 ∧ c2 = c1 := by
        have h5 := (HT0.out.and HT.out).cell (fun f => f) hcc.2.2.2.2.2
        rw [x5] at h5
        simp at h5
        exact ⟨h5.1.symm, h5.2.symm⟩
      have hlt : (i : Int) < (kids.len : Int) := by omega
      have DC := Lib.hid (hE.1 hvr.1 hvr.2.1 A2 c2 w0 wr (HT0.out.and HT.out) hk0)
      have HVR := Lib.hid hvr.2.2
      have HE := Lib.hid hE.2
      have HR := Lib.hid hr2
      unfold xagg at DC
      have hil2 : i + 1 + rest.len = kids.len := by omega
      have hL := Lib.hid hil2
      clear hk1 hr1 hfo hE hil hr2 hil2 hcc hk0 hvr
      rcases Nat.eq_zero_or_pos i with hi0 | hi0
      · subst hi0
        have h9 := sofar_first HS.out
        obtain ⟨rfl, h9⟩ := h9
        have H9 := Lib.hid h9
        have hXl := Nat.le_trans (sofar_len h9) HJL.out
        clear h9 HS
        rw [Nat.zero_mul, Nat.add_zero] at x0 x1 x2 x3 x4 x5
        generalize prX k1 nm1 n1 lo1 hi1 (prs kids1) = X at *
        go_wp2_with (first | (go_at_call 36; go_must (refine DC.out.mono ?_; rintro e w5 ⟨rfl, t5⟩; have T5 := Lib.hid (HT.out.and t5); clear t5)) | fail)
        refine ⟨⟨1, rest, X, by have := hL.out; omega, by simp, ?_, H9.out, HVR.out, HE.out, .inr ⟨g, o, rfl, ?_⟩, T5.out⟩, by have := hL.out; simp [intOf]; omega⟩
        · show Value.string (⟨(([] : List UInt8)).toArray⟩ ++ ⟨X.toArray⟩) = _
          rw [bapp]; rfl
        · have h9 := HR.out
          simpa using h9
      · have H9 := Lib.hid (sofar_next hi0 HS.out)
        have hXl := Nat.le_trans (sofar_len H9.out) HJL.out
        rw [List.length_append] at hXl
        have hip : (0 : Int) < (i : Int) := by omega
        generalize prX k1 nm1 n1 lo1 hi1 (prs kids1) = X at *
        have m1 : ¬ (9223372036854775807 < W.length + 2) := by omega
        have m2 : ¬ (9223372036854775807 < W.length + 2 + X.length) := by omega
        clear hXl
        go_wp2_with (first | (go_at_call 36; go_must (refine DC.out.mono ?_; rintro e w5 ⟨rfl, t5⟩; have T5 := Lib.hid (HT.out.and t5); clear t5)) | fail)
        refine ⟨⟨i + 1, rest, (W ++ [44, 32]) ++ X, hL.out, by simp, ?_, H9.out, HVR.out, HE.out, .inr ⟨g, o, rfl, ?_⟩, T5.out⟩, by have := hL.out; simp [intOf]; omega⟩
        · rw [← bapp, ← bapp]
        · have h9 := HR.out
          rw [show o + (i + 1) * 6 = o + i * 6 + 6 by omega]
          exact h9
end Go.Proofs.Ytmoiehbhhplckaa
