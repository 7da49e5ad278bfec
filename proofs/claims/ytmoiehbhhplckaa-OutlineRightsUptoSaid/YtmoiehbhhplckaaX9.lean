/- print's list. Conditions: the expressions lie there. -/
import Derived.Test.YtmoiehbhhplckaaProg
import Derived.Test.YtmoiehbhhplckaaX8
import Derived.Tactics
import Derived.Tactics2
import Derived.WalkKit
import Derived.WalkSpells
import Derived.WalkLawsBesides
import Derived.StillTactics
import Derived.StillTailTactics
import Derived.OwnWalk
import Derived.Laws.Pointers
import Derived.Laws.ResultCell
import Derived.Deep.RegionHeld3
import Derived.Deep.RegionWith
import Derived.Deep.RegionLaw
import Derived.Deep.AppendLies
import Derived.Deep.QuietTactic
import Derived.BigQuiet
import Derived.LoopTactic
import Derived.Deep.LoopGhost
import Derived.Deep.DeepCutAuto
import Derived.Deep.DeepFit
import Derived.Maps.AppendAt
import Derived.Below
import Derived.Lib.Hide
import Derived.Handy
import Derived.KernelRfl
import Derived.IntWalk
import Derived.Laws.AppendOwnNone
import Derived.Laws.IdiomStrings
namespace Go.Proofs.Ytmoiehbhhplckaa
set_option linter.unusedVariables false
set_option linter.unusedSimpArgs false
open Go.RowKit

def sepC : List UInt8 := [44, 32]
def prX (k : Int) (nm : ByteArray) (n lo hi : Int) (ts : List (List UInt8)) : List UInt8 :=
  if k = 4 then ([123] ++ Lib.join ts sepC) ++ [125]
  else if k = 11 then [45] ++ Lib.join ts sepC
  else if k = 18 then [110, 111, 116, 32] ++ Lib.join ts sepC
  else if k = 12 ∨ k = 25 then ((wordP k ++ [40]) ++ Lib.join ts sepC) ++ [41]
  else if 22 ≤ k ∧ k ≤ 24 then (((wordP k ++ spanP lo hi) ++ [40]) ++ Lib.join ts sepC) ++ [41]
  else match ts with
    | [a, b] => ((((([40] ++ a) ++ [32]) ++ signP k) ++ [32]) ++ b) ++ [41]
    | _ => leafP k nm n hi
def prs : Fo → List (List UInt8)
  | .nil => []
  | .cons k nm n lo hi kids rest => prX k nm n lo hi (prs kids) :: prs rest
def fitF : Fo → Prop
  | .nil => True
  | .cons _ _ n lo hi kids rest => Fit n ∧ Fit lo ∧ Fit hi ∧ fitF kids ∧ fitF rest
def tl (ts : List (List UInt8)) : Nat := (ts.map fun t => t.length + 2).sum
theorem prs_length (f : Fo) : (prs f).length = f.len := by
  induction f with
  | nil => rfl
  | cons k nm n lo hi kids rest _ ihr => simp [prs, Fo.len, ihr]
theorem join_tl (ts : List (List UInt8)) : (Lib.join ts sepC).length ≤ tl ts := by
  cases ts with
  | nil => simp [Lib.join_nil]
  | cons t r =>
    rw [Lib.join_cons]
    unfold Lib.joinTail tl
    have h : ∀ r : List (List UInt8), ((r.map (sepC ++ ·)).flatten).length = (r.map fun t => t.length + 2).sum := by
      intro r
      induction r with
      | nil => simp
      | cons x r ih => simp [sepC] at ih ⊢; omega
    rw [List.length_append, h]
    simp
theorem wordp_len (k : Int) : (wordP k).length ≤ 5 := by
  unfold wordP
  repeat' split
  all_goals decide
theorem sign_len (k : Int) : (signP k).length ≤ 3 := by
  unfold signP
  repeat' split
  all_goals decide
theorem span_len {lo hi : Int} (h1 : Fit lo) (h2 : Fit hi) : (spanP lo hi).length ≤ 43 := by
  have l1 := dec_len h1
  have l2 := dec_len h2
  unfold spanP
  split <;> simp <;> omega
theorem leaf_len (k : Int) (nm : ByteArray) {n hi : Int} (h1 : Fit n) (h2 : Fit hi) : (leafP k nm n hi).length ≤ nm.size + 29 := by
  have l1 := dec_len h1
  have l2 := dec_len h2
  have hn : nm.data.toList.length = nm.size := by simp
  unfold leafP
  repeat' split
  all_goals first | omega | (simp only [List.length_append, List.length_cons, List.length_nil, hn]; omega)
theorem prX_len (k : Int) (nm : ByteArray) {n lo hi : Int} (ts : List (List UInt8)) (h1 : Fit n) (h2 : Fit lo) (h3 : Fit hi) : (prX k nm n lo hi ts).length ≤ nm.size + 60 + tl ts := by
  have a1 := join_tl ts
  have a2 := wordp_len k
  have a3 := sign_len k
  have a4 := span_len h2 h3
  have a5 := leaf_len k nm h1 h3
  unfold prX
  split
  · simp; omega
  split
  · simp; omega
  split
  · simp; omega
  split
  · simp; omega
  split
  · simp; omega
  split
  · rename_i a b
    simp [tl]; omega
  · omega
theorem prs_tl (f : Fo) (h : fitF f) : tl (prs f) ≤ wF f := by
  induction f with
  | nil => simp [prs, tl, wF]
  | cons k nm n lo hi kids rest ihk ihr =>
    obtain ⟨h1, h2, h3, h4, h5⟩ := h
    have a1 := ihk h4
    have a2 := ihr h5
    have a3 := prX_len k nm (prs kids) h1 h2 h3
    simp only [prs, wF]
    have e : tl (prX k nm n lo hi (prs kids) :: prs rest) = (prX k nm n lo hi (prs kids)).length + 2 + tl (prs rest) := by simp [tl]
    rw [e]
    omega
theorem each_wf {P : Int → ByteArray → Int → Int → Int → Fo → Prop} (W : Nat) (step : ∀ k nm n lo hi kids, nm.size ≤ W → wF kids ≤ W → Fit n → Fit lo → Fit hi → fitF kids → Each P kids → P k nm n lo hi kids) : ∀ f, wF f ≤ W → fitF f → Each P f := by
  intro f
  induction f with
  | nil => intro _ _; trivial
  | cons k nm n lo hi kids rest ihk ihr =>
    intro hw ⟨h1, h2, h3, h4, h5⟩
    simp only [wF] at hw
    exact ⟨step k nm n lo hi kids (by omega) (by omega) h1 h2 h3 h4 (ihk (by omega) h4), ihr (by omega) h5⟩
def PrC (k : Int) (nm : ByteArray) (n lo hi : Int) (kids : Fo) : Prop := ∀ (A : Option Addr) (c : Nat) (w0 w : World), Tch No w0 w → KA w0 kids A kids.len → Calls Try.prog 64 #[xagg k nm n lo hi A kids.len c] w (Str1 (prX k nm n lo hi (prs kids)) w)
set_option maxHeartbeats 8000000 in
set_option maxRecDepth 100000 in
theorem pall_c (kids : Fo) (hw : wF kids ≤ 100000000) (hf : fitF kids) (H : Each PrC kids) (A : Option Addr) (c : Nat) (w0 w : World) (ht0 : Tch No w0 w) (hk : KA w0 kids A kids.len) :
    Calls Try.prog 75 #[.slice A kids.len c] w (Str1 (Lib.join (prs kids) sepC) w) := by
  obtain ⟨i0, hi0, hz0, hz1, hz2⟩ := info_parts Try.info9
  have HK := Lib.hid hk
  have HT0 := Lib.hid ht0
  have HH := Lib.hid H
  have hlw := len_wF kids
  have hlen := join_tl (prs kids)
  have htl := prs_tl kids hf
  have hpl := prs_length kids
  have HPL := Lib.hid hpl
  have HJL : Hid ((Lib.join (prs kids) sepC).length ≤ 140737488355328) := by show _ ≤ _; omega
  clear hk ht0 H hlen htl hpl hf
  go_enter Try.func75, Try.ntmps75
  go_wp2_with fail
  go_loopw [3, 8] (fun lv iv wr => ∃ (i : Nat) (r : Fo) (L : List (List UInt8)), i + r.len = kids.len ∧ iv = .int .i64 i ∧ wr.ownsRow w.heap.size 9 1 lv L.length (strs L) ∧ L ++ prs r = prs kids ∧ Each PrC r ∧ (r.len = 0 ∨ ∃ g o, A = some ⟨g, o, none⟩ ∧ FoA w0 r g (o + i * 6)) ∧ Tch No w wr) (fun _ iv _ => kids.len - (intOf iv).toNat)
  case atStart => exact ⟨0, kids, [], by omega, rfl, World.ownsRow_nil .., rfl, HH.out, by simpa using HK.out.2, Tch.refl _ _⟩
  case round =>
    obtain ⟨i, r, L, hil, rfl, ho, hm, hE, hfo, ht⟩ := hrel
    have HT := Lib.hid ht
    have HO := Lib.hid ho
    have HM := Lib.hid hm
    have hlen := congrArg List.length hm
    rw [List.length_append, HPL.out] at hlen
    have hsz := ht.size
    clear ht ho hm
    cases r with
    | nil =>
      have hlt : ¬ ((i : Int) < (kids.len : Int)) := by simp only [Fo.len] at hil; omega
      have hall : Hid (L = prs kids) := by rw [← HM.out]; show _ = _; simp [prs]
      clear hfo hE hil
      rcases Nat.eq_zero_or_pos L.length with h0 | hp
      · obtain ⟨A', c', rfl⟩ := own_slice HO.out
        have hL0 : L = [] := List.eq_nil_of_length_eq_zero h0
        have JN := Lib.hid (Try.strings_Join_none A' c' ⟨sepC.toArray⟩ wr)
        have hjn : Hid (Lib.join (prs kids) sepC = []) := by rw [← hall.out, hL0]; exact Lib.join_nil _
        have hle : ((L.length : Nat) : Int) = 0 := by omega
        rw [h0]
        clear hall hL0 h0 HO HM hlen hle
        go_wp2_with (go_at_call 53; go_must (refine JN.out.mono ?_; rintro e w7 ⟨rfl, rfl⟩))
        go_returns
        exact ⟨by rw [hjn.out]; rfl, HT.out⟩
      · have JC := Lib.hid (join_c HO.out hp (by omega) sepC (by rw [hall.out]; exact HJL.out))
        rw [hall.out] at JC
        clear hall hlen HM
        go_wp2_with (go_at_call 53; go_must (refine JC.out.mono ?_; rintro e w7 ⟨rfl, t7⟩; have T7 := Lib.hid (HT.out.and t7); clear t7))
        go_returns
        exact ⟨rfl, T7.out⟩
    | cons k1 nm1 n1 lo1 hi1 kids1 rest =>
      simp only [Fo.len] at hil hfo
      rcases hfo with hfo | ⟨g, o, hA, hfo⟩
      · omega
      subst hA
      obtain ⟨A1, c1, ⟨x0, x1, x2, x3, x4, x5⟩, hk1, hr1⟩ := foa_first (FoA.tch (HT0.out.and HT.out) _ _ _ hfo)
      obtain ⟨A2, c2, hcc, hk0, hr2⟩ := foa_first hfo
      obtain ⟨rfl, rfl⟩ : A2 = A1 ∧ c2 = c1 := by
        have h5 := (HT0.out.and HT.out).cell (fun f => f) hcc.2.2.2.2.2
        rw [x5] at h5
        simp at h5
        exact ⟨h5.1.symm, h5.2.symm⟩
      have hlt : (i : Int) < (kids.len : Int) := by omega
      have DC := Lib.hid (fun w' (t : Tch No w w') => hE.1 A2 c2 w0 w' (HT0.out.and t) hk0)
      have HE := Lib.hid hE.2
      have HR := Lib.hid hr2
      unfold xagg at DC
      have hil2 : i + 1 + rest.len = kids.len := by omega
      have hL := Lib.hid hil2
      have hm6 : Hid ((L ++ [prX k1 nm1 n1 lo1 hi1 (prs kids1)]) ++ prs rest = prs kids) := by
        rw [List.append_assoc]; exact HM.out
      have hk1' : L.length + 1 ≤ maxLen := by unfold maxLen; omega
      have hk2' : (L.length + 1) * 16 ≤ 140737488355328 := by omega
      clear hk1 hr1 hfo hE hil hr2 hil2 hlen hcc hk0 HM
      generalize prX k1 nm1 n1 lo1 hi1 (prs kids1) = X at *
      go_wp2_with (first
        | (at_builtin; go_must (refine wpList_append_own_at _ rfl (.tmp 12) (.tmp 15) _ rfl w.heap.size 9 i0 _ 1 16 Try.underlying57 hi0 hz0 hz1 hz2 rfl (by decide) u3 L.length _ rfl (O5.out.alloc _) ⟨w5.heap.size, 0, none⟩ 1 1 (strs [X]) rfl rfl (str_new w5 _) (strs_one [X]) hk1' hk2' (le_alloc hs5 _) ?_; intro v6 w6 ho6 hg6 hn6 ha6; have T6 := Lib.hid (grown_no hg6 (T5.out.alloc _) (own_base O5.out)); have O6 := Lib.hid ho6; clear ho6 hg6 hn6 ha6))
        | (go_at_call 64; go_must (refine (DC.out _ (HT.out.alloc _)).mono ?_; rintro e w5 ⟨rfl, t5⟩; have T5 := Lib.hid ((HT.out.alloc _).and t5); have O5 := Lib.hid (t5.own (HO.out.alloc _) (fun _ _ f => f)); have hs5 := T5.out.size; clear t5))
        | fail)
      have ho6 : Hid (w6.ownsRow w.heap.size 9 1 v6 (L ++ [X]).length (strs (L ++ [X]))) := by
        rw [List.length_append, strs_snoc]; exact O6.out
      refine ⟨⟨i + 1, rest, L ++ [X], hL.out, by simp, ho6.out, hm6.out, HE.out, .inr ⟨g, o, rfl, ?_⟩, T6.out⟩, by have := hL.out; simp [intOf]; omega⟩
      have h9 := HR.out
      rw [show o + (i + 1) * 6 = o + i * 6 + 6 by omega]
      exact h9
end Go.Proofs.Ytmoiehbhhplckaa
