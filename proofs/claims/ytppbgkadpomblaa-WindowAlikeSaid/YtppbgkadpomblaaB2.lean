/- Plain lists: what a tally remembers, and what the page tells. Conditions: none. -/
import Derived.Test.YtppbgkadpomblaaProg
import Derived.Test.YtppbgkadpomblaaB1
import Derived.Tactics
import Derived.Tactics2
import Derived.WalkKit
import Derived.WalkSpells
import Derived.WalkLawsBesides
import Derived.StillTactics
import Derived.StillTailTactics
import Derived.OwnWalk
import Derived.Laws.Pointers
import Derived.Laws.ResultCell
import Derived.Deep.RegionHeld3
import Derived.Deep.RegionWith
import Derived.Deep.RegionLaw
import Derived.Deep.AppendLies
import Derived.Deep.QuietTactic
import Derived.BigQuiet
import Derived.LoopTactic
import Derived.Deep.LoopGhost
import Derived.Deep.DeepCutAuto
import Derived.Deep.DeepFit
import Derived.Maps.AppendAt
import Derived.Below
import Derived.Lib.Hide
import Derived.Handy
import Derived.KernelRfl
import Derived.IntWalk
import Derived.Laws.AppendOwnNone
import Derived.Laws.IdiomStrings
namespace Go.Proofs.Ytppbgkadpomblaa
set_option linter.unusedVariables false
set_option linter.unusedSimpArgs false
open Go.RowKit

/-! ## times put one behind the other -/
theorem snoc_ind {α : Type} {P : List α → Prop} (h0 : P []) (h : ∀ l x, P l → P (l ++ [x])) : ∀ l, P l := by
  intro l
  obtain ⟨n, hn⟩ : ∃ n, l.length = n := ⟨_, rfl⟩
  induction n generalizing l with
  | zero => rw [List.eq_nil_of_length_eq_zero hn]; exact h0
  | succ n ih =>
    rcases List.eq_nil_or_concat l with e | ⟨p, c, e⟩
    · subst e; cases hn
    · rw [List.concat_eq_append] at e
      subst e
      exact h p c (ih p (by simpa using hn))
def Gr (F : List Int) : List Cl := F.foldl pushL []
theorem Gr_snoc (F : List Int) (t : Int) : Gr (F ++ [t]) = pushL (Gr F) t := by unfold Gr; rw [List.foldl_append]; rfl
abbrev Nd (F : List Int) : Prop := F.Pairwise (· ≤ ·)
theorem nd_snoc {F : List Int} {t : Int} : Nd (F ++ [t]) ↔ Nd F ∧ ∀ y ∈ F, y ≤ t := by
  unfold Nd
  rw [List.pairwise_append]
  simp
structure GInfo (F : List Int) (l : List Cl) : Prop where
  up : Up l
  cnt : ∀ x ∈ l, 1 ≤ x.n ∧ x.n ≤ F.length
  len : l.length ≤ F.length
  sum : F.length ≤ 32768 → sumL l = F.length
  emp : F = [] → l = []
  lst : ∀ x, l.getLast? = some x → F.getLast? = some x.at_
  has : F ≠ [] → ∃ x, l.getLast? = some x
theorem ginfo (F : List Int) : Nd F → GInfo F (Gr F) := by
  refine snoc_ind (P := fun F => Nd F → GInfo F (Gr F)) ?_ ?_ F
  · intro _
    exact ⟨trivial, fun x hx => (by cases hx), Nat.le_refl _, fun _ => rfl, fun _ => rfl, fun x hx => (by cases hx), fun h => absurd rfl h⟩
  · intro F t ih hnd
    obtain ⟨h1, h2⟩ := nd_snoc.1 hnd
    have I := ih h1
    rw [Gr_snoc]
    have hl : (F ++ [t]).length = F.length + 1 := by simp
    by_cases hF : F = []
    · subst hF
      rw [I.emp rfl]
      have e : pushL [] t = [⟨t, 1⟩] := rfl
      rw [e]
      refine ⟨trivial, fun x hx => ?_, by simp, fun _ => rfl, fun h => by simp at h, fun x hx => ?_, fun _ => ⟨_, rfl⟩⟩
      · simp at hx; subst hx; simp
      · simp at hx; subst hx; rfl
    · obtain ⟨x, hx⟩ := I.has hF
      rcases last_split (Gr F) with e | ⟨p, y, e⟩
      · rw [e] at hx; cases hx
      · rw [e] at hx I ⊢
        have hyx : y = x := by simpa using hx
        subst hyx
        have hlst := I.lst y hx
        have hyt := h2 y.at_ (List.mem_of_getLast? hlst)
        have hyc := I.cnt y (by simp)
        rcases (by omega : t = y.at_ ∨ y.at_ < t) with h | h
        · rw [(push_same p y t h).1]
          refine ⟨up_last I.up rfl, fun z hz => ?_, by simp; have := I.len; simp at this; omega, fun hb => ?_, fun h => by simp at h, fun z hz => ?_, fun _ => ⟨_, List.getLast?_concat⟩⟩
          · rw [hl]
            rcases List.mem_append.1 hz with hz | hz
            · have := I.cnt z (by simp [hz]); omega
            · simp at hz; subst hz; simp only; omega
          · have := I.sum (by omega)
            rw [sumL_snoc] at this ⊢
            rw [hl]
            simp only
            omega
          · rw [List.getLast?_concat] at hz ⊢
            injection hz with hz
            subst hz
            rw [h]
        · rw [(push_more p y t h).1]
          refine ⟨up_snoc I.up (fun z hz => by rw [List.getLast?_concat] at hz; injection hz with hz; subst hz; exact h), fun z hz => ?_, by simp; have := I.len; simp at this; omega, fun hb => ?_, fun h => by simp at h, fun z hz => ?_, fun _ => ⟨_, List.getLast?_concat⟩⟩
          · rw [hl]
            rcases List.mem_append.1 hz with hz | hz
            · have := I.cnt z hz; omega
            · simp at hz; subst hz; simp only; omega
          · have := I.sum (by omega)
            rw [sumL_snoc, this, hl]
            simp
          · rw [List.getLast?_concat] at hz ⊢
            injection hz with hz
            subst hz
            rfl
theorem tw_all {α : Type} {p : α → Bool} (l : List α) (h : ∀ x ∈ l, p x = true) : l.takeWhile p = l := by
  induction l with
  | nil => rfl
  | cons a l ih => rw [List.takeWhile_cons_of_pos (h a (by simp)), ih (fun x hx => h x (by simp [hx]))]
theorem gr_filter (f : Int) (F : List Int) : Nd F → (Gr F).filter (fun x => decide (f ≤ x.at_)) = Gr (F.filter (fun t => decide (f ≤ t))) := by
  refine snoc_ind (P := fun F => Nd F → (Gr F).filter (fun x => decide (f ≤ x.at_)) = Gr (F.filter (fun t => decide (f ≤ t)))) ?_ ?_ F
  · intro _; rfl
  · intro F t ih hnd
    obtain ⟨h1, h2⟩ := nd_snoc.1 hnd
    have I := ginfo F h1
    have J := ih h1
    rw [Gr_snoc, List.filter_append]
    by_cases ht : f ≤ t
    · have e1 : [t].filter (fun t => decide (f ≤ t)) = [t] := by simp [ht]
      rw [e1, Gr_snoc, ← J]
      by_cases hF : F = []
      · subst hF
        rw [I.emp rfl]
        simp [pushL, ht]
      · obtain ⟨x, hx⟩ := I.has hF
        rcases last_split (Gr F) with e | ⟨p, y, e⟩
        · rw [e] at hx; cases hx
        · rw [e] at hx ⊢
          have hyx : y = x := by simpa using hx
          subst hyx
          have hlst := I.lst y (by rw [e]; exact hx)
          have hyt := h2 y.at_ (List.mem_of_getLast? hlst)
          rcases (by omega : t = y.at_ ∨ y.at_ < t) with h | h
          · rw [(push_same p y t h).1, List.filter_append, List.filter_append]
            have e2 : [y].filter (fun x => decide (f ≤ x.at_)) = [y] := by simp; omega
            rw [e2, (push_same _ y t h).1]
            congr 1
            simp; omega
          · rw [(push_more p y t h).1, List.filter_append (l₁ := p ++ [y])]
            have e2 : [(⟨t, 1⟩ : Cl)].filter (fun x => decide (f ≤ x.at_)) = [⟨t, 1⟩] := by simp [ht]
            rw [e2]
            by_cases hy : f ≤ y.at_
            · have e3 : (p ++ [y]).filter (fun x => decide (f ≤ x.at_)) = p.filter (fun x => decide (f ≤ x.at_)) ++ [y] := by rw [List.filter_append]; simp [hy]
              rw [e3, (push_more _ y t h).1]
            · have e3 : (p ++ [y]).filter (fun x => decide (f ≤ x.at_)) = [] := by
                rw [e] at I
                have := up_filter I.up f
                rw [this]
                unfold pruneL
                apply List.drop_of_length_le
                have hall : ∀ z ∈ p ++ [y], z.at_ < f := by
                  have : ∀ (q : List Cl), Up (q ++ [y]) → ∀ z ∈ q ++ [y], z.at_ ≤ y.at_ := by
                    intro q
                    induction q with
                    | nil => intro _ z hz; simp at hz; subst hz; omega
                    | cons a q ihq =>
                      intro hu z hz
                      have hu2 : Up (q ++ [y]) := by have := up_drop hu 1; simpa using this
                      rcases List.mem_cons.1 hz with rfl | hz
                      · cases q with
                        | nil => have := hu.1; omega
                        | cons b q => have := hu.1; have := ihq hu2 b (by simp); omega
                      · exact ihq hu2 z hz
                  intro z hz
                  have := this p I.up z hz
                  omega
                unfold cutN
                rw [tw_all (p ++ [y]) (fun z hz => by simpa using hall z hz)]
                exact Nat.le_refl _
              rw [e3]
              rfl
    · have e1 : [t].filter (fun t => decide (f ≤ t)) = [] := by simp; omega
      have e2 : F.filter (fun t => decide (f ≤ t)) = [] := List.filter_eq_nil_iff.2 (fun y hy => by have := h2 y hy; simp; omega)
      rw [e1, e2, List.append_nil]
      rw [e2] at J
      have K : (Gr F).filter (fun x => decide (f ≤ x.at_)) = [] := J
      rw [List.filter_eq_nil_iff] at K
      show _ = []
      rw [List.filter_eq_nil_iff]
      rcases last_split (Gr F) with e | ⟨p, y, e⟩
      · rw [e]
        intro z hz
        simp [pushL] at hz
        subst hz
        simp; omega
      · rw [e] at K ⊢
        rcases (by omega : t < y.at_ ∨ t = y.at_ ∨ y.at_ < t) with h | h | h
        · rw [(push_less p y t h).1]; exact K
        · rw [(push_same p y t h).1]
          intro z hz
          rcases List.mem_append.1 hz with hz | hz
          · exact K z (by simp [hz])
          · simp at hz; subst hz
            have := K y (by simp)
            exact this
        · rw [(push_more p y t h).1]
          intro z hz
          rcases List.mem_append.1 hz with hz | hz
          · exact K z hz
          · simp at hz; subst hz; simp; omega
theorem gr_prune (f : Int) (F : List Int) (h : Nd F) : pruneL (Gr F) f = Gr (F.filter (fun t => decide (f ≤ t))) := by
  rw [← gr_filter f F h]
  exact (up_filter (ginfo F h).up f).symm

/-! ## what a tally remembers -/
def mkT (l : List TSt) : Int × List Int := l.foldl (fun p x => (max p.1 x.at_, if x.is_ = true then p.2 ++ [max p.1 x.at_] else p.2)) (0, [])
theorem mkT_snoc (l : List TSt) (x : TSt) : mkT (l ++ [x]) = (max (mkT l).1 x.at_, if x.is_ = true then (mkT l).2 ++ [max (mkT l).1 x.at_] else (mkT l).2) := by unfold mkT; rw [List.foldl_append]; rfl
structure MInfo (l : List TSt) : Prop where
  nd : Nd (mkT l).2
  le : ∀ t ∈ (mkT l).2, t ≤ (mkT l).1
  ge : ∀ t ∈ (mkT l).2, 0 ≤ t
  la : 0 ≤ (mkT l).1
  len : (mkT l).2.length ≤ l.length
theorem minfo (l : List TSt) : MInfo l := by
  refine snoc_ind (P := MInfo) ?_ ?_ l
  · exact ⟨List.Pairwise.nil, fun t ht => (by cases ht), fun t ht => (by cases ht), Int.le_refl _, Nat.le_refl _⟩
  · intro l x I
    obtain ⟨h1, h2, h3, h4, h5⟩ := I
    refine ⟨?_, ?_, ?_, ?_, ?_⟩ <;> rw [mkT_snoc] <;> simp only
    · split
      · refine nd_snoc.2 ⟨h1, fun y hy => ?_⟩
        have := h2 y hy
        omega
      · exact h1
    · split
      · intro t ht
        rcases List.mem_append.1 ht with ht | ht
        · have := h2 t ht; omega
        · simp at ht; omega
      · intro t ht
        have := h2 t ht; omega
    · split
      · intro t ht
        rcases List.mem_append.1 ht with ht | ht
        · exact h3 t ht
        · simp at ht; omega
      · exact h3
    · omega
    · split
      · simp; omega
      · simp; omega
def seenT (hi : Int) (l : List TSt) : List Int := (mkT l).2.filter (fun t => decide ((mkT l).1 - hi ≤ t))
def runT (hi : Int) (l : List TSt) : Ty := l.foldl (fun s x => stepT s x.at_ x.is_) ⟨hi, 0, []⟩
theorem runT_snoc (hi : Int) (l : List TSt) (x : TSt) : runT hi (l ++ [x]) = stepT (runT hi l) x.at_ x.is_ := by unfold runT; rw [List.foldl_append]; rfl
theorem runT_is (hi : Int) (l : List TSt) (h0 : 0 ≤ hi) : runT hi l = ⟨hi, (mkT l).1, Gr (seenT hi l)⟩ := by
  refine snoc_ind (P := fun l => runT hi l = ⟨hi, (mkT l).1, Gr (seenT hi l)⟩) rfl ?_ l
  intro l x ih
  obtain ⟨h1, h2, h3, h4, h5⟩ := minfo l
  rw [runT_snoc, ih]
  unfold stepT
  simp only
  have hs : Nd (seenT hi l) := h1.filter _
  rw [gr_prune _ _ hs]
  have hle : (mkT l).1 - hi ≤ max (mkT l).1 x.at_ - hi := by omega
  have e1 : (seenT hi l).filter (fun t => decide (max (mkT l).1 x.at_ - hi ≤ t)) = (mkT l).2.filter (fun t => decide (max (mkT l).1 x.at_ - hi ≤ t)) := by
    unfold seenT
    rw [List.filter_filter]
    apply List.filter_congr
    intro t _
    by_cases h : max (mkT l).1 x.at_ - hi ≤ t
    · have : (mkT l).1 - hi ≤ t := by omega
      simp [h, this]
    · simp [h]
  rw [e1]
  unfold seenT
  rw [mkT_snoc]
  simp only
  congr 1
  by_cases hx : x.is_ = true
  · rw [if_pos hx, if_pos hx, List.filter_append]
    have e2 : [max (mkT l).1 x.at_].filter (fun t => decide (max (mkT l).1 x.at_ - hi ≤ t)) = [max (mkT l).1 x.at_] := by simp; omega
    rw [e2, Gr_snoc]
  · rw [if_neg hx, if_neg hx]
theorem seen_len (hi : Int) (l : List TSt) : (seenT hi l).length ≤ l.length := Nat.le_trans (List.length_filter_le _ _) (minfo l).len
theorem run_sum (hi : Int) (l : List TSt) (h0 : 0 ≤ hi) (hl : l.length ≤ 32768) : sumL (runT hi l).l = (seenT hi l).length := by
  rw [runT_is hi l h0]
  have := seen_len hi l
  exact (ginfo (seenT hi l) ((minfo l).nd.filter _)).sum (by omega)
theorem run_okT (hi : Int) (l : List TSt) (h0 : 0 ≤ hi) (h1 : hi ≤ 9223372036854775807) (hl : l.length ≤ 32768) (hx : ∀ x ∈ l, x.at_ ≤ 9223372036854775807) : (runT hi l).Ok := by
  rw [runT_is hi l h0]
  have I := ginfo (seenT hi l) ((minfo l).nd.filter _)
  have hn := seen_len hi l
  have hlen := I.len
  have hm : (mkT l).1 ≤ 9223372036854775807 := by
    revert hx
    refine snoc_ind (P := fun l => (∀ x ∈ l, x.at_ ≤ 9223372036854775807) → (mkT l).1 ≤ 9223372036854775807) (fun _ => by simp [mkT]) ?_ l
    intro l x ih hx
    rw [mkT_snoc]
    have a1 := ih (fun y hy => hx y (by simp [hy]))
    have a2 := hx x (by simp)
    simp only
    omega
  exact ⟨h0, h1, (minfo l).la, hm, fun x hx => by have := I.cnt x hx; omega, by simp only; omega⟩

/-! ## what the page tells -/
structure Tld where
  cur : Int
  n : Int
  c : Int
  met : Int
def tellF (hi last : Int) (p : Tld) (x : TSt) : Tld :=
  if x.is_ = true ∧ ¬ hi < last - max p.cur x.at_ then ⟨max p.cur x.at_, p.n + 1, if max p.cur x.at_ = p.met then p.c else p.c + 1, max p.cur x.at_⟩ else ⟨max p.cur x.at_, p.n, p.c, p.met⟩
def tellL (hi last : Int) (l : List TSt) : Tld := l.foldl (tellF hi last) ⟨0, 0, 0, -1⟩
theorem tellL_snoc (hi last : Int) (l : List TSt) (x : TSt) : tellL hi last (l ++ [x]) = tellF hi last (tellL hi last l) x := by unfold tellL; rw [List.foldl_append]; rfl
theorem tellL_is (hi last : Int) (l : List TSt) : (tellL hi last l).cur = (mkT l).1 ∧ (tellL hi last l).n = ((mkT l).2.filter (fun t => decide (last - hi ≤ t))).length ∧
    (tellL hi last l).c = (Gr ((mkT l).2.filter (fun t => decide (last - hi ≤ t)))).length ∧ (tellL hi last l).met = ((((mkT l).2.filter (fun t => decide (last - hi ≤ t))).getLast?).getD (-1)) := by
  refine snoc_ind (P := fun l => (tellL hi last l).cur = (mkT l).1 ∧ (tellL hi last l).n = ((mkT l).2.filter (fun t => decide (last - hi ≤ t))).length ∧
    (tellL hi last l).c = (Gr ((mkT l).2.filter (fun t => decide (last - hi ≤ t)))).length ∧ (tellL hi last l).met = ((((mkT l).2.filter (fun t => decide (last - hi ≤ t))).getLast?).getD (-1))) ⟨rfl, rfl, rfl, rfl⟩ ?_ l
  intro l x ⟨i1, i2, i3, i4⟩
  obtain ⟨h1, h2, h3, h4, h5⟩ := minfo l
  rw [tellL_snoc, mkT_snoc]
  unfold tellF
  rw [i1, i2, i3, i4]
  simp only
  have hF := h1.filter (fun t => decide (last - hi ≤ t))
  have I := ginfo _ hF
  generalize hq : max (mkT l).1 x.at_ = q
  by_cases hx : x.is_ = true
  · rw [if_pos hx, List.filter_append]
    by_cases hk : last - hi ≤ q
    · rw [if_pos ⟨hx, by omega⟩]
      have e : [q].filter (fun t => decide (last - hi ≤ t)) = [q] := by simp [hk]
      rw [e, Gr_snoc]
      refine ⟨rfl, by simp, ?_, by simp⟩
      simp only
      generalize hG : (mkT l).2.filter (fun t => decide (last - hi ≤ t)) = F at *
      have hFge : ∀ y ∈ F, 0 ≤ y ∧ y ≤ q := fun y hy => by
        rw [← hG] at hy
        have hm := (List.mem_filter.1 hy).1
        have := h2 y hm; have := h3 y hm
        omega
      have hq0 : 0 ≤ q := by omega
      by_cases hFe : F = []
      · subst hFe
        rw [I.emp rfl]
        have e1 : ¬ q = (([] : List Int).getLast?).getD (-1) := by simp; omega
        rw [if_neg e1]
        simp [pushL]
      · obtain ⟨y, hy⟩ := I.has hFe
        have hl := I.lst y hy
        rcases last_split (Gr F) with e2 | ⟨p, z, e2⟩
        · rw [e2] at hy; cases hy
        · rw [e2] at hy ⊢
          have hzy : z = y := by simpa using hy
          subst hzy
          have hyq := (hFge z.at_ (List.mem_of_getLast? hl)).2
          rw [hl]
          simp only [Option.getD_some]
          rcases (by omega : q = z.at_ ∨ z.at_ < q) with h | h
          · rw [if_pos h, (push_same p z q h).1]; simp
          · rw [if_neg (by omega), (push_more p z q h).1]; simp; omega
    · rw [if_neg (by rintro ⟨_, h⟩; omega)]
      have e : [q].filter (fun t => decide (last - hi ≤ t)) = [] := by simp; omega
      rw [e, List.append_nil]
      exact ⟨rfl, rfl, rfl, rfl⟩
  · rw [if_neg hx, if_neg (by rintro ⟨h, _⟩; exact hx h)]
    exact ⟨rfl, rfl, rfl, rfl⟩
theorem told_is (hi : Int) (l : List TSt) (h0 : 0 ≤ hi) (hl : l.length ≤ 32768) : (tellL hi (mkT l).1 l).n = sumL (runT hi l).l ∧ (tellL hi (mkT l).1 l).c = (runT hi l).l.length := by
  obtain ⟨_, h2, h3, _⟩ := tellL_is hi (mkT l).1 l
  rw [h2, h3, run_sum hi l h0 hl, runT_is hi l h0]
  exact ⟨rfl, rfl⟩
end Go.Proofs.Ytppbgkadpomblaa
