/- The window law in plain words. Conditions: none. -/
import Derived.Test.YtppbgkadpomblaaProg
import Derived.Test.YtppbgkadpomblaaC5
import Derived.Test.YtppbgkadpomblaaB2
import Derived.Tactics
import Derived.Tactics2
import Derived.WalkKit
import Derived.WalkSpells
import Derived.WalkLawsBesides
import Derived.StillTactics
import Derived.StillTailTactics
import Derived.OwnWalk
import Derived.Laws.Pointers
import Derived.Laws.ResultCell
import Derived.Deep.RegionHeld3
import Derived.Deep.RegionWith
import Derived.Deep.RegionLaw
import Derived.Deep.AppendLies
import Derived.Deep.QuietTactic
import Derived.BigQuiet
import Derived.LoopTactic
import Derived.Deep.LoopGhost
import Derived.Deep.DeepCutAuto
import Derived.Deep.DeepFit
import Derived.Maps.AppendAt
import Derived.Below
import Derived.Lib.Hide
import Derived.Handy
import Derived.KernelRfl
import Derived.IntWalk
import Derived.Laws.AppendOwnNone
import Derived.Laws.IdiomStrings
namespace Go.Proofs.Ytppbgkadpomblaa
set_option linter.unusedVariables false
set_option linter.unusedSimpArgs false
open Go.RowKit

/-! ## what the window law says, in plain words -/
def lastW (l : List WSt) : Int := l.foldl (fun m x => max m x.at_) 0
theorem lastW_snoc (l : List WSt) (x : WSt) : lastW (l ++ [x]) = max (lastW l) x.at_ := by unfold lastW; rw [List.foldl_append]; rfl
def clrB (since : Bool) (x : WSt) : Bool := since && !x.f
def putB (since : Bool) (x : WSt) : Bool := if since = true then x.g else x.f
def putsF (since : Bool) (ps : List Int) (t : Int) (x : WSt) : List Int :=
  if putB since x = true then (if clrB since x = true then [] else ps) ++ [t] else (if clrB since x = true then [] else ps)
def mkW (since : Bool) (l : List WSt) : Int × List Int := l.foldl (fun p x => (max p.1 x.at_, putsF since p.2 (max p.1 x.at_) x)) (0, [])
theorem mkW_snoc (since : Bool) (l : List WSt) (x : WSt) : mkW since (l ++ [x]) = (max (mkW since l).1 x.at_, putsF since (mkW since l).2 (max (mkW since l).1 x.at_) x) := by unfold mkW; rw [List.foldl_append]; rfl
theorem mkW_last (since : Bool) (l : List WSt) : (mkW since l).1 = lastW l := by
  refine snoc_ind (P := fun l => (mkW since l).1 = lastW l) rfl (fun l x ih => ?_) l
  rw [mkW_snoc, lastW_snoc, ih]
structure MW (ps : List Int) (la : Int) : Prop where
  nd : Nd ps
  le : ∀ t ∈ ps, t ≤ la
  ge : ∀ t ∈ ps, 0 ≤ t
  la : 0 ≤ la
theorem MW.puts {ps : List Int} {la : Int} (h : MW ps la) (since : Bool) (x : WSt) (t : Int) (ht : t = max la x.at_) : MW (putsF since ps t x) t := by
  have h0 := h.la
  have e1 : MW (if clrB since x = true then [] else ps) t := by
    split
    · exact ⟨List.Pairwise.nil, by simp, by simp, by omega⟩
    · exact ⟨h.nd, fun y hy => by have := h.le y hy; omega, h.ge, by omega⟩
  unfold putsF
  split
  · refine ⟨nd_snoc.2 ⟨e1.nd, e1.le⟩, fun y hy => ?_, fun y hy => ?_, e1.la⟩
    · rcases List.mem_append.1 hy with hy | hy
      · exact e1.le y hy
      · simp at hy; omega
    · rcases List.mem_append.1 hy with hy | hy
      · exact e1.ge y hy
      · simp at hy; omega
  · exact e1
theorem mw (since : Bool) (l : List WSt) : MW (mkW since l).2 (mkW since l).1 := by
  refine snoc_ind (P := fun l => MW (mkW since l).2 (mkW since l).1) ⟨List.Pairwise.nil, by simp [mkW], by simp [mkW], by simp [mkW]⟩ (fun l x ih => ?_) l
  rw [mkW_snoc]
  exact ih.puts since x _ rfl
theorem puts_len (since : Bool) (ps : List Int) (t : Int) (x : WSt) : (putsF since ps t x).length ≤ ps.length + 1 := by
  unfold putsF
  split <;> split <;> simp
theorem mw_len (since : Bool) (l : List WSt) : (mkW since l).2.length ≤ l.length := by
  refine snoc_ind (P := fun l => (mkW since l).2.length ≤ l.length) (by simp [mkW]) (fun l x ih => ?_) l
  rw [mkW_snoc]
  have := puts_len since (mkW since l).2 (max (mkW since l).1 x.at_) x
  simp only [List.length_append, List.length_cons, List.length_nil]
  omega
def keptW (hi la : Int) (ps : List Int) : List Int := if hi = -1 then ps.take 1 else ps.filter (fun t => decide (la - hi ≤ t))
def runW (since : Bool) (lo hi : Int) (l : List WSt) : Wn := l.foldl (fun s x => stepW s x.at_ (clrB since x) (putB since x)) ⟨lo, hi, 0, []⟩
theorem runW_snoc (since : Bool) (lo hi : Int) (l : List WSt) (x : WSt) : runW since lo hi (l ++ [x]) = stepW (runW since lo hi l) x.at_ (clrB since x) (putB since x) := by unfold runW; rw [List.foldl_append]; rfl
theorem gr_nil : Gr [] = [] := rfl
theorem gr_ne {F : List Int} (h : Nd F) : F ≠ [] → Gr F ≠ [] := fun hF e => by
  obtain ⟨x, hx⟩ := (ginfo F h).has hF
  rw [e] at hx; cases hx
theorem runW_is (since : Bool) (lo hi : Int) (h : hi = -1 ∨ 0 ≤ hi) (l : List WSt) : runW since lo hi l = ⟨lo, hi, (mkW since l).1, Gr (keptW hi (mkW since l).1 (mkW since l).2)⟩ := by
  refine snoc_ind (P := fun l => runW since lo hi l = ⟨lo, hi, (mkW since l).1, Gr (keptW hi (mkW since l).1 (mkW since l).2)⟩) ?_ (fun l x ih => ?_) l
  · have : keptW hi 0 [] = [] := by unfold keptW; split <;> rfl
    show Wn.mk lo hi 0 [] = ⟨lo, hi, 0, Gr (keptW hi 0 [])⟩
    rw [this, gr_nil]
  · rw [runW_snoc, mkW_snoc, ih]
    have M := mw since l
    simp only
    generalize (mkW since l).2 = ps at *
    generalize (mkW since l).1 = la at *
    generalize hq : max la x.at_ = q
    have hql : la ≤ q := by omega
    -- come
    have hc : comeW ⟨lo, hi, la, Gr (keptW hi la ps)⟩ x.at_ = ⟨lo, hi, q, Gr (keptW hi q ps)⟩ := by
      unfold comeW keptW
      simp only [hq]
      rcases h with h | h
      · rw [if_pos h, if_pos h, if_pos h]
      · rw [if_neg (by omega), if_neg (by omega), if_neg (by omega)]
        rw [gr_prune _ _ (M.nd.filter _), List.filter_filter]
        congr 2
        apply List.filter_congr
        intro t ht
        simp only [← Bool.decide_and, decide_eq_decide]
        omega
    have hcl : ∀ c, clrW ⟨lo, hi, q, Gr (keptW hi q ps)⟩ c = ⟨lo, hi, q, Gr (keptW hi q (if c = true then [] else ps))⟩ := by
      intro c
      cases c
      · rfl
      · show Wn.mk lo hi q [] = ⟨lo, hi, q, Gr (keptW hi q [])⟩
        have : keptW hi q [] = [] := by unfold keptW; split <;> rfl
        rw [this, gr_nil]
    unfold stepW putsF
    rw [hc, hcl]
    generalize hPS : (if clrB since x = true then ([] : List Int) else ps) = P
    have MP : Nd P ∧ ∀ t ∈ P, t ≤ q := by
      rw [← hPS]
      split
      · exact ⟨List.Pairwise.nil, by simp⟩
      · exact ⟨M.nd, fun t ht => by have := M.le t ht; omega⟩
    cases hp : putB since x
    · simp
    · rw [if_pos rfl, if_pos rfl]
      unfold putW keptW
      simp only
      rcases h with h | h
      · simp only [if_pos h]
        rcases P with _ | ⟨t, P⟩
        · rw [if_neg (by rintro ⟨_, h⟩; exact h rfl)]
          show Wn.mk lo hi q (pushL [] q) = ⟨lo, hi, q, Gr [q]⟩
          rfl
        · have : Gr ((t :: P).take 1) ≠ [] := gr_ne (by simp [Nd]) (by simp)
          rw [if_pos ⟨h, this⟩]
          rfl
      · have hne : ¬ hi = -1 := by omega
        simp only [if_neg hne]
        rw [if_neg (by rintro ⟨h, _⟩; exact hne h), List.filter_append]
        have e : [q].filter (fun t => decide (q - hi ≤ t)) = [q] := by simp; omega
        rw [e, Gr_snoc]

/-! ### is it, and how many are remembered -/
theorem gr_head (F : List Int) : ((Gr F).head?.map (·.at_)) = F.head? ∨ ¬ Nd F := by
  refine snoc_ind (P := fun F => ((Gr F).head?.map (·.at_)) = F.head? ∨ ¬ Nd F) (.inl rfl) (fun F t ih => ?_) F
  rcases Classical.em (Nd (F ++ [t])) with hn | hn
  · left
    have hF := nd_snoc.1 hn
    rcases ih with ih | ih
    · rw [Gr_snoc]
      have I := ginfo F hF.1
      by_cases hFe : F = []
      · subst hFe; rfl
      · obtain ⟨y, hy⟩ := I.has hFe
        have hl := I.lst y hy
        have hyt := hF.2 _ (List.mem_of_getLast? hl)
        have hh : (F ++ [t]).head? = F.head? := by
          cases F with
          | nil => exact absurd rfl hFe
          | cons a F => rfl
        rw [hh, ← ih]
        rcases last_split (Gr F) with e2 | ⟨p, z, e2⟩
        · rw [e2] at hy; cases hy
        · rw [e2] at hy ⊢
          have hzy : z = y := by simpa using hy
          subst hzy
          rcases (by omega : t = z.at_ ∨ z.at_ < t) with h | h
          · rw [(push_same p z t h).1]
            cases p <;> rfl
          · rw [(push_more p z t h).1]
            cases p <;> rfl
    · exact absurd hF.1 ih
  · exact .inr hn
def allowW (hi la : Int) (ps : List Int) : List Int := if hi = -1 then ps else ps.filter (fun t => decide (la - hi ≤ t))
theorem any_head {F : List Int} (h : Nd F) (f : Int) : (match F.head? with | none => false | some t => decide (t ≤ f)) = F.any (fun t => decide (t ≤ f)) := by
  cases F with
  | nil => rfl
  | cons a F =>
    show decide (a ≤ f) = _
    rw [List.any_cons]
    cases hd : decide (a ≤ f)
    · symm
      rw [Bool.false_or, List.any_eq_false]
      intro x hx
      have := (List.pairwise_cons.1 h).1 x hx
      simp at hd ⊢
      omega
    · rfl
theorem was_head {F : List Int} (h : Nd F) (f : Int) : wasL (Gr F) f = F.any (fun t => decide (t ≤ f)) := by
  rw [← any_head h]
  rcases gr_head F with e | e
  · rw [← e]
    unfold wasL
    cases (Gr F).head? <;> rfl
  · exact absurd h e
theorem was_any (since : Bool) (lo hi : Int) (h : hi = -1 ∨ 0 ≤ hi) (l : List WSt) : wasW (runW since lo hi l) = (allowW hi (mkW since l).1 (mkW since l).2).any (fun t => decide (t ≤ (mkW since l).1 - lo)) := by
  rw [runW_is since lo hi h l]
  have M := mw since l
  unfold wasW keptW allowW
  simp only
  rcases h with h | h
  · rw [if_pos h, if_pos h, was_head (M.nd.sublist (List.take_sublist _ _)), ← any_head M.nd, ← any_head (M.nd.sublist (List.take_sublist _ _))]
    cases (mkW since l).2 <;> rfl
  · rw [if_neg (by omega), if_neg (by omega), was_head (M.nd.filter _)]

structure Td where
  is_ : Bool
  n : Int
  met : Int
def toldF (lo hi last : Int) (p : Td) (t : Int) : Td :=
  if hi ≠ -1 ∧ hi < last - t then p else
    if t ≠ p.met ∧ (hi ≠ -1 ∨ p.n = 0) then ⟨p.is_ || decide (lo ≤ last - t), p.n + 1, t⟩ else ⟨p.is_ || decide (lo ≤ last - t), p.n, p.met⟩
def toldL (lo hi last : Int) (ps : List Int) : Td := ps.foldl (toldF lo hi last) ⟨false, 0, -1⟩
theorem toldL_snoc (lo hi last : Int) (ps : List Int) (t : Int) : toldL lo hi last (ps ++ [t]) = toldF lo hi last (toldL lo hi last ps) t := by unfold toldL; rw [List.foldl_append]; rfl
theorem told_bdW (lo hi last : Int) (ps : List Int) : 0 ≤ (toldL lo hi last ps).n ∧ (toldL lo hi last ps).n ≤ ps.length := by
  refine snoc_ind (P := fun ps => 0 ≤ (toldL lo hi last ps).n ∧ (toldL lo hi last ps).n ≤ ps.length) ⟨by simp [toldL], by simp [toldL]⟩ (fun ps t ih => ?_) ps
  rw [toldL_snoc]
  unfold toldF
  simp only [List.length_append, List.length_cons, List.length_nil]
  split
  · omega
  · split <;> simp only <;> omega
theorem told_any (lo hi last : Int) (ps : List Int) : (toldL lo hi last ps).is_ = (allowW hi last ps).any (fun t => decide (t ≤ last - lo)) := by
  refine snoc_ind (P := fun ps => (toldL lo hi last ps).is_ = (allowW hi last ps).any (fun t => decide (t ≤ last - lo))) ?_ (fun ps t ih => ?_) ps
  · unfold allowW; split <;> rfl
  · rw [toldL_snoc]
    unfold toldF
    have e : ∀ p : Td, decide (lo ≤ last - t) = decide (t ≤ last - lo) := fun p => by rw [decide_eq_decide]; omega
    by_cases h1 : hi ≠ -1 ∧ hi < last - t
    · rw [if_pos h1, ih]
      unfold allowW
      rw [if_neg h1.1, if_neg h1.1, List.filter_append]
      have : [t].filter (fun t => decide (last - hi ≤ t)) = [] := by simp; omega
      rw [this, List.append_nil]
    · rw [if_neg h1]
      have hA : allowW hi last (ps ++ [t]) = allowW hi last ps ++ [t] := by
        unfold allowW
        split
        · rfl
        · rename_i h2
          rw [List.filter_append]
          have : [t].filter (fun t => decide (last - hi ≤ t)) = [t] := by simp; omega
          rw [this]
      rw [hA, List.any_append, ← ih]
      have : [t].any (fun t => decide (t ≤ last - lo)) = decide (lo ≤ last - t) := by rw [e ⟨true, 0, 0⟩]; simp
      rw [this]
      split <;> rfl
theorem told_n1 (lo last : Int) (ps : List Int) (h : ∀ t ∈ ps, 0 ≤ t) : (toldL lo (-1) last ps).n = (Gr (ps.take 1)).length ∧ (ps = [] → (toldL lo (-1) last ps).met = -1) := by
  revert h
  refine snoc_ind (P := fun ps => (∀ t ∈ ps, 0 ≤ t) → (toldL lo (-1) last ps).n = (Gr (ps.take 1)).length ∧ (ps = [] → (toldL lo (-1) last ps).met = -1)) (fun _ => ⟨rfl, fun _ => rfl⟩) (fun ps t ih h => ?_) ps
  obtain ⟨i1, i2⟩ := ih (fun x hx => h x (by simp [hx]))
  have ht := h t (by simp)
  rw [toldL_snoc]
  unfold toldF
  rw [if_neg (by rintro ⟨h, _⟩; exact h rfl)]
  refine ⟨?_, fun h => by simp at h⟩
  cases ps with
  | nil =>
    rw [if_pos ⟨by rw [i2 rfl]; omega, .inr (by rw [i1]; rfl)⟩]
    show (toldL lo (-1) last []).n + 1 = _
    rw [i1]
    rfl
  | cons a ps =>
    have e1 : (Gr ((a :: ps).take 1)).length = 1 := rfl
    rw [if_neg (by rintro ⟨_, h | h⟩; exact h rfl; rw [i1, e1] at h; omega)]
    show (toldL lo (-1) last (a :: ps)).n = _
    rw [i1]
    rfl
theorem told_n2 (lo hi last : Int) (hh : hi ≠ -1) (ps : List Int) (hn : Nd ps) (h : ∀ t ∈ ps, 0 ≤ t) : (toldL lo hi last ps).n = (Gr (ps.filter (fun t => decide (last - hi ≤ t)))).length ∧ (toldL lo hi last ps).met = (((ps.filter (fun t => decide (last - hi ≤ t))).getLast?).getD (-1)) := by
  revert hn h
  refine snoc_ind (P := fun ps => Nd ps → (∀ t ∈ ps, 0 ≤ t) → (toldL lo hi last ps).n = (Gr (ps.filter (fun t => decide (last - hi ≤ t)))).length ∧ (toldL lo hi last ps).met = (((ps.filter (fun t => decide (last - hi ≤ t))).getLast?).getD (-1))) (fun _ _ => ⟨rfl, rfl⟩) (fun ps q ih hn h => ?_) ps
  have hn' := nd_snoc.1 hn
  obtain ⟨i1, i2⟩ := ih hn'.1 (fun x hx => h x (by simp [hx]))
  have hq0 := h q (by simp)
  rw [toldL_snoc]
  unfold toldF
  rw [i1, i2, List.filter_append]
  have hF := hn'.1.filter (fun t => decide (last - hi ≤ t))
  have I := ginfo _ hF
  by_cases hk : last - hi ≤ q
  · rw [if_neg (by rintro ⟨_, h⟩; omega)]
    have e : [q].filter (fun t => decide (last - hi ≤ t)) = [q] := by simp [hk]
    rw [e, Gr_snoc]
    generalize hG : ps.filter (fun t => decide (last - hi ≤ t)) = F at *
    have hFge : ∀ y ∈ F, y ≤ q := fun y hy => by
      rw [← hG] at hy
      exact hn'.2 y (List.mem_filter.1 hy).1
    by_cases hFe : F = []
    · subst hFe
      rw [I.emp rfl]
      have e1 : q ≠ (([] : List Int).getLast?).getD (-1) := by simp; omega
      rw [if_pos ⟨e1, .inl hh⟩]
      simp [pushL]
    · obtain ⟨y, hy⟩ := I.has hFe
      have hl := I.lst y hy
      rcases last_split (Gr F) with e2 | ⟨p, z, e2⟩
      · rw [e2] at hy; cases hy
      · rw [e2] at hy ⊢
        have hzy : z = y := by simpa using hy
        subst hzy
        have hyq := hFge z.at_ (List.mem_of_getLast? hl)
        rw [hl]
        simp only [Option.getD_some]
        rcases (by omega : q = z.at_ ∨ z.at_ < q) with h | h
        · rw [if_neg (by rintro ⟨h2, _⟩; exact h2 h), (push_same p z q h).1]; simp [h]
        · rw [if_pos ⟨by omega, .inl hh⟩, (push_more p z q h).1]; simp; omega
  · rw [if_pos ⟨hh, by omega⟩]
    have e : [q].filter (fun t => decide (last - hi ≤ t)) = [] := by simp; omega
    rw [e, List.append_nil]
    exact ⟨i1, i2⟩
/-- What told tells is what the span tells. -/
theorem told_isW (since : Bool) (lo hi : Int) (h : hi = -1 ∨ 0 ≤ hi) (l : List WSt) : (toldL lo hi (mkW since l).1 (mkW since l).2).is_ = wasW (runW since lo hi l) ∧ (toldL lo hi (mkW since l).1 (mkW since l).2).n = (runW since lo hi l).l.length := by
  have M := mw since l
  refine ⟨by rw [told_any, was_any since lo hi h l], ?_⟩
  rw [runW_is since lo hi h l]
  unfold keptW
  simp only
  rcases h with h | h
  · rw [if_pos h, h]
    exact (told_n1 lo _ _ M.ge).1
  · rw [if_neg (by omega)]
    exact (told_n2 lo hi _ (by omega) _ M.nd M.ge).1
theorem runW_ok (since : Bool) (lo hi : Int) (a0 : 0 ≤ lo) (a1 : lo ≤ 9223372036854775807) (h : hi = -1 ∨ 0 ≤ hi) (h1 : hi ≤ 9223372036854775807) (l : List WSt) (hl : l.length ≤ 1000) (hx : ∀ x ∈ l, x.at_ ≤ 9223372036854775807) : (runW since lo hi l).Ok ∧ (runW since lo hi l).l.length ≤ l.length := by
  revert hl hx
  refine snoc_ind (P := fun l => l.length ≤ 1000 → (∀ x ∈ l, x.at_ ≤ 9223372036854775807) → (runW since lo hi l).Ok ∧ (runW since lo hi l).l.length ≤ l.length) (fun _ _ => ⟨⟨a0, a1, by show -1 ≤ hi; omega, h1, Int.le_refl _, by show (0 : Int) ≤ _; omega, (by intro x hx; cases hx), by simp [runW]⟩, by simp [runW]⟩) (fun l x ih hl hx => ?_) l
  simp only [List.length_append, List.length_cons, List.length_nil] at hl ⊢
  obtain ⟨i1, i2⟩ := ih (by omega) (fun y hy => hx y (by simp [hy]))
  rw [runW_snoc]
  have := step_ok i1 (hx x (by simp)) (clrB since x) (putB since x) (by omega)
  exact ⟨this.1, by omega⟩

/-! ### which moments count -/
def fAt (l : List WSt) (k : Nat) : Bool := (l[k]?.getD default).f
def gAt (l : List WSt) (k : Nat) : Bool := (l[k]?.getD default).g
def cnt (since : Bool) (l : List WSt) (i k : Nat) : Bool := if since = true then (gAt l k && (List.range (i + 1)).all (fun m => decide (m ≤ k) || fAt l m)) else fAt l k
theorem cnt_yes (l : List WSt) (i k : Nat) (h : ∀ m, k < m → m ≤ i → fAt l m = true) : cnt true l i k = gAt l k := by
  unfold cnt
  rw [if_pos rfl]
  have : (List.range (i + 1)).all (fun m => decide (m ≤ k) || fAt l m) = true := by
    rw [List.all_eq_true]
    intro m hm
    have := List.mem_range.1 hm
    rcases Nat.lt_or_ge k m with h1 | h1
    · simp [h m h1 (by omega)]
    · simp [h1]
  rw [this, Bool.and_true]
theorem cnt_no (l : List WSt) (i k m : Nat) (h1 : k < m) (h2 : m ≤ i) (h : fAt l m = false) : cnt true l i k = false := by
  unfold cnt
  rw [if_pos rfl]
  have : (List.range (i + 1)).all (fun m => decide (m ≤ k) || fAt l m) = false := by
    rw [List.all_eq_false]
    refine ⟨m, List.mem_range.2 (by omega), ?_⟩
    simp [h]
    omega
  rw [this, Bool.and_false]
theorem cnt_succ (l : List WSt) (i k : Nat) (h : k ≤ i) : cnt true l (i + 1) k = (cnt true l i k && fAt l (i + 1)) := by
  unfold cnt
  rw [if_pos rfl, if_pos rfl, List.range_succ, List.all_append, Bool.and_assoc]
  congr 1
  congr 1
  simp
  omega
def timeAt (l : List WSt) (k : Nat) : Int := lastW (l.take (k + 1))
def selW (since : Bool) (l : List WSt) (i j : Nat) : List Int := ((List.range j).filter (fun k => cnt since l i k)).map (timeAt l)
theorem selW_succ (since : Bool) (l : List WSt) (i j : Nat) : selW since l i (j + 1) = if cnt since l i j = true then selW since l i j ++ [timeAt l j] else selW since l i j := by
  unfold selW
  rw [List.range_succ, List.filter_append, List.map_append]
  split
  · rename_i h; simp [h]
  · rename_i h; simp [h]
theorem selW_len (since : Bool) (l : List WSt) (i j : Nat) : (selW since l i j).length ≤ j := by
  unfold selW
  rw [List.length_map]
  have := List.length_filter_le (fun k => cnt since l i k) (List.range j)
  rw [List.length_range] at this
  exact this
theorem selW_is (since : Bool) (l : List WSt) (i : Nat) (hi : i < l.length) : selW since l i (i + 1) = (mkW since (l.take (i + 1))).2 := by
  have key : ∀ i, i < l.length → selW since l i (i + 1) = (mkW since (l.take (i + 1))).2 := by
    intro i
    induction i with
    | zero =>
      intro h0
      obtain ⟨x, hx⟩ : ∃ x, l[0]? = some x := ⟨l[0], List.getElem?_eq_getElem h0⟩
      have ht : l.take 1 = [x] := by rw [take_succ_of hx]; rfl
      rw [selW_succ]
      have e0 : selW since l 0 0 = [] := rfl
      have et : timeAt l 0 = max 0 x.at_ := by unfold timeAt; rw [ht]; rfl
      have em : mkW since (l.take 1) = (max 0 x.at_, putsF since [] (max 0 x.at_) x) := by rw [ht]; rfl
      rw [em, e0, et]
      unfold putsF
      have ec : cnt since l 0 0 = putB since x := by
        cases since
        · show fAt l 0 = x.f
          unfold fAt; rw [hx]; rfl
        · rw [cnt_yes l 0 0 (fun m h1 h2 => by omega)]
          show gAt l 0 = x.g
          unfold gAt; rw [hx]; rfl
      rw [ec]
      simp
    | succ i ih =>
      intro h1
      obtain ⟨x, hx⟩ : ∃ x, l[i + 1]? = some x := ⟨l[i + 1], List.getElem?_eq_getElem h1⟩
      have ih := ih (by omega)
      have ht : l.take (i + 1 + 1) = l.take (i + 1) ++ [x] := take_succ_of hx
      have et : timeAt l (i + 1) = max (mkW since (l.take (i + 1))).1 x.at_ := by unfold timeAt; rw [ht, lastW_snoc, mkW_last]
      rw [selW_succ, et, ht, mkW_snoc]
      have ec : cnt since l (i + 1) (i + 1) = putB since x := by
        cases since
        · show fAt l (i + 1) = x.f
          unfold fAt; rw [hx]; rfl
        · rw [cnt_yes l (i + 1) (i + 1) (fun m h1 h2 => by omega)]
          show gAt l (i + 1) = x.g
          unfold gAt; rw [hx]; rfl
      have es : selW since l (i + 1) (i + 1) = if clrB since x = true then [] else (mkW since (l.take (i + 1))).2 := by
        rw [← ih]
        cases since
        · show _ = selW false l i (i + 1)
          rfl
        · have hf : fAt l (i + 1) = x.f := by unfold fAt; rw [hx]; rfl
          unfold selW
          have hcong : (List.range (i + 1)).filter (fun k => cnt true l (i + 1) k) = (List.range (i + 1)).filter (fun k => cnt true l i k && x.f) := by
            apply List.filter_congr
            intro k hk
            have := List.mem_range.1 hk
            rw [cnt_succ l i k (by omega), hf]
          rw [hcong]
          unfold clrB
          cases x.f
          · simp
          · simp
      rw [ec, es]
      unfold putsF
      rfl
  exact key i hi
end Go.Proofs.Ytppbgkadpomblaa
