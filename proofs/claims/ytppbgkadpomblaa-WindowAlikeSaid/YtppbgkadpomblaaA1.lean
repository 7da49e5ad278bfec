/- Contracts. -/
import Derived.Test.YtppbgkadpomblaaProg
import Derived.Test.YtppbgkadpomblaaK
import Derived.Tactics
import Derived.Tactics2
import Derived.WalkKit
import Derived.WalkSpells
import Derived.WalkLawsBesides
import Derived.StillTactics
import Derived.StillTailTactics
import Derived.OwnWalk
import Derived.Laws.Pointers
import Derived.Laws.ResultCell
import Derived.Deep.RegionHeld3
import Derived.Deep.RegionWith
import Derived.Deep.RegionLaw
import Derived.Deep.AppendLies
import Derived.Deep.QuietTactic
import Derived.BigQuiet
import Derived.LoopTactic
import Derived.Deep.LoopGhost
import Derived.Deep.DeepCutAuto
import Derived.Deep.DeepFit
import Derived.Maps.AppendAt
import Derived.Below
import Derived.Lib.Hide
import Derived.Handy
import Derived.KernelRfl
import Derived.IntWalk
namespace Go.Proofs.Ytppbgkadpomblaa
set_option linter.unusedVariables false
set_option linter.unusedSimpArgs false
open Go.RowKit

structure Cl where
  at_ : Int
  n : Int
instance : Inhabited Cl := ⟨⟨0, 0⟩⟩
def ccells (x : Cl) : List Value := [.int .i64 x.at_, .int .i64 x.n]
theorem ccells_length (x : Cl) : (ccells x).length = 2 := rfl
def crows (l : List Cl) : List Value := l.flatMap ccells
theorem crows_snoc (l : List Cl) (x : Cl) : crows l ++ ccells x = crows (l ++ [x]) := by simp [crows]
theorem crows_length (l : List Cl) : (crows l).length = l.length * 2 := flat_length ccells_length l
theorem Try.info30 : (Try.prog.info? 30).map (fun i => (i.zero, i.size, i.bytes)) = some (some (.agg #[.int .i64 0, .int .i64 0]), 2, 16) := by kernel_rfl
theorem ccells_one (l : List Cl) : ∀ u ∈ crows l, u.oneCell' = true := by
  intro u hu
  unfold crows at hu
  obtain ⟨x, _, hx⟩ := List.mem_flatMap.1 hu
  unfold ccells at hx
  simp at hx
  rcases hx with rfl | rfl <;> rfl
theorem crows_at {w : World} {b g c : Nat} {l : List Cl} (h : w.ownsRow b 30 2 (.slice (some ⟨g, 0, none⟩) l.length c) l.length (crows l)) (i : Nat) (x : Cl) (hx : l[i]? = some x) :
    w.cell? ⟨g, i * 2, none⟩ = some (.int .i64 x.at_) ∧ w.cell? ⟨g, i * 2 + 1, none⟩ = some (.int .i64 x.n) := by
  have fl := fun j hj => flat_get ccells_length l i j hj x hx
  have d0 := own_cell h (i * 2 + 0) _ (fl 0 (by omega))
  have d1 := own_cell h (i * 2 + 1) _ (fl 1 (by omega))
  exact ⟨d0, d1⟩

/-- A deque: cell o of block g holds its slice, a row of its own. -/
structure Dq (w : World) (g o b : Nat) (t : TypeId) (cs : Array Value) (v : Value) (l : List Cl) : Prop where
  blk : Blk w g t cs
  cell : cs[o]? = some v
  ne : 30 ≠ t
  own : w.ownsRow b 30 2 v l.length (crows l)
def Foot (g : Nat) (v : Value) : Nat → Prop := fun k => k = g ∨ v.ownBlock = some k
section
variable {w w' : World} {g o b : Nat} {t : TypeId} {cs : Array Value} {v : Value} {l : List Cl}
theorem Dq.at_ (h : Dq w g o b t cs v l) : w.cell? ⟨g, o, none⟩ = some v := (h.blk.cell o).trans h.cell
theorem Dq.tch (h : Dq w g o b t cs v l) (k : Tch No w w') : Dq w' g o b t cs v l := ⟨k.blk h.blk (fun f => f), h.cell, h.ne, k.own h.own (fun _ _ f => f)⟩
theorem Dq.tchS {S : Nat → Prop} (h : Dq w g o b t cs v l) (k : Tch S w w') (h1 : ¬ S g) (h2 : ∀ i, v.ownBlock = some i → ¬ S i) : Dq w' g o b t cs v l := ⟨k.blk h.blk h1, h.cell, h.ne, k.own h.own h2⟩
theorem Dq.apart (h : Dq w g o b t cs v l) : v.ownBlock ≠ some g := own_blk_ne h.own h.blk h.ne
theorem Dq.lt (h : Dq w g o b t cs v l) : g < w.heap.size := h.blk.lt
theorem Dq.form (h : Dq w g o b t cs v l) : ∃ A c, v = .slice A l.length c := own_slice h.own
end
/-- The last cell, if there is one. -/
theorem last_split (l : List Cl) : l = [] ∨ ∃ p x, l = p ++ [x] := by
  rcases List.eq_nil_or_concat l with h | ⟨p, x, h⟩
  · exact .inl h
  · exact .inr ⟨p, x, by simpa using h⟩

set_option maxHeartbeats 400000 in
theorem len_c (g o : Nat) (A : Option Addr) (n c : Nat) (w : World) (h : w.cell? ⟨g, o, none⟩ = some (.slice A n c)) :
    Calls Try.prog 43 #[.pointer (some ⟨g, o, none⟩)] w fun e w' => e = .returned (.int .i64 n) ∧ w = w' := by
  go_enter Try.func43, Try.ntmps43
  go_wp2
  go_returns
  exact ⟨rfl, rfl⟩
theorem len_nil (w : World) : Calls Try.prog 43 #[.pointer none] w fun e w' => e = .returned (.int .i64 0) ∧ w = w' := by
  go_enter Try.func43, Try.ntmps43
  go_wp2
  go_returns
  exact ⟨rfl, rfl⟩

/-- What First and Last tell. -/
def TellP (x : Option Cl) (w : World) (e : Ending) (w' : World) : Prop :=
  e = .returned (.tuple #[.agg #[.int .i64 (x.getD default).at_, .int .i64 (x.getD default).n], .bool x.isSome]) ∧ Tch No w w'

theorem cell_alloc {w : World} {g o : Nat} {u : Value} (h : w.cell? ⟨g, o, none⟩ = some u) (ob : Obj) : (w.alloc ob).cell? ⟨g, o, none⟩ = some u := ((Tch.refl No w).alloc ob).cell (fun f => f) h

set_option maxHeartbeats 400000 in
theorem last_c (g o b : Nat) (t : TypeId) (cs : Array Value) (v : Value) (l : List Cl) (w : World) (h : Dq w g o b t cs v l) (hl : l.length ≤ 1000000) :
    Calls Try.prog 45 #[.pointer (some ⟨g, o, none⟩)] w (TellP l.getLast? w) := by
  have hlt := h.lt
  rcases last_split l with rfl | ⟨p, x, rfl⟩
  · obtain ⟨A, c, rfl⟩ := h.form
    have c0 := h.at_
    clear h
    go_enter Try.func45, Try.ntmps45
    go_wp2_with fail
    refine (len_c g o _ _ _ _ (cell_alloc c0 _)).mono ?_
    rintro e w' ⟨rfl, rfl⟩
    go_wp2
    go_returns
    exact ⟨rfl, (Tch.refl _ _).alloc _⟩
  · have hn : (p ++ [x]).length = p.length + 1 := by simp
    rw [hn] at hl
    obtain ⟨a, c, hA, _, halt⟩ := h.own.form (by omega)
    subst hA
    have c0 := h.at_
    rw [hn] at c0
    obtain ⟨d0, d1⟩ := crows_at h.own p.length x (by simp)
    have hl0 : (p ++ [x]).getLast? = some x := by simp
    rw [hl0]
    clear h hn hl0
    go_enter Try.func45, Try.ntmps45
    go_wp2_with fail
    refine (len_c g o _ _ _ _ (cell_alloc c0 _)).mono ?_
    rintro e w' ⟨rfl, rfl⟩
    go_wp2
    have hwr : IntKind.i64.wrap (p.length : Int) = p.length := IntWalk.i64_in _ (by omega)
    have hwl : (p.length : Int) < (p.length : Int) + 1 := by omega
    go_region_law (fail)
    all_goals
      go_wp2
      go_returns
      exact ⟨rfl, ((Tch.refl _ _).alloc _).drewN 1⟩

set_option maxHeartbeats 400000 in
theorem first_c (g o b : Nat) (t : TypeId) (cs : Array Value) (v : Value) (l : List Cl) (w : World) (h : Dq w g o b t cs v l) (hl : l.length ≤ 1000000) :
    Calls Try.prog 46 #[.pointer (some ⟨g, o, none⟩)] w (TellP l.head? w) := by
  have hlt := h.lt
  cases l with
  | nil =>
    obtain ⟨A, c, rfl⟩ := h.form
    have c0 := h.at_
    clear h
    go_enter Try.func46, Try.ntmps46
    go_wp2_with fail
    refine (len_c g o _ _ _ _ (cell_alloc c0 _)).mono ?_
    rintro e w' ⟨rfl, rfl⟩
    go_wp2
    go_returns
    exact ⟨rfl, (Tch.refl _ _).alloc _⟩
  | cons x p =>
    have hn : (x :: p).length = p.length + 1 := by simp
    rw [hn] at hl
    obtain ⟨a, c, hA, _, halt⟩ := h.own.form (by omega)
    subst hA
    have c0 := h.at_
    rw [hn] at c0
    obtain ⟨d0, d1⟩ := crows_at h.own 0 x (by simp)
    have hl0 : (x :: p).head? = some x := by simp
    rw [hl0]
    rw [Nat.zero_mul] at d0 d1
    clear h hn hl0
    go_enter Try.func46, Try.ntmps46
    go_wp2_with fail
    refine (len_c g o _ _ _ _ (cell_alloc c0 _)).mono ?_
    rintro e w' ⟨rfl, rfl⟩
    go_wp2
    go_returns
    exact ⟨rfl, (Tch.refl _ _).alloc _⟩

/-- A new list: a row of its own. -/
def NewP (n : Nat) (xs : List Value) (w : World) (e : Ending) (w' : World) : Prop :=
  ∃ A c, e = .returned (.slice A n c) ∧ w'.ownsRow w.heap.size 30 2 (.slice A n c) n xs ∧ Tch No w w'
theorem rd_add {w : World} {S : Nat → Prop} {size n : Nat} {ad : Addr} {xs : List Value} (h : Rd w S size (some ad) n xs) : ∀ j u, xs[j]? = some u → w.cell? (ad.add j) = some u := by
  intro j u hu
  have hp : 0 < n := by
    rcases Nat.eq_zero_or_pos n with h0 | h0
    · subst h0
      have : xs = [] := List.eq_nil_of_length_eq_zero (by simpa using h.1)
      subst this; simp at hu
    · exact h0
  obtain ⟨g, off, hA, _, _, hc⟩ := h.2 hp
  injection hA with hA
  subst hA
  have := hc j u hu
  rw [show (⟨g, off, none⟩ : Addr).add j = ⟨g, off + j, none⟩ by unfold Addr.add; split <;> simp_all]
  exact this

set_option maxHeartbeats 800000 in
theorem clone_c (S : Nat → Prop) (A : Option Addr) (n c : Nat) (l : List Cl) (w : World) (hr : Rd w S 2 A n (crows l)) (hn : n ≤ 1000000) (hnil : A = none → n = 0 ∧ c = 0) :
    Calls Try.prog 57 #[.slice A n c] w (NewP n (crows l) w) := by
  obtain ⟨i0, hi0, hz0, hz1, hz2⟩ := info_parts Try.info30
  have hk := fun (w : World) (a : Option Addr) (n c : Nat) => Lib.run_eql_slice_nil (P := Try.prog) w 24 30 a n c 0 0 Try.underlying24
  have hl := ccells_one l
  have hk1 : 0 + n ≤ maxLen := by unfold maxLen; omega
  have hk2 : (0 + n) * 16 ≤ 140737488355328 := by omega
  cases A with
  | none =>
    obtain ⟨rfl, rfl⟩ := hnil rfl
    have e0 : crows l = [] := List.eq_nil_of_length_eq_zero (by simpa using hr.1)
    have E0 := Lib.hid e0
    clear e0 hl hr hk1 hk2
    go_enter Try.func57, Try.ntmps57
    go_wp2
    go_returns
    exact ⟨none, 0, rfl, by rw [E0.out]; exact World.ownsRow_nil .., Tch.refl _ _⟩
  | some ad =>
    have hcs : Hid (∀ j u, (crows l)[j]? = some u → (w.alloc (.cells #[] 30)).cell? (ad.add j) = some u) := rd_add (hr.tch ((Tch.refl S w).alloc _))
    have hlen := hr.1
    have hs1 : w.heap.size ≤ (w.alloc (.cells #[] 30)).heap.size := by simp
    clear hr hnil
    go_enter Try.func57, Try.ntmps57
    go_wp2_with (at_builtin; go_must (refine wpList_append_own_at _ rfl (.tmp 5) (.tmp 6) _ rfl w.heap.size 30 i0 _ 2 16 Try.underlying24 hi0 hz0 hz1 hz2 rfl (by decide) _ 0 [] rfl (World.ownsRow_made w #[] 0 (Nat.le_refl _) (by decide) rfl) ad n c (crows l) rfl hlen hcs.out hl hk1 hk2 hs1 ?_); intro v1 w1 hown1 hg1 hnil1 hat1)
    go_returns
    rw [Nat.zero_add, List.nil_append] at hown1
    obtain ⟨A1, c1, rfl⟩ := own_slice hown1
    refine ⟨A1, c1, rfl, hown1, ?_⟩
    exact ((Tch.refl No w).alloc _).trans (Tch.of_grown (S := fun k => w.heap.size ≤ k) hg1 (fun k hk => .inl (own_base (World.ownsRow_made w #[] 0 (e := 30) (size := 2) (Nat.le_refl _) (by decide) rfl) k hk))) (fun i hi => .inr hi)

set_option maxHeartbeats 400000 in
/-- The deque's list, anew. -/
theorem all_c (g o b : Nat) (t : TypeId) (cs : Array Value) (v : Value) (l : List Cl) (w : World) (h : Dq w g o b t cs v l) (hl : l.length ≤ 1000000) :
    Calls Try.prog 48 #[.pointer (some ⟨g, o, none⟩)] w (NewP l.length (crows l) w) := by
  have c0 := h.at_
  have hlt := h.lt
  obtain ⟨A, c, rfl, hr⟩ := Rd.of_own (S := No) h.own (fun k _ h => h)
  have hnil : A = none → l.length = 0 ∧ c = 0 := by
    intro hA; subst hA
    rcases h.own.2 with ⟨h, h2⟩ | ⟨g', cap, cur, h, _⟩
    · injection h with _ h3 h4; exact ⟨h3, h4⟩
    · cases h
  have H := Lib.hid hr
  have HN := Lib.hid hnil
  clear hr h hnil
  go_enter Try.func48, Try.ntmps48
  go_wp2_with (go_at_call 57; go_must (refine (clone_c No A l.length c l _ H.out hl HN.out).mono ?_); rintro e w' ⟨A1, c1, rfl, ho, ht⟩)
  go_returns
  exact ⟨A1, c1, rfl, ho, ht⟩
theorem all_nil (w : World) : Calls Try.prog 48 #[.pointer none] w fun e w' => e = .returned (.slice none 0 0) ∧ w = w' := by
  go_enter Try.func48, Try.ntmps48
  go_wp2
  go_returns
  exact ⟨rfl, rfl⟩
theorem last_nil (w : World) : Calls Try.prog 45 #[.pointer none] w (TellP none w) := by
  go_enter Try.func45, Try.ntmps45
  go_wp2_with (go_at_call 43; refine (len_nil _).mono ?_; rintro e w' ⟨rfl, rfl⟩)
  go_returns
  exact ⟨rfl, (Tch.refl _ _).alloc _⟩
theorem first_nil (w : World) : Calls Try.prog 46 #[.pointer none] w (TellP none w) := by
  go_enter Try.func46, Try.ntmps46
  go_wp2_with (go_at_call 43; refine (len_nil _).mono ?_; rintro e w' ⟨rfl, rfl⟩)
  go_returns
  exact ⟨rfl, (Tch.refl _ _).alloc _⟩

/-- A deque of its own, in a new block. -/
def DqP (l : List Cl) (w : World) (e : Ending) (w' : World) : Prop :=
  ∃ g v, e = .returned (.pointer (some ⟨g, 0, none⟩)) ∧ w.heap.size ≤ g ∧ Dq w' g 0 w.heap.size 26 #[v] v l ∧ Tch No w w'
set_option maxHeartbeats 400000 in
theorem dclone_c (g o b : Nat) (t : TypeId) (cs : Array Value) (v : Value) (l : List Cl) (w : World) (h : Dq w g o b t cs v l) (hl : l.length ≤ 1000000) :
    Calls Try.prog 20 #[.pointer (some ⟨g, o, none⟩)] w (DqP l w) := by
  have H := Lib.hid h
  clear h
  go_enter Try.func20, Try.ntmps20
  go_wp2_with (go_at_call 48; go_must (refine (all_c g o b t cs v l _ H.out hl).mono ?_); rintro e w1 ⟨A1, c1, rfl, ho, ht⟩)
  go_returns
  refine ⟨w1.heap.size, _, rfl, ht.size, ⟨Blk.new w1 26 #[.slice A1 l.length c1], rfl, by decide, ?_⟩, ht.alloc _⟩
  exact ((Tch.refl No w1).alloc _).own ho (fun k _ h => h)
theorem dclone_nil (w : World) : Calls Try.prog 20 #[.pointer none] w fun e w' => e = .returned (.pointer none) ∧ w = w' := by
  go_enter Try.func20, Try.ntmps20
  go_wp2
  go_returns
  exact ⟨rfl, rfl⟩

/-- Clear. -/
def ClearP (g o b : Nat) (t : TypeId) (cs : Array Value) (w : World) (e : Ending) (w' : World) : Prop :=
  e = .returned (.tuple #[]) ∧ Dq w' g o b t (cs.setIfInBounds o (.slice none 0 0)) (.slice none 0 0) [] ∧ Tch (fun k => k = g) w w'
set_option maxHeartbeats 400000 in
theorem clear_c (g o b : Nat) (t : TypeId) (cs : Array Value) (v : Value) (l : List Cl) (w : World) (h : Dq w g o b t cs v l) :
    Calls Try.prog 21 #[.pointer (some ⟨g, o, none⟩)] w (ClearP g o b t cs w) := by
  have c0 := h.at_
  have f0 := h.blk.frozen o
  have H := Lib.hid h
  clear h
  go_enter Try.func21, Try.ntmps21
  go_wp2
  go_returns
  refine ⟨rfl, ⟨H.out.blk.set_ o _, ?_, H.out.ne, World.ownsRow_nil ..⟩, (Tch.refl (fun k => k = g) w).set_ (p := ⟨g, o, none⟩) (.inl rfl) _⟩
  have := H.out.cell
  have hlt := (Array.getElem?_eq_some_iff.1 this).1
  rw [Array.getElem?_setIfInBounds]
  simp [hlt]
theorem clear_nil (w : World) : Calls Try.prog 21 #[.pointer none] w fun e w' => e = .returned (.tuple #[]) ∧ w = w' := by
  go_enter Try.func21, Try.ntmps21
  go_wp2
  go_returns
  exact ⟨rfl, rfl⟩
end Go.Proofs.Ytppbgkadpomblaa
