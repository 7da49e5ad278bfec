/- Contracts. -/
import Derived.Test.YtppbgkadpomblaaProg
import Derived.Test.YtppbgkadpomblaaA1
import Derived.Tactics
import Derived.Tactics2
import Derived.WalkKit
import Derived.WalkSpells
import Derived.WalkLawsBesides
import Derived.StillTactics
import Derived.StillTailTactics
import Derived.OwnWalk
import Derived.Laws.Pointers
import Derived.Laws.ResultCell
import Derived.Deep.RegionHeld3
import Derived.Deep.RegionWith
import Derived.Deep.RegionLaw
import Derived.Deep.AppendLies
import Derived.Deep.QuietTactic
import Derived.BigQuiet
import Derived.LoopTactic
import Derived.Deep.LoopGhost
import Derived.Deep.DeepCutAuto
import Derived.Deep.DeepFit
import Derived.Maps.AppendAt
import Derived.Below
import Derived.Lib.Hide
import Derived.Handy
import Derived.KernelRfl
import Derived.IntWalk
namespace Go.Proofs.Ytppbgkadpomblaa
set_option linter.unusedVariables false
set_option linter.unusedSimpArgs false
open Go.RowKit

def sumL (l : List Cl) : Int := (l.map (·.n)).sum
def CellsOk (l : List Cl) : Prop := ∀ x ∈ l, 0 ≤ x.n ∧ x.n ≤ 32768
theorem sumL_snoc (l : List Cl) (x : Cl) : sumL (l ++ [x]) = sumL l + x.n := by simp [sumL]
theorem sumL_bd (l : List Cl) (h : CellsOk l) : 0 ≤ sumL l ∧ sumL l ≤ 32768 * l.length := by
  induction l with
  | nil => simp [sumL]
  | cons x l ih =>
    have h1 := h x (by simp)
    have h2 := ih (fun y hy => h y (by simp [hy]))
    have e : sumL (x :: l) = x.n + sumL l := by simp [sumL]
    rw [e]
    simp only [List.length_cons, Int.natCast_add]
    omega
theorem take_succ_of {α : Type} {l : List α} {i : Nat} {x : α} (h : l[i]? = some x) : l.take (i + 1) = l.take i ++ [x] := by
  obtain ⟨hi, hx⟩ := List.getElem?_eq_some_iff.1 h
  rw [List.take_succ_eq_append_getElem hi, hx]

set_option maxHeartbeats 400000 in
theorem sum_c (g o b : Nat) (t : TypeId) (cs : Array Value) (v : Value) (l : List Cl) (w : World) (h : Dq w g o b t cs v l) (hl : l.length ≤ 1000000) (hok : CellsOk l) :
    Calls Try.prog 44 #[.pointer (some ⟨g, o, none⟩)] w fun e w' => e = .returned (.int .i64 (sumL l)) ∧ Tch No w w' := by
  have H := Lib.hid h
  clear h
  go_enter Try.func44, Try.ntmps44
  go_wp2_with (go_at_call 48; go_must (refine (all_c g o b t cs v l _ H.out hl).mono ?_); rintro e w1 ⟨A1, c1, rfl, ho, ht⟩)
  go_loopw [3, 9] (fun nv iv wr => ∃ i : Nat, i ≤ l.length ∧ iv = .int .i64 i ∧ nv = .int .i64 (sumL (l.take i)) ∧ Tch No w1 wr) (fun _ iv _ => l.length - (intOf iv).toNat)
  case atStart => exact ⟨0, by omega, rfl, rfl, Tch.refl _ _⟩
  case round =>
    obtain ⟨i, hil, rfl, rfl, htc⟩ := hrel
    have hb := sumL_bd (l.take i) (fun x hx => hok x (List.mem_of_mem_take hx))
    have hb0 := hb.1
    have hb1 : sumL (l.take i) ≤ 32768 * i := by have := hb.2; rw [List.length_take, Nat.min_eq_left hil] at this; exact this
    by_cases hlt : i < l.length
    · obtain ⟨x, hx⟩ : ∃ x, l[i]? = some x := ⟨l[i], List.getElem?_eq_getElem hlt⟩
      have hps : sumL (l.take (i + 1)) = sumL (l.take i) + x.n := by rw [take_succ_of hx, sumL_snoc]
      obtain ⟨hn0, hn1⟩ := hok x (List.mem_of_getElem? hx)
      have ho2 := htc.own ho (fun k _ h => h)
      obtain ⟨a, c', hA, _, halt⟩ := ho2.form (by omega)
      injection hA with hA _ hc'
      subst hA hc'
      obtain ⟨d0, d1⟩ := crows_at ho2 i x hx
      have T := Lib.hid htc
      have HP := Lib.hid hps
      clear ho2 htc hps hx ho ht hb
      go_wp2
      exact ⟨⟨i + 1, by omega, by simp, by rw [HP.out], T.out.alloc _⟩, by simp [intOf]; omega⟩
    · have hin : i = l.length := by omega
      subst hin
      have e0 : l.take l.length = l := List.take_length
      rw [e0]
      clear ho e0 hb
      have T := Lib.hid (ht.and htc)
      clear htc ht
      go_wp2
      go_returns
      exact ⟨rfl, T.out⟩
theorem sum_nil (w : World) : Calls Try.prog 44 #[.pointer none] w fun e w' => e = .returned (.int .i64 0) ∧ w = w' := by
  go_enter Try.func44, Try.ntmps44
  go_wp2_with (go_at_call 48; go_must (refine (all_nil _).mono ?_); rintro e w1 ⟨rfl, rfl⟩)
  go_loop [3, 9] (fun nv iv => nv = .int .i64 0 ∧ iv = .int .i64 0) (fun _ _ => 0)
  case atStart => exact ⟨rfl, rfl⟩
  case round =>
    obtain ⟨rfl, rfl⟩ := hrel
    go_wp2
    go_returns
    exact ⟨rfl, rfl⟩

/-! ## Push -/
def pushL (l : List Cl) (t : Int) : List Cl :=
  match l.getLast? with
  | none => [⟨t, 1⟩]
  | some c => if t < c.at_ then l else if t = c.at_ then l.dropLast ++ [⟨c.at_, min (c.n + 1) 32768⟩] else l ++ [⟨t, 1⟩]
def pushB (l : List Cl) (t : Int) : Bool :=
  match l.getLast? with
  | none => true
  | some c => !decide (t < c.at_)
theorem push_less (p : List Cl) (x : Cl) (t : Int) (h : t < x.at_) : pushL (p ++ [x]) t = p ++ [x] ∧ pushB (p ++ [x]) t = false := by
  unfold pushL pushB; simp [h]
theorem push_same (p : List Cl) (x : Cl) (t : Int) (h : t = x.at_) : pushL (p ++ [x]) t = p ++ [⟨x.at_, min (x.n + 1) 32768⟩] ∧ pushB (p ++ [x]) t = true := by
  unfold pushL pushB; simp [h]
theorem push_more (p : List Cl) (x : Cl) (t : Int) (h : x.at_ < t) : pushL (p ++ [x]) t = p ++ [x] ++ [⟨t, 1⟩] ∧ pushB (p ++ [x]) t = true := by
  unfold pushL pushB
  have h1 : ¬ t < x.at_ := by omega
  have h2 : ¬ t = x.at_ := by omega
  simp [h1, h2]
def PushP (g o b : Nat) (t : TypeId) (cs : Array Value) (v : Value) (l' : List Cl) (r : Bool) (w : World) (e : Ending) (w' : World) : Prop :=
  ∃ v', e = .returned (.bool r) ∧ Dq w' g o b t (cs.setIfInBounds o v') v' l' ∧ Tch (Foot g v) w w' ∧ (∀ k, v'.ownBlock = some k → v.ownBlock = some k ∨ w.heap.size ≤ k)
theorem set_self {cs : Array Value} {o : Nat} {v : Value} (h : cs[o]? = some v) : cs.setIfInBounds o v = cs := by
  apply Array.ext_getElem?
  intro i
  rw [Array.getElem?_setIfInBounds]
  split
  · rename_i e
    subst e
    have := (Array.getElem?_eq_some_iff.1 h).1
    rw [if_pos this, h]
  · rfl
theorem set_get {cs : Array Value} {o : Nat} {v u : Value} (h : cs[o]? = some v) : (cs.setIfInBounds o u)[o]? = some u := by
  have := (Array.getElem?_eq_some_iff.1 h).1
  rw [Array.getElem?_setIfInBounds]
  simp [this]

set_option maxHeartbeats 400000 in
theorem push_c1 (g o b : Nat) (t : TypeId) (cs : Array Value) (v : Value) (p : List Cl) (x : Cl) (at_ : Int) (w : World) (h : Dq w g o b t cs v (p ++ [x])) (hl : (p ++ [x]).length ≤ 900000) (hlt : at_ < x.at_) :
    Calls Try.prog 16 #[.pointer (some ⟨g, o, none⟩), .int .i64 at_] w (PushP g o b t cs v (p ++ [x]) false w) := by
  have H := Lib.hid h
  have E : Hid ((p ++ [x]).getLast? = some x) := by show (p ++ [x]).getLast? = some x; simp
  have hl' := hl
  clear h hl
  go_enter Try.func16, Try.ntmps16
  go_wp2_with fail
  refine (last_c g o b t cs v _ _ H.out (by omega)).mono ?_
  rintro e w1 ⟨rfl, t1⟩
  rw [E.out]
  have T := Lib.hid t1
  clear t1
  dsimp only [Option.getD, Option.isSome]
  go_wp2
  go_returns
  exact ⟨v, rfl, by rw [set_self H.out.cell]; exact H.out.tch (T.out.alloc _), (T.out.alloc _).no, fun k hk => .inl hk⟩

theorem own_lenset {w : World} {b a c : Nat} {p : List Cl} {x y : Cl} {n : Int} (h : w.ownsRow b 30 2 (.slice (some ⟨a, 0, none⟩) (p ++ [x]).length c) (p ++ [x]).length (crows (p ++ [x]))) (hy : y = ⟨x.at_, n⟩) :
    (w.setCell ⟨a, p.length * 2 + 1, none⟩ (.int .i64 n)).ownsRow b 30 2 (.slice (some ⟨a, 0, none⟩) (p ++ [y]).length c) (p ++ [y]).length (crows (p ++ [y])) := by
  have h1 := own_set h (p.length * 2 + 1) (by simp; omega) (.int .i64 n)
  have h2 := flat_set ccells_length (p ++ [x]) p.length 1 (by omega) x y (.int .i64 n) (by simp) (by subst hy; rfl)
  unfold crows at h1 ⊢
  rw [h2] at h1
  have e : (p ++ [x]).set p.length y = p ++ [y] := by simp
  rw [e] at h1
  simpa using h1
theorem push_fin {g o b a c : Nat} {t : TypeId} {cs : Array Value} {p : List Cl} {x : Cl} {w w1 : World} {ob : Obj} (h : Dq (w1.alloc ob) g o b t cs (.slice (some ⟨a, 0, none⟩) (p ++ [x]).length c) (p ++ [x])) (n : Int) (t1 : Tch No w w1) :
    PushP g o b t cs (.slice (some ⟨a, 0, none⟩) (p ++ [x]).length c) (p ++ [⟨x.at_, n⟩]) true w (.returned (.bool true)) ((w1.alloc ob).drew.setCell ⟨a, p.length * 2 + 1, none⟩ (.int .i64 n)) := by
  have hne := h.apart
  have hga : g ≠ a := fun e => hne (by subst e; rfl)
  refine ⟨_, rfl, ?_, ((t1.alloc ob).drewN 1).no.set_ (p := ⟨a, _, none⟩) (.inl (.inr rfl)) _, fun k hk => .inl hk⟩
  rw [set_self h.cell]
  have h2 := own_lenset (n := n) (y := ⟨x.at_, n⟩) (w := ((w1.alloc ob).drewN 1)) h.own rfl
  rw [show (p ++ [(⟨x.at_, n⟩ : Cl)]).length = (p ++ [x]).length by simp] at h2
  refine ⟨(h.blk.drewN 1).far (p := ⟨a, _, none⟩) hga _, h.cell, h.ne, ?_⟩
  rw [show (p ++ [(⟨x.at_, n⟩ : Cl)]).length = (p ++ [x]).length by simp]
  exact h2

set_option maxHeartbeats 400000 in
set_option maxRecDepth 100000 in
theorem push_c2 (g o b : Nat) (t : TypeId) (cs : Array Value) (v : Value) (p : List Cl) (x : Cl) (w : World) (h : Dq w g o b t cs v (p ++ [x])) (hl : (p ++ [x]).length ≤ 900000) (hn0 : 0 ≤ x.n) (hn1 : x.n ≤ 32768) (q : Int) (hq : (x.n + 1 ≤ 32768 ∧ q = x.n + 1) ∨ (32768 < x.n + 1 ∧ q = 32768)) :
    Calls Try.prog 16 #[.pointer (some ⟨g, o, none⟩), .int .i64 x.at_] w (PushP g o b t cs v (p ++ [⟨x.at_, q⟩]) true w) := by
  rcases hq with ⟨hm, rfl⟩ | ⟨hm, rfl⟩
  · have H := Lib.hid h
    have E : Hid ((p ++ [x]).getLast? = some x) := by show (p ++ [x]).getLast? = some x; simp
    have hn : (p ++ [x]).length = p.length + 1 := by simp
    rw [hn] at hl
    obtain ⟨a, c, hA, _, halt⟩ := h.own.form (by omega)
    subst hA
    clear h hn
    have hnn : ¬ x.at_ < x.at_ := by omega
    go_enter Try.func16, Try.ntmps16
    go_wp2_with fail
    refine (last_c g o b t cs _ _ _ H.out (by simp; omega)).mono ?_
    rintro e w1 ⟨rfl, t1⟩
    rw [E.out]
    have D1 := Lib.hid (H.out.tch (t1.alloc (.cells #[.int .i64 x.at_, .int .i64 x.n] 30)))
    have c0 := D1.out.at_
    rw [show (p ++ [x]).length = p.length + 1 by simp] at c0
    obtain ⟨d0, d1⟩ := crows_at D1.out.own p.length x (by simp)
    have f0 := own_frozen D1.out.own (p.length * 2 + 1)
    have T := Lib.hid t1
    clear t1
    dsimp only [Option.getD, Option.isSome]
    have FIN := Lib.hid (push_fin D1.out (x.n + 1) T.out)
    go_wp2
    have hwr : IntKind.i64.wrap (p.length : Int) = p.length := IntWalk.i64_in _ (by omega)
    have hwl : (p.length : Int) < (p.length : Int) + 1 := by omega
    have hwn : IntKind.i64.wrap (x.n + 1) = x.n + 1 := IntWalk.i64_in _ (by omega)
    have hmd : ¬ (32768 < x.n + 1) := by omega
    have hap := D1.out.apart
    have hga : ¬ g = a := fun e => hap (by subst e; rfl)
    have hag : ¬ a = g := fun e => hga e.symm
    have hs1 := T.out.size
    have haw : ¬ a = w1.heap.size := by omega
    have hwa : ¬ w1.heap.size = a := by omega
    clear hap hs1
    go_region_held3 (fun w' => w'.cell? ⟨g, o, none⟩ = some (.slice (some ⟨a, 0, none⟩) (p.length + 1) c) ∧ w'.cell? ⟨w1.heap.size, 1, none⟩ = some (.int .i64 x.n)) (go_keep) (fail)
    all_goals
      go_wp2
      go_returns
      exact FIN.out
  · have H := Lib.hid h
    have E : Hid ((p ++ [x]).getLast? = some x) := by show (p ++ [x]).getLast? = some x; simp
    have hn : (p ++ [x]).length = p.length + 1 := by simp
    rw [hn] at hl
    obtain ⟨a, c, hA, _, halt⟩ := h.own.form (by omega)
    subst hA
    clear h hn
    have hnn : ¬ x.at_ < x.at_ := by omega
    go_enter Try.func16, Try.ntmps16
    go_wp2_with fail
    refine (last_c g o b t cs _ _ _ H.out (by simp; omega)).mono ?_
    rintro e w1 ⟨rfl, t1⟩
    rw [E.out]
    have D1 := Lib.hid (H.out.tch (t1.alloc (.cells #[.int .i64 x.at_, .int .i64 x.n] 30)))
    have c0 := D1.out.at_
    rw [show (p ++ [x]).length = p.length + 1 by simp] at c0
    obtain ⟨d0, d1⟩ := crows_at D1.out.own p.length x (by simp)
    have f0 := own_frozen D1.out.own (p.length * 2 + 1)
    have T := Lib.hid t1
    clear t1
    dsimp only [Option.getD, Option.isSome]
    have FIN := Lib.hid (push_fin D1.out (32768) T.out)
    go_wp2
    have hwr : IntKind.i64.wrap (p.length : Int) = p.length := IntWalk.i64_in _ (by omega)
    have hwl : (p.length : Int) < (p.length : Int) + 1 := by omega
    have hwn : IntKind.i64.wrap (x.n + 1) = x.n + 1 := IntWalk.i64_in _ (by omega)
    have hmd : ¬ (x.n + 1 ≤ 32768) := by omega
    have hap := D1.out.apart
    have hga : ¬ g = a := fun e => hap (by subst e; rfl)
    have hag : ¬ a = g := fun e => hga e.symm
    have hs1 := T.out.size
    have haw : ¬ a = w1.heap.size := by omega
    have hwa : ¬ w1.heap.size = a := by omega
    clear hap hs1
    go_region_held3 (fun w' => w'.cell? ⟨g, o, none⟩ = some (.slice (some ⟨a, 0, none⟩) (p.length + 1) c) ∧ w'.cell? ⟨w1.heap.size, 1, none⟩ = some (.int .i64 x.n)) (go_keep) (fail)
    all_goals
      go_wp2
      go_returns
      exact FIN.out

set_option maxHeartbeats 400000 in
theorem push_nil (at_ : Int) (w : World) : Calls Try.prog 16 #[.pointer none, .int .i64 at_] w fun e w' => e = .returned (.bool false) ∧ Tch No w w' := by
  go_enter Try.func16, Try.ntmps16
  go_wp2_with fail
  refine (last_nil _).mono ?_
  rintro e w1 ⟨rfl, t1⟩
  have T := Lib.hid t1
  clear t1
  dsimp only [Option.getD, Option.isSome]
  go_wp2
  go_returns
  exact ⟨rfl, T.out.alloc _⟩
theorem blk_gr {w w' : World} {r : Option Nat} {g : Nat} {t : TypeId} {cs : Array Value} (h : w.grownBy w' r) (hn : r ≠ some g) (hb : Blk w g t cs) : Blk w' g t cs := (h.block g hb.lt (Ne.symm hn)).trans hb
theorem newblk2 (w : World) (o : Obj) (cs : Array Value) (t : TypeId) : ((w.alloc o).alloc (.cells cs t)).heap[w.heap.size + 1]? = some (.cells cs t (0, 0)) := by
  have := Blk.new (w.alloc o) t cs
  rw [show (w.alloc o).heap.size = w.heap.size + 1 by simp] at this
  exact this
theorem app_fin {g o b a cc : Nat} {t : TypeId} {cs : Array Value} {v : Value} {l : List Cl} {x : Cl} {w w1 w2 : World} {o1 o2 : Obj} (h : Dq w1 g o b t cs v l) (hs : w.heap.size ≤ w1.heap.size) (t1 : Tch No w w1) (hown : w2.ownsRow b 30 2 (.slice (some ⟨a, 0, none⟩) (l.length + 1) cc) (l.length + 1) (crows l ++ ccells x))
    (hgrow : ((w1.alloc o1).alloc o2).grownBy w2 v.ownBlock) (hat : v.ownBlock = some a ∨ a = w1.heap.size + 1 + 1) (b2 : Blk w2 g t cs) :
    PushP g o b t cs v (l ++ [x]) true w (.returned (.bool true)) (w2.setCell ⟨g, o, none⟩ (.slice (some ⟨a, 0, none⟩) (l.length + 1) cc)) := by
  have hgl := h.lt
  have hag : a ≠ g := by
    rcases hat with e | e
    · intro f; subst f; exact h.apart e
    · omega
  have t2 : Tch (Foot g v) w w2 := (((t1.alloc o1).alloc o2).no (S := Foot g v)).and (Tch.of_grown hgrow fun k hk => .inl (.inr hk))
  refine ⟨_, rfl, ⟨b2.set_ o _, set_get h.cell, h.ne, ?_⟩, t2.set_ (p := ⟨g, o, none⟩) (.inl (.inl rfl)) _, fun k hk => ?_⟩
  · rw [← crows_snoc]
    have h3 := ((Tch.refl (fun k => k = g) w2).set_ (p := ⟨g, o, none⟩) (.inl rfl) (.slice (some ⟨a, 0, none⟩) (l.length + 1) cc)).own hown (fun k hk => by simp [Value.ownBlock] at hk; omega)
    rw [show (l ++ [x]).length = l.length + 1 by simp]
    exact h3
  · simp [Value.ownBlock] at hk
    subst hk
    rcases hat with e | e
    · exact .inl e
    · right; omega

set_option maxHeartbeats 400000 in
set_option maxRecDepth 100000 in
theorem push_c3 (g o b : Nat) (t : TypeId) (cs : Array Value) (v : Value) (l : List Cl) (at_ : Int) (w : World) (h : Dq w g o b t cs v l) (hb : b ≤ w.heap.size) (hl : l.length ≤ 900000) (hm : ∀ x, l.getLast? = some x → x.at_ < at_) :
    Calls Try.prog 16 #[.pointer (some ⟨g, o, none⟩), .int .i64 at_] w (PushP g o b t cs v (l ++ [⟨at_, 1⟩]) true w) := by
  obtain ⟨i0, hi0, hz0, hz1, hz2⟩ := info_parts Try.info30
  have H := Lib.hid h
  have hk1 : l.length + 1 ≤ maxLen := by unfold maxLen; omega
  have hk2 : (l.length + 1) * 16 ≤ 140737488355328 := by omega
  obtain ⟨A, c, rfl⟩ := h.form
  have hgl := h.lt
  clear h
  obtain ⟨lx, hx⟩ : ∃ lx, lx = l.getLast? := ⟨_, rfl⟩
  have hd : (lx = none ∨ ∃ y, lx = some y ∧ y.at_ < at_) := by
    cases hlx : l.getLast? with
    | none => exact .inl (by rw [hx, hlx])
    | some y => exact .inr ⟨y, by rw [hx, hlx], hm y hlx⟩
  have HX := Lib.hid hx
  clear hx hm
  rcases hd with rfl | ⟨y, rfl, hy⟩
  all_goals
    go_enter Try.func16, Try.ntmps16
    go_wp2_with fail
    refine (last_c g o b t cs _ _ _ H.out (by omega)).mono ?_
    rintro e w1 ⟨rfl, t1⟩
    rw [← HX.out]
    have D1 := Lib.hid (H.out.tch t1)
    have T := Lib.hid t1
    have hs := t1.size
    have hbw : b ≤ w1.heap.size := Nat.le_trans hb hs
    have c0 := fun ob => (D1.out.tch ((Tch.refl No w1).alloc ob)).at_
    have OWN : Hid (∀ o1 o2, ((w1.alloc o1).alloc o2).ownsRow b 30 2 (.slice A l.length c) l.length (crows l)) := fun o1 o2 => (D1.out.own.alloc o1).alloc o2
    clear t1
    dsimp only [Option.getD, Option.isSome]
    go_wp2_with (at_builtin; go_must (refine wpList_append_lies _ rfl (.tmp 16) (.tmp 19) _ rfl b 30 i0 _ 2 16 Try.underlying24 hi0 hz0 hz1 hz2 rfl (by omega) (.slice A l.length c) l.length (crows l) rfl (OWN.out _ _) ⟨w1.heap.size + 1, 0, none⟩ 1 1 (ccells ⟨at_, 1⟩) rfl rfl (World.news_of_block (cs := (ccells ⟨at_, 1⟩).toArray) (t := 30) (fr := (0, 0)) (newblk2 w1 _ _ 30)) (by simp [ccells, Value.oneCell']) (by omega) hk1 hk2 (le_alloc (le_alloc hbw _) _) (w1.heap.size + 1 + 1) (by simp) ?_); intro a cc w2 hown2 hgrow hat hlt; have b2 := blk_gr hgrow D1.out.apart ((D1.out.blk.alloc _).alloc _); have c2 := (b2.cell o).trans D1.out.cell; have f2 := b2.frozen o)
    go_returns
    exact app_fin D1.out hs T.out hown2 hgrow hat b2

/-- Push at whatever deque. -/
theorem push_c (g o b : Nat) (t : TypeId) (cs : Array Value) (v : Value) (l : List Cl) (at_ : Int) (w : World) (h : Dq w g o b t cs v l) (hb : b ≤ w.heap.size) (hl : l.length ≤ 900000) (hok : CellsOk l) :
    Calls Try.prog 16 #[.pointer (some ⟨g, o, none⟩), .int .i64 at_] w (PushP g o b t cs v (pushL l at_) (pushB l at_) w) := by
  rcases last_split l with rfl | ⟨p, x, rfl⟩
  · exact push_c3 g o b t cs v [] at_ w h hb hl (fun x hx => by simp at hx)
  · rcases (by omega : at_ < x.at_ ∨ at_ = x.at_ ∨ x.at_ < at_) with h1 | h1 | h1
    · rw [(push_less p x at_ h1).1, (push_less p x at_ h1).2]
      exact push_c1 g o b t cs v p x at_ w h hl h1
    · rw [(push_same p x at_ h1).1, (push_same p x at_ h1).2]
      subst h1
      obtain ⟨n0, n1⟩ := hok x (by simp)
      exact push_c2 g o b t cs v p x w h hl n0 n1 _ (by omega)
    · rw [(push_more p x at_ h1).1, (push_more p x at_ h1).2]
      exact push_c3 g o b t cs v (p ++ [x]) at_ w h hb hl (fun y hy => by simp at hy; subst hy; exact h1)
end Go.Proofs.Ytppbgkadpomblaa
