/- A span of time: contracts of New and Clone. Conditions: the span is one block, its numbers are those of a span. -/
import Derived.Test.YtppbgkadpomblaaProg
import Derived.Test.YtppbgkadpomblaaC2
import Derived.Tactics
import Derived.Tactics2
import Derived.WalkKit
import Derived.WalkSpells
import Derived.WalkLawsBesides
import Derived.StillTactics
import Derived.StillTailTactics
import Derived.OwnWalk
import Derived.Laws.Pointers
import Derived.Laws.ResultCell
import Derived.Deep.RegionHeld3
import Derived.Deep.RegionWith
import Derived.Deep.RegionLaw
import Derived.Deep.AppendLies
import Derived.Deep.QuietTactic
import Derived.BigQuiet
import Derived.LoopTactic
import Derived.Deep.LoopGhost
import Derived.Deep.DeepCutAuto
import Derived.Deep.DeepFit
import Derived.Maps.AppendAt
import Derived.Below
import Derived.Lib.Hide
import Derived.Handy
import Derived.KernelRfl
import Derived.IntWalk
import Derived.Laws.AppendOwnNone
import Derived.Laws.IdiomStrings
namespace Go.Proofs.Ytppbgkadpomblaa
set_option linter.unusedVariables false
set_option linter.unusedSimpArgs false
open Go.RowKit

/-- A span of its own in a new block. -/
structure AfterW (w0 : World) (g : Nat) (t : TypeId) (s : Wn) (v : Value) (w : World) : Prop where
  wl : Wl w g w0.heap.size t v s
  tch : Tch No w0 w
  ge : w0.heap.size ≤ g
theorem afterw_no {w0 w w' : World} {g : Nat} {t : TypeId} {s : Wn} {v : Value} (h : AfterW w0 g t s v w) (k : Tch No w w') : AfterW w0 g t s v w' := ⟨h.wl.tch k, h.tch.and k, h.ge⟩
theorem afterw_of {w0 w w' : World} {g : Nat} {t : TypeId} {s : Wn} {v : Value} (h : Tch No w0 w) (a : AfterW w g t s v w') : AfterW w0 g t s v w' :=
  ⟨⟨a.wl.blk, a.wl.cell, a.wl.ne, own_mono a.wl.own h.size⟩, h.and a.tch, Nat.le_trans h.size a.ge⟩
theorem aggcells (s : Wn) (v : Value) (w : World) (t : TypeId) : Blk (w.alloc (.cells #[.bool true, .int .i64 s.lo, .int .i64 s.hi, .int .i64 s.last, v] t)) w.heap.size t (ncs s v) := Blk.new w t _
theorem foot_no4 {w0 w w' : World} {g o b : Nat} {t : TypeId} {cs : Array Value} {v : Value} {l : List Cl} (h0 : Tch No w0 w) (ht : Dq w g o b t cs v l) (hg : w0.heap.size ≤ g) (hb : w0.heap.size ≤ b) (k : Tch (Foot g v) w w') : Tch No w0 w' := foot_no h0 ht hg hb k
set_option maxHeartbeats 1600000 in
theorem onew_c (lo hi : Int) (w : World) : Calls Try.prog 34 #[.int .i64 lo, .int .i64 hi] w fun e w' => ∃ g, e = .returned (.pointer (some ⟨g, 0, none⟩)) ∧ AfterW w g 80 (newW lo hi) (.slice none 0 0) w' := by
  obtain ⟨s, hs⟩ : ∃ s, s = newW lo hi := ⟨_, rfl⟩
  have HL : Hid (s.l = []) := by show s.l = []; rw [hs]; rfl
  have ST : Hid (∀ w, Calls Try.prog 51 #[.int .i64 lo, .int .i64 hi] w fun e w' => e = .returned (.agg (ncs s (.slice none 0 0))) ∧ Tch No w w') := fun w => by rw [hs]; exact start_c lo hi w
  rw [← hs]
  clear hs
  go_enter Try.func34, Try.ntmps34
  go_wp2_with fail
  refine (ST.out _).mono ?_
  rintro e w1 ⟨rfl, t1⟩
  have T1 := Lib.hid t1
  clear t1
  dsimp only [ncs]
  go_wp2
  go_returns
  exact ⟨w1.heap.size, rfl, ⟨Blk.new w1 80 _, rfl, by decide, by rw [HL.out]; exact World.ownsRow_nil ..⟩, T1.out.alloc _, T1.out.size⟩
set_option maxHeartbeats 1600000 in
theorem snew_c (lo hi : Int) (w : World) : Calls Try.prog 38 #[.int .i64 lo, .int .i64 hi] w fun e w' => ∃ g, e = .returned (.pointer (some ⟨g, 0, none⟩)) ∧ AfterW w g 81 (newW lo hi) (.slice none 0 0) w' := by
  obtain ⟨s, hs⟩ : ∃ s, s = newW lo hi := ⟨_, rfl⟩
  have HL : Hid (s.l = []) := by show s.l = []; rw [hs]; rfl
  have ST : Hid (∀ w, Calls Try.prog 51 #[.int .i64 lo, .int .i64 hi] w fun e w' => e = .returned (.agg (ncs s (.slice none 0 0))) ∧ Tch No w w') := fun w => by rw [hs]; exact start_c lo hi w
  rw [← hs]
  clear hs
  go_enter Try.func38, Try.ntmps38
  go_wp2_with fail
  refine (ST.out _).mono ?_
  rintro e w1 ⟨rfl, t1⟩
  have T1 := Lib.hid t1
  clear t1
  dsimp only [ncs]
  go_wp2
  go_returns
  exact ⟨w1.heap.size, rfl, ⟨Blk.new w1 81 _, rfl, by decide, by rw [HL.out]; exact World.ownsRow_nil ..⟩, T1.out.alloc _, T1.out.size⟩
set_option maxHeartbeats 1600000 in
theorem wclone_c (g b : Nat) (t : TypeId) (v : Value) (s : Wn) (w : World) (h : Wl w g b t v s) (hl : s.l.length ≤ 800000) : Calls Try.prog 56 #[.pointer (some ⟨g, 0, none⟩)] w fun e w' => ∃ v', e = .returned (.agg (ncs s v')) ∧ w'.ownsRow w.heap.size 30 2 v' s.l.length (crows s.l) ∧ Tch No w w' := by
  obtain ⟨A, c, rfl⟩ := h.form
  obtain ⟨c0, c1, c2, c3, c4⟩ := cells5 h.blk
  have H := Lib.hid h
  have hgl := h.lt
  clear h
  go_enter Try.func56, Try.ntmps56
  go_wp2_with fail
  have BX := Lib.hid (And.intro (((Tch.refl No _).alloc (.cells #[.bool true, .int .i64 s.lo, .int .i64 s.hi, .int .i64 s.last, .slice A s.l.length c] 78)).blk (Blk.new w 78 #[.bool false, .int .i64 0, .int .i64 0, .int .i64 0, .slice none 0 0]) (fun f => f)) (Blk.new (w.alloc (.cells #[.bool false, .int .i64 0, .int .i64 0, .int .i64 0, .slice none 0 0] 78)) 78 #[.bool true, .int .i64 s.lo, .int .i64 s.hi, .int .i64 s.last, .slice A s.l.length c]))
  refine (dclone_c g 4 b t _ _ s.l _ (H.out.tch (((Tch.refl No w).alloc _).alloc _)) (by omega)).mono ?_
  rintro e w1 ⟨gd, vd, rfl, hgd, dd, t1⟩
  obtain ⟨Ad, cd, rfl⟩ := dd.form
  rw [World.size_alloc, World.size_alloc] at hgd
  have B1 := Lib.hid (t1.blk BX.out.1 (fun f => f))
  have B2 : Hid (Blk w1 (w.heap.size + 1) 78 #[.bool true, .int .i64 s.lo, .int .i64 s.hi, .int .i64 s.last, .slice A s.l.length c]) := by
    have := t1.blk BX.out.2 (fun f => f)
    rw [World.size_alloc] at this
    exact this
  have D1 := Lib.hid dd
  have T1 := Lib.hid ((((Tch.refl No w).alloc (.cells #[.bool false, .int .i64 0, .int .i64 0, .int .i64 0, .slice none 0 0] 78)).alloc (.cells #[.bool true, .int .i64 s.lo, .int .i64 s.hi, .int .i64 s.last, .slice A s.l.length c] 78)).and t1)
  have k0 := dd.at_
  clear dd t1 c0 c1 c2 c3 c4 BX
  generalize hg1 : w.heap.size = g1 at *
  generalize hg2 : g1 + 1 = g2 at *
  obtain ⟨x0, x1, x2, x3, x4⟩ := cells5 B2.out
  have f2 := B2.out.frozen
  have f1 := B1.out.frozen
  have hne : ¬ g2 = gd := by omega
  have hne2 : ¬ gd = g2 := by omega
  have hne3 : ¬ g1 = g2 := by omega
  have hne4 : ¬ g2 = g1 := by omega
  have hne5 : ¬ g1 = gd := by omega
  have hne6 : ¬ gd = g1 := by omega
  have y := cells5 B1.out
  obtain ⟨y0, y1, y2, y3, y4⟩ := y
  have TS : Hid (Tch (fun k => k = g2) w1 (w1.setCell ⟨g2, 4, none⟩ (.slice Ad s.l.length cd))) := (Tch.refl (fun k => k = g2) w1).set_ (p := ⟨g2, 4, none⟩) (.inl rfl) _
  have F9 := Lib.hid (TS.out.blk B1.out hne3)
  have F0 := Lib.hid (F9.out.set_ 0 (.bool true))
  have F1 := Lib.hid (F0.out.set_ 1 (.int .i64 s.lo))
  have F2 := Lib.hid (F1.out.set_ 2 (.int .i64 s.hi))
  have F3 := Lib.hid (F2.out.set_ 3 (.int .i64 s.last))
  have F4 := Lib.hid (F3.out.set_ 4 (.slice Ad s.l.length cd))
  have q0 := F0.out.cell 0
  have q1 := F1.out.cell 1
  have q2 := F2.out.cell 2
  have q3 := F3.out.cell 3
  have q4 := F4.out.cell 4
  simp only [Array.getElem?_setIfInBounds_self, List.size_toArray, List.length_cons, List.length_nil, Array.size_setIfInBounds] at q0 q1 q2 q3 q4
  simp at q0 q1 q2 q3 q4
  go_wp2
  refine bodyPost_ret (by simp [results, Try.results56, go_sem, q0, q1, q2, q3, q4, Result.andThen]; try rfl) rfl ?_
  subst hg1
  have hd : w.heap.size ≠ g2 := by omega
  refine ⟨.slice Ad s.l.length cd, rfl, ?_, ?_⟩
  · have ho := own_mono D1.out.own (base' := w.heap.size) (by simp; omega)
    have hb : ∀ k, (Value.slice Ad s.l.length cd).ownBlock = some k → ¬ (k = g2 ∨ k = w.heap.size) := fun k hk => by
      have := own_base D1.out.own k hk
      rw [World.size_alloc, World.size_alloc] at this
      omega
    refine Tch.own (S := fun k => k = g2 ∨ k = w.heap.size) ?_ ho hb
    exact ((((((Tch.refl _ w1).set_ (p := ⟨g2, 4, none⟩) (.inl (.inl rfl)) _).set_ (p := ⟨w.heap.size, 0, none⟩) (.inl (.inr rfl)) _).set_ (p := ⟨w.heap.size, 1, none⟩) (.inl (.inr rfl)) _).set_ (p := ⟨w.heap.size, 2, none⟩) (.inl (.inr rfl)) _).set_ (p := ⟨w.heap.size, 3, none⟩) (.inl (.inr rfl)) _).set_ (p := ⟨w.heap.size, 4, none⟩) (.inl (.inr rfl)) _
  · have hr : w.heap.size ≤ w.heap.size := Nat.le_refl _
    have hr2 : w.heap.size ≤ g2 := by omega
    exact (((((T1.out.set_ (p := ⟨g2, 4, none⟩) (.inr hr2) _).set_ (p := ⟨w.heap.size, 0, none⟩) (.inr hr) _).set_ (p := ⟨w.heap.size, 1, none⟩) (.inr hr) _).set_ (p := ⟨w.heap.size, 2, none⟩) (.inr hr) _).set_ (p := ⟨w.heap.size, 3, none⟩) (.inr hr) _).set_ (p := ⟨w.heap.size, 4, none⟩) (.inr hr) _
set_option maxHeartbeats 1600000 in
theorem oclone_c (g b : Nat) (v : Value) (s : Wn) (w : World) (h : Wl w g b 80 v s) (hl : s.l.length ≤ 800000) : Calls Try.prog 41 #[.pointer (some ⟨g, 0, none⟩)] w fun e w' => ∃ g' v', e = .returned (.pointer (some ⟨g', 0, none⟩)) ∧ AfterW w g' 80 s v' w' := by
  obtain ⟨c0, c1, c2, c3, c4⟩ := cells5 h.blk
  have H := Lib.hid h
  clear h
  go_enter Try.func41, Try.ntmps41
  go_wp2_with fail
  refine (wclone_c g b _ v s _ H.out hl).mono ?_
  rintro e w1 ⟨v1, rfl, o1, t1⟩
  obtain ⟨A1, k1, rfl⟩ := own_slice o1
  have O1 := Lib.hid o1
  have T1 := Lib.hid t1
  clear t1 o1 c0 c1 c2 c3 c4
  dsimp only [ncs]
  go_wp2
  go_returns
  exact ⟨w1.heap.size, _, rfl, ⟨Blk.new w1 80 _, rfl, by decide, ((Tch.refl No w1).alloc _).own O1.out (fun k hk f => f)⟩, T1.out.alloc _, T1.out.size⟩
set_option maxHeartbeats 1600000 in
theorem sclone_c (g b : Nat) (v : Value) (s : Wn) (w : World) (h : Wl w g b 81 v s) (hl : s.l.length ≤ 800000) : Calls Try.prog 42 #[.pointer (some ⟨g, 0, none⟩)] w fun e w' => ∃ g' v', e = .returned (.pointer (some ⟨g', 0, none⟩)) ∧ AfterW w g' 81 s v' w' := by
  obtain ⟨c0, c1, c2, c3, c4⟩ := cells5 h.blk
  have H := Lib.hid h
  clear h
  go_enter Try.func42, Try.ntmps42
  go_wp2_with fail
  refine (wclone_c g b _ v s _ H.out hl).mono ?_
  rintro e w1 ⟨v1, rfl, o1, t1⟩
  obtain ⟨A1, k1, rfl⟩ := own_slice o1
  have O1 := Lib.hid o1
  have T1 := Lib.hid t1
  clear t1 o1 c0 c1 c2 c3 c4
  dsimp only [ncs]
  go_wp2
  go_returns
  exact ⟨w1.heap.size, _, rfl, ⟨Blk.new w1 81 _, rfl, by decide, ((Tch.refl No w1).alloc _).own O1.out (fun k hk f => f)⟩, T1.out.alloc _, T1.out.size⟩
def Apart (g : Nat) (v : Value) (g' : Nat) (v' : Value) : Prop := ∀ k, Foot g v k → ¬ Foot g' v' k
theorem Apart.symm {g g' : Nat} {v v' : Value} (h : Apart g v g' v') : Apart g' v' g v := fun k h1 h2 => h k h2 h1
theorem wl_foot {w : World} {g b : Nat} {t : TypeId} {v : Value} {s : Wn} (h : Wl w g b t v s) : ∀ k, Foot g v k → k < w.heap.size := by
  rintro k (f | f)
  · rw [f]; exact h.lt
  · exact own_lt h.own k f
theorem wl_ge {w : World} {g b m : Nat} {t : TypeId} {v : Value} {s : Wn} (h : Wl w g b t v s) (hg : m ≤ g) (hb : m ≤ b) : ∀ k, Foot g v k → m ≤ k := by
  rintro k (f | f)
  · omega
  · have := own_base h.own k f; omega
structure It where
  g : Nat
  t : TypeId
  s : Wn
  v : Value
/-- Many spans, each apart from the others, all above w0. -/
structure Fam (w0 : World) (l : List It) (w : World) : Prop where
  tch : Tch No w0 w
  all : ∀ i ∈ l, Wl w i.g w0.heap.size i.t i.v i.s ∧ w0.heap.size ≤ i.g
  sep : l.Pairwise (fun a b => Apart a.g a.v b.g b.v)
theorem Fam.nil (w0 w : World) (h : Tch No w0 w) : Fam w0 [] w := ⟨h, fun i hi => by (cases hi), List.Pairwise.nil⟩
theorem Fam.no {w0 w w' : World} {l : List It} (h : Fam w0 l w) (k : Tch No w w') : Fam w0 l w' := ⟨h.tch.and k, fun i hi => ⟨(h.all i hi).1.tch k, (h.all i hi).2⟩, h.sep⟩
theorem Fam.rot {w0 w : World} {l : List It} {a : It} (h : Fam w0 (a :: l) w) : Fam w0 (l ++ [a]) w := by
  refine ⟨h.tch, fun i hi => h.all i (by simp at hi ⊢; exact hi.symm), ?_⟩
  have hs := List.pairwise_cons.1 h.sep
  refine List.pairwise_append.2 ⟨hs.2, List.pairwise_singleton _ _, fun x hx y hy => ?_⟩
  simp at hy
  rw [hy]
  exact (hs.1 x hx).symm
theorem Fam.one {w0 w w' : World} {l : List It} {a : It} {v' : Value} {s' : Wn} (h : Fam w0 (a :: l) w) (k1 : Wl w' a.g w0.heap.size a.t v' s') (t : Tch (Foot a.g a.v) w w') (hv : ∀ k, v'.ownBlock = some k → a.v.ownBlock = some k ∨ w.heap.size ≤ k) : Fam w0 (⟨a.g, a.t, s', v'⟩ :: l) w' := by
  have hs := List.pairwise_cons.1 h.sep
  have ha := h.all a (by simp)
  refine ⟨h.tch.trans t (fun i hi => .inr (wl_ge ha.1 ha.2 (Nat.le_refl _) i hi)), fun i hi => ?_, List.pairwise_cons.2 ⟨fun x hx => ?_, hs.2⟩⟩
  · rcases List.mem_cons.1 hi with rfl | hi
    · exact ⟨k1, ha.2⟩
    · have hi' := h.all i (by simp [hi])
      exact ⟨hi'.1.tchS t (fun f => hs.1 i hi i.g f (.inl rfl)) (fun k hk f => hs.1 i hi k f (.inr hk)), hi'.2⟩
  · have hx' := h.all x (by simp [hx])
    rintro k (f | f) f'
    · exact hs.1 x hx k (.inl f) f'
    · rcases hv k f with h | h
      · exact hs.1 x hx k (.inr h) f'
      · have := wl_foot hx'.1 k f'; omega
theorem Fam.add {w0 w w' : World} {l : List It} {g : Nat} {t : TypeId} {s : Wn} {v : Value} (h : Fam w0 l w) (k : AfterW w g t s v w') : Fam w0 (⟨g, t, s, v⟩ :: l) w' := by
  have h' := h.no k.tch
  refine ⟨h'.tch, fun i hi => ?_, List.pairwise_cons.2 ⟨fun x hx => ?_, h'.sep⟩⟩
  · rcases List.mem_cons.1 hi with rfl | hi
    · exact ⟨(afterw_of h.tch k).wl, (afterw_of h.tch k).ge⟩
    · exact h'.all i hi
  · intro k1 f f'
    have a1 := wl_ge k.wl k.ge (Nat.le_refl _) k1 f
    have a2 := wl_foot (h.all x hx).1 k1 f'
    omega
theorem Fam.wl {w0 w : World} {l : List It} {g : Nat} {t : TypeId} {s : Wn} {v : Value} (h : Fam w0 (⟨g, t, s, v⟩ :: l) w) : Wl w g w0.heap.size t v s := (h.all ⟨g, t, s, v⟩ (by simp)).1
section
variable {w0 w : World} {l : List It} {g : Nat} {s : Wn} {v : Value}
theorem fam_o (h : Fam w0 (⟨g, 80, s, v⟩ :: l) w) (m : Int) (f : Bool) (hs : s.Ok) (ht : m ≤ 9223372036854775807) (hn : s.l.length ≤ 700000) :
    Calls Try.prog 36 #[.pointer (some ⟨g, 0, none⟩), .int .i64 m, .bool f] w fun e w' => e = .returned (.bool (wasW (stepW s m false f))) ∧ ∃ v', Fam w0 (⟨g, 80, stepW s m false f, v'⟩ :: l) w' :=
  (ostep_c g w0.heap.size v s m f w h.wl h.tch.size hs ht hn).mono fun e w' ⟨v', he, h1, h2, h3⟩ => ⟨he, v', h.one h1 h2 h3⟩
theorem fam_s (h : Fam w0 (⟨g, 81, s, v⟩ :: l) w) (m : Int) (f q : Bool) (hs : s.Ok) (ht : m ≤ 9223372036854775807) (hn : s.l.length ≤ 700000) :
    Calls Try.prog 39 #[.pointer (some ⟨g, 0, none⟩), .int .i64 m, .bool f, .bool q] w fun e w' => e = .returned (.bool (wasW (stepW s m (!f) q))) ∧ ∃ v', Fam w0 (⟨g, 81, stepW s m (!f) q, v'⟩ :: l) w' :=
  (sstep_c g w0.heap.size v s m f q w h.wl h.tch.size hs ht hn).mono fun e w' ⟨v', he, h1, h2, h3⟩ => ⟨he, v', h.one h1 h2 h3⟩
theorem fam_oc (h : Fam w0 (⟨g, 80, s, v⟩ :: l) w) : Calls Try.prog 37 #[.pointer (some ⟨g, 0, none⟩)] w fun e w' => e = .returned (.int .i64 s.l.length) ∧ w = w' := ocells_c g _ v s w h.wl
theorem fam_sc (h : Fam w0 (⟨g, 81, s, v⟩ :: l) w) : Calls Try.prog 40 #[.pointer (some ⟨g, 0, none⟩)] w fun e w' => e = .returned (.int .i64 s.l.length) ∧ w = w' := scells_c g _ v s w h.wl
theorem fam_ol (h : Fam w0 (⟨g, 80, s, v⟩ :: l) w) (hl : s.l.length ≤ 800000) : Calls Try.prog 41 #[.pointer (some ⟨g, 0, none⟩)] w fun e w' => ∃ g' v', e = .returned (.pointer (some ⟨g', 0, none⟩)) ∧ Fam w0 (⟨g', 80, s, v'⟩ :: ⟨g, 80, s, v⟩ :: l) w' :=
  (oclone_c g _ v s w h.wl hl).mono fun e w' ⟨g', v', he, a⟩ => ⟨g', v', he, h.add a⟩
theorem fam_sl (h : Fam w0 (⟨g, 81, s, v⟩ :: l) w) (hl : s.l.length ≤ 800000) : Calls Try.prog 42 #[.pointer (some ⟨g, 0, none⟩)] w fun e w' => ∃ g' v', e = .returned (.pointer (some ⟨g', 0, none⟩)) ∧ Fam w0 (⟨g', 81, s, v'⟩ :: ⟨g, 81, s, v⟩ :: l) w' :=
  (sclone_c g _ v s w h.wl hl).mono fun e w' ⟨g', v', he, a⟩ => ⟨g', v', he, h.add a⟩
end
theorem fam_on {w0 w : World} {l : List It} (h : Fam w0 l w) (lo hi : Int) : Calls Try.prog 34 #[.int .i64 lo, .int .i64 hi] w fun e w' => ∃ g, e = .returned (.pointer (some ⟨g, 0, none⟩)) ∧ Fam w0 (⟨g, 80, newW lo hi, .slice none 0 0⟩ :: l) w' :=
  (onew_c lo hi w).mono fun e w' ⟨g, he, a⟩ => ⟨g, he, h.add a⟩
theorem fam_sn {w0 w : World} {l : List It} (h : Fam w0 l w) (lo hi : Int) : Calls Try.prog 38 #[.int .i64 lo, .int .i64 hi] w fun e w' => ∃ g, e = .returned (.pointer (some ⟨g, 0, none⟩)) ∧ Fam w0 (⟨g, 81, newW lo hi, .slice none 0 0⟩ :: l) w' :=
  (snew_c lo hi w).mono fun e w' ⟨g, he, a⟩ => ⟨g, he, h.add a⟩

set_option maxHeartbeats 3200000 in
theorem walive_c (w : World) : Calls Try.prog 30 #[] w (YesNo w) := by
  have mk : ∀ (hi la : Int) (l : List Cl), -1 ≤ hi → hi ≤ 100 → 0 ≤ la → la ≤ 100 → CellsOk l → l.length ≤ 100 → Wn.Ok ⟨0, hi, la, l⟩ := fun hi la l a b h1 h2 h3 h4 => ⟨by simp only; omega, by simp only; omega, a, by simp only; omega, h1, by simp only; omega, h3, by simp only; omega⟩
  have MK := Lib.hid mk
  clear mk
  go_enter Try.func30, Try.ntmps30
  go_wp2_with fail
  refine (fam_on (Fam.nil w w (Tch.refl No w)) 0 5).mono ?_
  rintro e w1 ⟨g, rfl, a0⟩
  have A0 : Hid (Fam w [⟨g, 80, ⟨0, 5, 0, []⟩, .slice none 0 0⟩] w1) := a0
  clear a0
  go_wp2_with fail
  refine (fam_sn A0.out 0 (-1)).mono ?_
  rintro e w2 ⟨z, rfl, b0⟩
  have A1 : Hid (Fam w [⟨g, 80, ⟨0, 5, 0, []⟩, .slice none 0 0⟩, ⟨z, 81, ⟨0, -1, 0, []⟩, .slice none 0 0⟩] w2) := b0.rot
  clear b0 A0
  go_wp2_with fail
  refine (fam_o A1.out 0 true (MK.out 5 0 [] (by decide) (by decide) (by decide) (by decide) (by unfold CellsOk; simp) (by decide)) (by decide) (by decide)).mono ?_
  rintro e w3 ⟨rfl, v3, a3⟩
  have A3 : Hid (Fam w [⟨g, 80, ⟨0, 5, 0, [⟨0, 1⟩]⟩, v3⟩, ⟨z, 81, ⟨0, -1, 0, []⟩, .slice none 0 0⟩] w3) := a3
  rw [show wasW (stepW ⟨0, 5, 0, []⟩ 0 false true) = true from rfl]
  clear a3
  go_wp2_with fail
  refine (fam_o A3.out 5 false (MK.out 5 0 _ (by decide) (by decide) (by decide) (by decide) (by unfold CellsOk; simp) (by decide)) (by decide) (by decide)).mono ?_
  rintro e w4 ⟨rfl, v4, a4⟩
  have A4 : Hid (Fam w [⟨g, 80, ⟨0, 5, 5, [⟨0, 1⟩]⟩, v4⟩, ⟨z, 81, ⟨0, -1, 0, []⟩, .slice none 0 0⟩] w4) := a4
  rw [show wasW (stepW ⟨0, 5, 0, [⟨0, 1⟩]⟩ 5 false false) = true from rfl]
  clear a4
  go_wp2_with fail
  refine (fam_oc A4.out).mono ?_
  rintro e w5 ⟨rfl, rfl⟩
  go_wp2_with fail
  refine (fam_o A4.out 6 false (MK.out 5 5 _ (by decide) (by decide) (by decide) (by decide) (by unfold CellsOk; simp) (by decide)) (by decide) (by decide)).mono ?_
  rintro e w5 ⟨rfl, v5, a5⟩
  have A5 : Hid (Fam w [⟨z, 81, ⟨0, -1, 0, []⟩, .slice none 0 0⟩, ⟨g, 80, ⟨0, 5, 6, []⟩, v5⟩] w5) := a5.rot
  rw [show wasW (stepW ⟨0, 5, 5, [⟨0, 1⟩]⟩ 6 false false) = false from rfl]
  clear a5
  go_wp2_with fail
  refine (fam_s A5.out 0 false true (MK.out (-1) 0 _ (by decide) (by decide) (by decide) (by decide) (by unfold CellsOk; simp) (by decide)) (by decide) (by decide)).mono ?_
  rintro e w6 ⟨rfl, v6, a6⟩
  have A6 : Hid (Fam w [⟨z, 81, ⟨0, -1, 0, [⟨0, 1⟩]⟩, v6⟩, ⟨g, 80, ⟨0, 5, 6, []⟩, v5⟩] w6) := a6
  rw [show wasW (stepW ⟨0, -1, 0, []⟩ 0 (!false) true) = true from rfl]
  clear a6
  go_wp2_with fail
  refine (fam_s A6.out 9 true false (MK.out (-1) 0 _ (by decide) (by decide) (by decide) (by decide) (by unfold CellsOk; simp) (by decide)) (by decide) (by decide)).mono ?_
  rintro e w7 ⟨rfl, v7, a7⟩
  have A7 : Hid (Fam w [⟨z, 81, ⟨0, -1, 9, [⟨0, 1⟩]⟩, v7⟩, ⟨g, 80, ⟨0, 5, 6, []⟩, v5⟩] w7) := a7
  rw [show wasW (stepW ⟨0, -1, 0, [⟨0, 1⟩]⟩ 9 (!true) false) = true from rfl]
  clear a7
  go_wp2_with fail
  refine (fam_sc A7.out).mono ?_
  rintro e w8 ⟨rfl, rfl⟩
  go_wp2_with fail
  refine (fam_s A7.out 9 false false (MK.out (-1) 9 _ (by decide) (by decide) (by decide) (by decide) (by unfold CellsOk; simp) (by decide)) (by decide) (by decide)).mono ?_
  rintro e w9 ⟨rfl, v9, a9⟩
  have A9 := Lib.hid a9
  rw [show wasW (stepW ⟨0, -1, 9, [⟨0, 1⟩]⟩ 9 (!false) false) = false from rfl]
  clear a9
  go_wp2
  go_returns
  exact ⟨rfl, A9.out.tch⟩
end Go.Proofs.Ytppbgkadpomblaa
