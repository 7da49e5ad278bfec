/- The lexer: put. Conditions: the lexer is one block. -/
import Derived.Test.YtmoiehbhhplckaaProg
import Derived.Test.YtmoiehbhhplckaaL2
import Derived.Tactics
import Derived.Tactics2
import Derived.WalkKit
import Derived.WalkSpells
import Derived.WalkLawsBesides
import Derived.StillTactics
import Derived.StillTailTactics
import Derived.OwnWalk
import Derived.Laws.Pointers
import Derived.Laws.ResultCell
import Derived.Deep.RegionHeld3
import Derived.Deep.RegionWith
import Derived.Deep.RegionLaw
import Derived.Deep.AppendLies
import Derived.Deep.QuietTactic
import Derived.BigQuiet
import Derived.LoopTactic
import Derived.Deep.LoopGhost
import Derived.Deep.DeepCutAuto
import Derived.Deep.DeepFit
import Derived.Maps.AppendAt
import Derived.Below
import Derived.Lib.Hide
import Derived.Handy
import Derived.KernelRfl
import Derived.IntWalk
import Derived.Laws.AppendOwnNone
import Derived.Laws.IdiomStrings
namespace Go.Proofs.Ytmoiehbhhplckaa
set_option linter.unusedVariables false
set_option linter.unusedSimpArgs false
open Go.RowKit

/-! ## a lexer -/
structure Tk where
  k : Int
  s : List UInt8
  n : Int
  at_ : Nat
instance : Inhabited Tk := ⟨⟨0, [], 0, 0⟩⟩
def kcells (t : Tk) : List Value := [.int .i64 t.k, .string ⟨t.s.toArray⟩, .int .i64 t.n, .int .i64 t.at_]
theorem kcells_length (t : Tk) : (kcells t).length = 4 := rfl
def krows (l : List Tk) : List Value := l.flatMap kcells
theorem krows_snoc (l : List Tk) (x : Tk) : krows l ++ kcells x = krows (l ++ [x]) := by simp [krows]
theorem Try.info38 : (Try.prog.info? 38).map (fun i => (i.zero, i.size, i.bytes)) = some (some (.agg #[.int .i64 0, .string ⟨#[]⟩, .int .i64 0, .int .i64 0]), 4, 40) := by kernel_rfl
def Foot (g : Nat) (v : Value) : Nat → Prop := fun k => k = g ∨ v.ownBlock = some k
structure Lx (w : World) (g b : Nat) (s : ByteArray) (p : Nat) (v : Value) (l : List Tk) : Prop where
  blk : Blk w g 77 #[.string s, .int .i64 p, v]
  own : w.ownsRow b 38 4 v l.length (krows l)
section
variable {w w' : World} {g b p : Nat} {s : ByteArray} {v : Value} {l : List Tk}
theorem Lx.tch (h : Lx w g b s p v l) (k : Tch No w w') : Lx w' g b s p v l := ⟨k.blk h.blk (fun f => f), k.own h.own (fun _ _ f => f)⟩
theorem Lx.apart (h : Lx w g b s p v l) : v.ownBlock ≠ some g := own_blk_ne h.own h.blk (by decide)
theorem Lx.lt (h : Lx w g b s p v l) : g < w.heap.size := h.blk.lt
theorem Lx.form (h : Lx w g b s p v l) : ∃ A c, v = .slice A l.length c := own_slice h.own
end
/-- What a method of a lexer leaves: it stands at p, its words are l. -/
structure Lv (g b : Nat) (v : Value) (s : ByteArray) (p : Nat) (l : List Tk) (w : World) (v' : Value) (w' : World) : Prop where
  lx : Lx w' g b s p v' l
  tch : Tch (Foot g v) w w'
  own : ∀ k, v'.ownBlock = some k → v.ownBlock = some k ∨ w.heap.size ≤ k
theorem lv_refl {g b p : Nat} {v : Value} {s : ByteArray} {l : List Tk} {w w' : World} (h : Lx w g b s p v l) (k : Tch No w w') : Lv g b v s p l w v w' := ⟨h.tch k, k.no, fun k hk => .inl hk⟩
theorem Lv.no {g b p : Nat} {v v' : Value} {s : ByteArray} {l : List Tk} {w w0 w' : World} (h : Lv g b v s p l w0 v' w') (k : Tch No w w0) : Lv g b v s p l w v' w' := ⟨h.lx, k.no.and h.tch, fun i hi => (h.own i hi).imp id (fun h => Nat.le_trans k.size h)⟩
theorem Lv.then_ {g b p p' : Nat} {v v' v2 : Value} {s : ByteArray} {l l' : List Tk} {w w0 w' : World} (h : Lv g b v s p l w v' w0) (k : Lv g b v' s p' l' w0 v2 w') : Lv g b v s p' l' w v2 w' := by
  refine ⟨k.lx, h.tch.trans k.tch ?_, fun i hi => ?_⟩
  · rintro i (f | f)
    · exact .inl (.inl f)
    · exact (h.own i f).imp .inr id
  · rcases k.own i hi with f | f
    · exact h.own i f
    · exact .inr (Nat.le_trans h.tch.size f)
theorem blk_gr {w w' : World} {r : Option Nat} {g : Nat} {t : TypeId} {cs : Array Value} (h : w.grownBy w' r) (hn : r ≠ some g) (hb : Blk w g t cs) : Blk w' g t cs := (h.block g hb.lt (Ne.symm hn)).trans hb
theorem newblk2 (w : World) (o : Obj) (cs : Array Value) (t : TypeId) : ((w.alloc o).alloc (.cells cs t)).heap[w.heap.size + 1]? = some (.cells cs t (0, 0)) := by
  have := Blk.new (w.alloc o) t cs
  rw [show (w.alloc o).heap.size = w.heap.size + 1 by simp] at this
  exact this
def PutLP (g b : Nat) (v : Value) (s : ByteArray) (p : Nat) (l : List Tk) (w : World) (e : Ending) (w' : World) : Prop := ∃ v', e = .returned (.tuple #[]) ∧ Lv g b v s p l w v' w'
theorem put_fin {g b a cc p q : Nat} {v : Value} {s : ByteArray} {l : List Tk} {x : Tk} {w w2 : World} {o1 o2 : Obj} (h : Lx w g b s p v l) (hown : w2.ownsRow b 38 4 (.slice (some ⟨a, 0, none⟩) (l.length + 1) cc) (l.length + 1) (krows l ++ kcells x))
    (hgrow : (((w.alloc o1).alloc o2).drewN 1).grownBy w2 v.ownBlock) (hat : v.ownBlock = some a ∨ a = w.heap.size + 1 + 1) (b2 : Blk w2 g 77 #[.string s, .int .i64 p, v]) :
    PutLP g b v s q (l ++ [x]) w (.returned (.tuple #[])) ((w2.setCell ⟨g, 2, none⟩ (.slice (some ⟨a, 0, none⟩) (l.length + 1) cc)).setCell ⟨g, 1, none⟩ (.int .i64 q)) := by
  have hgl := h.lt
  have hag : a ≠ g := by
    rcases hat with e | e
    · intro f; subst f; exact h.apart e
    · omega
  have t2 : Tch (Foot g v) w w2 := (((((Tch.refl No w).alloc o1).alloc o2).drewN 1).no (S := Foot g v)).and (Tch.of_grown hgrow fun k hk => .inl (.inr hk))
  refine ⟨_, rfl, ⟨⟨(b2.set_ 2 _).set_ 1 _, ?_⟩, (t2.set_ (p := ⟨g, 2, none⟩) (.inl (.inl rfl)) _).set_ (p := ⟨g, 1, none⟩) (.inl (.inl rfl)) _, fun k hk => ?_⟩⟩
  · rw [← krows_snoc]
    have h3 := (((Tch.refl (fun k => k = g) w2).set_ (p := ⟨g, 2, none⟩) (.inl rfl) (.slice (some ⟨a, 0, none⟩) (l.length + 1) cc)).set_ (p := ⟨g, 1, none⟩) (.inl rfl) (.int .i64 q)).own hown (fun k hk => by simp [Value.ownBlock] at hk; omega)
    rw [show (l ++ [x]).length = l.length + 1 by simp]
    exact h3
  · simp [Value.ownBlock] at hk
    subst hk
    rcases hat with e | e
    · exact .inl e
    · right; omega
set_option maxHeartbeats 800000 in
set_option maxRecDepth 100000 in
theorem lput_c (g b : Nat) (v : Value) (s : ByteArray) (p q : Nat) (l : List Tk) (k n a0 : Int) (t : List UInt8) (w : World) (h : Lx w g b s p v l) (hb : b ≤ w.heap.size) (hl : l.length ≤ 1000000) :
    Calls Try.prog 50 #[.pointer (some ⟨g, 0, none⟩), .agg #[.int .i64 k, .string ⟨t.toArray⟩, .int .i64 n, .int .i64 a0], .int .i64 q] w (PutLP g b v s q (l ++ [⟨k, t, n, p⟩]) w) := by
  obtain ⟨i0, hi0, hz0, hz1, hz2⟩ := info_parts Try.info38
  obtain ⟨A, c, rfl⟩ := h.form
  obtain ⟨c0, c1, c2⟩ := cells3 h.blk
  have f0 := h.blk.frozen
  have hgl := h.lt
  have ho := h.own
  have hne : ¬ w.heap.size = g := by omega
  have hne' : ¬ g = w.heap.size := by omega
  have hk1 : l.length + 1 ≤ maxLen := by unfold maxLen; omega
  have hk2 : (l.length + 1) * 40 ≤ 140737488355328 := by omega
  have H := Lib.hid h
  have hng := h.apart
  clear h
  go_enter Try.func50, Try.ntmps50
  go_wp2
  go_region_law (refine step_append_lies _ (by rfl) _ _ _ (by rfl) b 38 i0 _ 4 40 Try.underlying32 hi0 hz0 hz1 hz2 rfl (by omega) (.slice A l.length c) l.length (krows l) (by rfl) (own_drewN ((ho.alloc _).alloc _) 1) ⟨w.heap.size + 1, 0, none⟩ 1 1 (kcells ⟨k, t, n, p⟩) (by rfl) (by rfl) (World.news_of_block (cs := (kcells ⟨k, t, n, p⟩).toArray) (t := 38) (fr := (0, 0)) (newblk2 w _ _ 38)) (by simp [kcells, Value.oneCell']) (by omega) hk1 hk2 (le_alloc (le_alloc hb _) _) (w.heap.size + 1 + 1) (by simp) ?_; intro a cc w1 hown1 hgrow hat hlt; have b1 := blk_gr hgrow hng (Blk.drewN ((H.out.blk.alloc _).alloc _) 1); have c9 := cells3 b1; obtain ⟨x0, x1, x2⟩ := c9; have f1 := b1.frozen)
  all_goals
    go_wp2
    go_returns
    exact put_fin H.out hown1 hgrow hat b1
end Go.Proofs.Ytmoiehbhhplckaa
