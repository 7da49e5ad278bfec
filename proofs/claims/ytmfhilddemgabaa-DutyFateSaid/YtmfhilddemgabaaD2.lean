/- The duty layer: a table's words, the contract of (*duty.Table).Add. Conditions: the table's slice is a row of its own. -/
import Derived.Test.YtmfhilddemgabaaProg
import Derived.Test.YtmfhilddemgabaaK
import Derived.Tactics
import Derived.Tactics2
import Derived.WalkKit
import Derived.WalkSpells
import Derived.WalkLawsBesides
import Derived.StillTactics
import Derived.StillTailTactics
import Derived.OwnWalk
import Derived.Laws.Pointers
import Derived.Laws.ResultCell
import Derived.Deep.RegionHeld3
import Derived.Deep.RegionWith
import Derived.Deep.RegionLaw
import Derived.Deep.AppendLies
import Derived.Deep.QuietTactic
import Derived.BigQuiet
import Derived.LoopTactic
import Derived.Deep.LoopGhost
import Derived.Deep.DeepCutAuto
import Derived.Deep.DeepFit
import Derived.Maps.AppendAt
import Derived.Below
import Derived.Lib.Hide
import Derived.Handy
import Derived.KernelRfl
namespace Go.Proofs.Ytmfhilddemgabaa
set_option linter.unusedVariables false
set_option linter.unusedSimpArgs false
open Go.RowKit

theorem newblk2 (w : World) (o : Obj) (cs : Array Value) (t : TypeId) : ((w.alloc o).alloc (.cells cs t)).drew.heap[w.heap.size + 1]? = some (.cells cs t (0, 0)) := by
  have := Blk.new (w.alloc o) t cs
  rw [show (w.alloc o).heap.size = w.heap.size + 1 by simp] at this
  exact this
structure Ins where
  id : Int
  place : Int
  act : ByteArray
  due : Int
  keep : Bool
  state : Int
instance : Inhabited Ins := ⟨⟨0, 0, ByteArray.empty, 0, false, 0⟩⟩
def icells (x : Ins) : List Value := [.int .i64 x.id, .int .i64 x.place, .string x.act, .int .i64 x.due, .bool x.keep, .int .i64 x.state]
theorem icells_length (x : Ins) : (icells x).length = 6 := rfl
def rows (l : List Ins) : List Value := l.flatMap icells
theorem rows_snoc (l : List Ins) (x : Ins) : rows l ++ icells x = rows (l ++ [x]) := by simp [rows]
theorem rows_length (l : List Ins) : (rows l).length = l.length * 6 := flat_length icells_length l
theorem Try.info23 : (Try.prog.info? 23).map (fun i => (i.zero, i.size, i.bytes)) = some (some (.agg #[.int .i64 0, .int .i64 0, .string ByteArray.empty, .int .i64 0, .bool false, .int .i64 0]), 6, 56) := by kernel_rfl

/-- A table in block g, of base b: its slice and its instances. -/
def Tab (w : World) (g b : Nat) (v : Value) (l : List Ins) : Prop := Blk w g 30 #[v] ∧ w.ownsRow b 23 6 v l.length (rows l)
def Foot (g : Nat) (v : Value) : Nat → Prop := fun k => k = g ∨ v.ownBlock = some k

theorem blk_gr {w w' : World} {r : Option Nat} {g : Nat} {t : TypeId} {cs : Array Value} (h : w.grownBy w' r) (hn : r ≠ some g) (hb : Blk w g t cs) : Blk w' g t cs := (h.block g hb.lt (Ne.symm hn)).trans hb
def AddP (g b : Nat) (v : Value) (l : List Ins) (x : Ins) (w : World) (e : Ending) (w' : World) : Prop :=
  e = .returned (.int .i64 l.length) ∧ ∃ a c, Tab w' g b (.slice (some ⟨a, 0, none⟩) (l.length + 1) c) (l ++ [{ x with state := 1 }]) ∧ Tch (Foot g v) w w' ∧ (v.ownBlock = some a ∨ w.heap.size ≤ a)

theorem add_fin {g b a cc : Nat} {v : Value} {l : List Ins} {x : Ins} {w w1 : World} {o1 o2 : Obj} (ht : Tab w g b v l) (hgl : g < w.heap.size)
    (hown1 : w1.ownsRow b 23 6 (.slice (some ⟨a, 0, none⟩) (l.length + 1) cc) (l.length + 1) (rows l ++ icells { x with state := 1 })) (hgrow : (((w.alloc o1).alloc o2).drew).grownBy w1 v.ownBlock)
    (hat : v.ownBlock = some a ∨ a = w.heap.size + 1 + 1) (b1 : Blk w1 g 30 #[v]) :
    AddP g b v l x w (.returned (.int .i64 l.length)) (w1.setCell ⟨g, 0, none⟩ (.slice (some ⟨a, 0, none⟩) (l.length + 1) cc)) := by
  have hag : a ≠ g := by
    rcases hat with h | h
    · intro e; subst e
      exact own_blk_ne ht.2 ht.1 (by decide) h
    · omega
  have t0 : Tch (Foot g v) w (((w.alloc o1).alloc o2).drewN 1) := (((Tch.refl _ w).alloc o1).alloc o2).drewN 1
  have t1 : Tch (Foot g v) (((w.alloc o1).alloc o2).drewN 1) w1 := Tch.of_grown hgrow fun k hk => .inl (.inr hk)
  refine ⟨rfl, a, cc, ⟨b1.set_ 0 _, ?_⟩, (t0.and t1).set_ (.inl (.inl rfl)) _, hat.imp id (fun h => by omega)⟩
  rw [← rows_snoc]
  have := (Tch.refl (fun k => k = g) w1).set_ (p := ⟨g, 0, none⟩) (.inl rfl) (.slice (some ⟨a, 0, none⟩) (l.length + 1) cc)
  have h2 := this.own hown1 (fun k hk => by simp [Value.ownBlock] at hk; omega)
  rw [show (l ++ [({ x with state := 1 } : Ins)]).length = l.length + 1 by simp]
  exact h2

set_option maxHeartbeats 800000 in
theorem add_c (g b : Nat) (v : Value) (l : List Ins) (x : Ins) (w : World) (ht : Tab w g b v l) (hb : b ≤ w.heap.size) (hl : l.length ≤ 1000000) :
    Calls Try.prog 14 #[.pointer (some ⟨g, 0, none⟩), .agg #[.int .i64 x.id, .int .i64 x.place, .string x.act, .int .i64 x.due, .bool x.keep, .int .i64 x.state]] w (AddP g b v l x w) := by
  obtain ⟨i0, hi0, hz0, hz1, hz2⟩ := info_parts Try.info23
  have c0 := cell1 ht.1
  have f0 := ht.1.frozen
  have hgl := ht.1.lt
  have ho := ht.2
  have hne : ¬ w.heap.size = g := by omega
  have hne' : ¬ g = w.heap.size := by omega
  have hk1 : l.length + 1 ≤ maxLen := by unfold maxLen; omega
  have hk2 : (l.length + 1) * 56 ≤ 140737488355328 := by omega
  have H := Lib.hid ht
  have hng := own_blk_ne ht.2 ht.1 (by decide)
  obtain ⟨A, c, rfl⟩ := own_slice ho
  clear ht
  go_enter Try.func14, Try.ntmps14
  go_wp2
  go_region_law (refine step_append_lies _ (by rfl) _ _ _ (by rfl) b 23 i0 _ 6 56 Try.underlying28 hi0 hz0 hz1 hz2 rfl (by omega) (.slice A l.length c) l.length (rows l) (by rfl) (own_drewN ((ho.alloc _).alloc _) 1) ⟨w.heap.size + 1, 0, none⟩ 1 1 (icells { x with state := 1 }) (by rfl) (by rfl) (World.news_of_block (cs := (icells { x with state := 1 }).toArray) (t := 23) (fr := (0, 0)) (newblk2 w _ _ 23)) (by simp [icells, Value.oneCell']) (by omega) hk1 hk2 (le_alloc (le_alloc hb _) _) (w.heap.size + 1 + 1) (by simp) ?_; intro a cc w1 hown1 hgrow hat hlt; have b1 := blk_gr hgrow hng (Blk.drewN ((H.out.1.alloc _).alloc _) 1); have c1 := cell1 b1; have f1 := b1.frozen)
  all_goals
    go_wp2
    go_returns
    exact add_fin H.out hgl hown1 hgrow hat b1
end Go.Proofs.Ytmfhilddemgabaa
