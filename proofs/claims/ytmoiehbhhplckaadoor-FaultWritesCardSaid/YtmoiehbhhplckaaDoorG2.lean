/- Faults: As, Is, Unwrap. Conditions: the cells. -/
import Derived.Test.YtmoiehbhhplckaaDoorProg
import Derived.Test.YtmoiehbhhplckaaDoorG1
import Derived.Tactics
import Derived.Tactics2
import Derived.WalkKit
import Derived.WalkSpells
import Derived.WalkLawsBesides
import Derived.StillTactics
import Derived.StillTailTactics
import Derived.OwnWalk
import Derived.Laws.Pointers
import Derived.Laws.ResultCell
import Derived.Deep.RegionHeld3
import Derived.Deep.RegionWith
import Derived.Deep.RegionLaw
import Derived.Deep.AppendLies
import Derived.Deep.QuietTactic
import Derived.BigQuiet
import Derived.LoopTactic
import Derived.Deep.LoopGhost
import Derived.Deep.DeepCutAuto
import Derived.Deep.DeepFit
import Derived.Maps.AppendAt
import Derived.Below
import Derived.Lib.Hide
import Derived.Handy
import Derived.KernelRfl
import Derived.IntWalk
import Derived.Laws.AppendOwnNone
import Derived.Laws.IdiomStrings
namespace Go.Proofs.YtmoiehbhhplckaaDoor
set_option linter.unusedVariables false
set_option linter.unusedSimpArgs false
open Go.RowKit

open Go.Extern.Stop Go.Stop Go.Extern
def HG (w : World) : Prop := w.cell? ⟨0, 0, none⟩ = some (.iface 68 (.agg #[.pointer (some ⟨1, 27, none⟩)]))
theorem HG.lt {w : World} (h : HG w) : 0 < w.heap.size := by
  rcases Nat.eq_zero_or_pos w.heap.size with h0 | h1
  · unfold HG at h; simp [World.cell?, h0] at h
  · exact h1
theorem HG.alloc {w : World} (h : HG w) (o : Obj) : HG (w.alloc o) := by
  unfold HG at h ⊢
  rw [World.cell?_alloc_lt _ _ ⟨0, 0, none⟩ (HG.lt h)]; exact h
theorem HG.tch {S : Nat → Prop} {w w' : World} (h : HG w) (k : Tch S w w') (hS : ¬ S 0) : HG w' := k.cell hS h
theorem Tryd.mKind (h : Value) (w : World) : (Go.method 188 68 (.agg #[h]) "Kind").run Tryd.prog w = .ok (47, h) w := by kernel_rfl
theorem Tryd.as46_46 (v : Value) (w : World) : (Instr.typeAssert (.iface 46 v) 20 46 true).run Tryd.prog w = .ok (.tuple #[v, .bool true]) w := by kernel_rfl
theorem Tryd.as47_46 (v : Value) (w : World) : (Instr.typeAssert (.iface 47 v) 20 46 true).run Tryd.prog w = .ok (.tuple #[.pointer none, .bool false]) w := by kernel_rfl
theorem Tryd.as23_23 (v : Value) (w : World) : (Instr.typeAssert (.iface 23 v) 27 23 true).run Tryd.prog w = .ok (.tuple #[v, .bool true]) w := by kernel_rfl
theorem Tryd.as23_38 (v : Value) (w : World) : (Instr.typeAssert (.iface 23 v) 27 38 true).run Tryd.prog w = .ok (.tuple #[.pointer none, .bool false]) w := by kernel_rfl
theorem Tryd.as38_38 (v : Value) (w : World) : (Instr.typeAssert (.iface 38 v) 27 38 true).run Tryd.prog w = .ok (.tuple #[v, .bool true]) w := by kernel_rfl
/-- (*Fault).As at a *Errno. -/
theorem fas_c (g : Nat) (tb : Nat) (c p : Int) (u old : Value) (w : World) (hg : Blk w g 40 #[.int .i64 c, .int .i64 p, u]) (ht : Blk w tb 23 #[old]) :
    Calls Tryd.prog 50 #[.pointer (some ⟨g, 0, none⟩), .iface 46 (.pointer (some ⟨tb, 0, none⟩))] w fun e w' => e = .returned (.bool true) ∧ w' = w.setCell ⟨tb, 0, none⟩ (.int .i64 c) := by
  obtain ⟨g0, g1, g2⟩ := cells3 hg
  have t0 := cell1 ht
  have tf := ht.frozen 0
  have f1 := Tryd.as46_46
  have f2 := Tryd.as47_46
  go_enter Tryd.func50, Tryd.ntmps50
  go_wp2
  go_returns
  exact ⟨rfl, rfl⟩
theorem fas_f (g : Nat) (t : Addr) (w : World) :
    Calls Tryd.prog 50 #[.pointer (some ⟨g, 0, none⟩), .iface 47 (.pointer (some t))] w fun e w' => e = .returned (.bool false) ∧ w' = w := by
  have f1 := Tryd.as46_46
  have f2 := Tryd.as47_46
  go_enter Tryd.func50, Tryd.ntmps50
  go_wp2
  go_ret
  exact ⟨rfl, rfl⟩
theorem fis_c (g : Nat) (c p k : Int) (u : Value) (w : World) (hg : Blk w g 40 #[.int .i64 c, .int .i64 p, u]) :
    Calls Tryd.prog 51 #[.pointer (some ⟨g, 0, none⟩), .iface 23 (.int .i64 k)] w fun e w' => e = .returned (.bool (decide (c = k))) ∧ w' = w := by
  obtain ⟨g0, g1, g2⟩ := cells3 hg
  have f1 := Tryd.as23_23
  go_enter Tryd.func51, Tryd.ntmps51
  go_wp2
  go_ret
  exact ⟨rfl, rfl⟩
theorem funw_c (g : Nat) (c p : Int) (u : Value) (w : World) (hg : Blk w g 40 #[.int .i64 c, .int .i64 p, u]) :
    Calls Tryd.prog 16 #[.pointer (some ⟨g, 0, none⟩)] w fun e w' => e = .returned u ∧ w' = w := by
  obtain ⟨g0, g1, g2⟩ := cells3 hg
  go_enter Tryd.func16, Tryd.ntmps16
  go_wp2
  go_ret
  exact ⟨rfl, rfl⟩
theorem funw_nil (w : World) :
    Calls Tryd.prog 16 #[.pointer none] w fun e w' => e = .returned .nilIface ∧ w' = w := by
  go_enter Tryd.func16, Tryd.ntmps16
  go_wp2
  go_ret
  exact ⟨rfl, rfl⟩
theorem as_nil (t : Value) (w : World) :
    Calls Tryd.prog 20 #[.nilIface, t] w fun e w' => e = .returned (.bool false) ∧ w' = w := by
  go_enter Tryd.func20, Tryd.ntmps20
  go_wp2
  go_ret
  exact ⟨rfl, rfl⟩
end Go.Proofs.YtmoiehbhhplckaaDoor
