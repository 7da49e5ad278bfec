/- Faults: chains, Wrap. Conditions: none. -/
import Derived.Test.YtmoiehbhhplckaaDoorProg
import Derived.Test.YtmoiehbhhplckaaDoorF1
import Derived.Tactics
import Derived.Tactics2
import Derived.WalkKit
import Derived.WalkSpells
import Derived.WalkLawsBesides
import Derived.StillTactics
import Derived.StillTailTactics
import Derived.OwnWalk
import Derived.Laws.Pointers
import Derived.Laws.ResultCell
import Derived.Deep.RegionHeld3
import Derived.Deep.RegionWith
import Derived.Deep.RegionLaw
import Derived.Deep.AppendLies
import Derived.Deep.QuietTactic
import Derived.BigQuiet
import Derived.LoopTactic
import Derived.Deep.LoopGhost
import Derived.Deep.DeepCutAuto
import Derived.Deep.DeepFit
import Derived.Maps.AppendAt
import Derived.Below
import Derived.Lib.Hide
import Derived.Handy
import Derived.KernelRfl
import Derived.IntWalk
import Derived.Laws.AppendOwnNone
import Derived.Laws.IdiomStrings
namespace Go.Proofs.YtmoiehbhhplckaaDoor
set_option linter.unusedVariables false
set_option linter.unusedSimpArgs false
open Go.RowKit

structure Mk where
  code : Int
  at_ : Int
/-- A chain of faults in memory. -/
def Ch (w : World) : Value → List Mk → Int → Prop
  | u, [], inner => (inner = 0 ∧ u = .nilIface) ∨ (inner ≠ 0 ∧ u = .iface 23 (.int .i64 inner))
  | u, m :: rest, inner => ∃ g u', u = .iface 38 (.pointer (some ⟨g, 0, none⟩)) ∧ Blk w g 40 #[.int .i64 m.code, .int .i64 m.at_, u'] ∧ Ch w u' rest inner
theorem Ch.tch {w w' : World} {l : List Mk} {inner : Int} (k : Tch No w w') : ∀ {u : Value}, Ch w u l inner → Ch w' u l inner := by
  induction l with
  | nil => intro u h; exact h
  | cons m l ih =>
    intro u ⟨g, u', h1, h2, h3⟩
    exact ⟨g, u', h1, k.blk h2 (fun f => f), ih h3⟩
theorem fwrap_c (c p : Int) (t : TypeId) (x : Value) (w : World) : Calls Tryd.prog 14 #[.int .i64 c, .int .i64 p, .iface t x] w fun e w' => e = .returned (.iface 38 (.pointer (some ⟨w.heap.size, 0, none⟩))) ∧ w.alloc (.cells #[.int .i64 c, .int .i64 p, .iface t x] 40) = w' := by
  go_enter Tryd.func14, Tryd.ntmps14
  go_wp2
  go_returns
  exact ⟨rfl, rfl⟩
theorem fwrap_nil (c p : Int) (w : World) : Calls Tryd.prog 14 #[.int .i64 c, .int .i64 p, .nilIface] w fun e w' => e = .returned .nilIface ∧ w = w' := by
  go_enter Tryd.func14, Tryd.ntmps14
  go_wp2
  go_returns
  exact ⟨rfl, rfl⟩
end Go.Proofs.YtmoiehbhhplckaaDoor
