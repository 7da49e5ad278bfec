/- OutlineRights' walk. Conditions: how great the right is. -/
import Derived.Test.YtmoiehbhhplckaaProg
import Derived.Test.YtmoiehbhhplckaaX15ff
import Derived.Test.YtmoiehbhhplckaaX15ft
import Derived.Test.YtmoiehbhhplckaaX15tf
import Derived.Test.YtmoiehbhhplckaaX15tt
import Derived.Tactics
import Derived.Tactics2
import Derived.WalkKit
import Derived.WalkSpells
import Derived.WalkLawsBesides
import Derived.StillTactics
import Derived.StillTailTactics
import Derived.OwnWalk
import Derived.Laws.Pointers
import Derived.Laws.ResultCell
import Derived.Deep.RegionHeld3
import Derived.Deep.RegionWith
import Derived.Deep.RegionLaw
import Derived.Deep.AppendLies
import Derived.Deep.QuietTactic
import Derived.BigQuiet
import Derived.LoopTactic
import Derived.Deep.LoopGhost
import Derived.Deep.DeepCutAuto
import Derived.Deep.DeepFit
import Derived.Maps.AppendAt
import Derived.Below
import Derived.Lib.Hide
import Derived.Handy
import Derived.KernelRfl
import Derived.IntWalk
import Derived.Laws.AppendOwnNone
import Derived.Laws.IdiomStrings
namespace Go.Proofs.Ytmoiehbhhplckaa
set_option linter.unusedVariables false
set_option linter.unusedSimpArgs false
open Go.RowKit

theorem orights_walk (name : ByteArray) (k : Int) (nm : ByteArray) (n lo hi : Int) (A : Option Addr) (c : Nat) (kids : Fo) (k' : Int) (nm' : ByteArray) (n' lo' hi' : Int) (A' : Option Addr) (c' : Nat) (kids' : Fo)
    (A3 : Option Addr) (n3 c3 : Nat) (A4 : Option Addr) (n4 c4 : Nat) (A5 : Option Addr) (n5 c5 : Nat) (A6 : Option Addr) (n6 c6 : Nat) (w : World)
    (hp : XIn w k nm n lo hi A kids) (hq : XIn w k' nm' n' lo' hi' A' kids') (hf : n3 ≤ 9223372036854775807 ∧ n4 ≤ 9223372036854775807 ∧ n5 ≤ 9223372036854775807 ∧ n6 ≤ 9223372036854775807) :
    Calls Try.prog 10 #[ragg ⟨name, ⟨k, nm, n, lo, hi, A, kids.len, c⟩, ⟨k', nm', n', lo', hi', A', kids'.len, c'⟩, A3, n3, c3, A4, n4, c4, A5, n5, c5, A6, n6, c6⟩] w (YesB w) := by
  cases htp : (decide (k = 2) && decide (n = 1)) <;> cases htq : (decide (k' = 2) && decide (n' = 1))
  · exact orights_ff name k nm n lo hi A c kids k' nm' n' lo' hi' A' c' kids' A3 n3 c3 A4 n4 c4 A5 n5 c5 A6 n6 c6 w hp hq hf htp htq
  · exact orights_ft name k nm n lo hi A c kids k' nm' n' lo' hi' A' c' kids' A3 n3 c3 A4 n4 c4 A5 n5 c5 A6 n6 c6 w hp hq hf htp htq
  · exact orights_tf name k nm n lo hi A c kids k' nm' n' lo' hi' A' c' kids' A3 n3 c3 A4 n4 c4 A5 n5 c5 A6 n6 c6 w hp hq hf htp htq
  · exact orights_tt name k nm n lo hi A c kids k' nm' n' lo' hi' A' c' kids' A3 n3 c3 A4 n4 c4 A5 n5 c5 A6 n6 c6 w hp hq hf htp htq
end Go.Proofs.Ytmoiehbhhplckaa
