/- The text of a code. Conditions: none. -/
import Derived.Test.YtmoiehbhhplckaaDoorProg
import Derived.Test.YtmoiehbhhplckaaDoorM1
import Derived.Tactics
import Derived.Tactics2
import Derived.WalkKit
import Derived.WalkSpells
import Derived.WalkLawsBesides
import Derived.StillTactics
import Derived.StillTailTactics
import Derived.OwnWalk
import Derived.Laws.Pointers
import Derived.Laws.ResultCell
import Derived.Deep.RegionHeld3
import Derived.Deep.RegionWith
import Derived.Deep.RegionLaw
import Derived.Deep.AppendLies
import Derived.Deep.QuietTactic
import Derived.BigQuiet
import Derived.LoopTactic
import Derived.Deep.LoopGhost
import Derived.Deep.DeepCutAuto
import Derived.Deep.DeepFit
import Derived.Maps.AppendAt
import Derived.Below
import Derived.Lib.Hide
import Derived.Handy
import Derived.KernelRfl
import Derived.IntWalk
import Derived.Laws.AppendOwnNone
import Derived.Laws.IdiomStrings
namespace Go.Proofs.YtmoiehbhhplckaaDoor
set_option linter.unusedVariables false
set_option linter.unusedSimpArgs false
open Go.RowKit

open Go.Extern.Stop Go.Stop Go.Extern
/-- a digit as the program makes it of a number that may be below 0 -/
def edg (x : Int) : UInt8 := ((48 + x) % 256).toNat.toUInt8
theorem edg_val (x : Int) : Value.int .u8 ((48 + x) % 256) = .int .u8 ((edg x).toNat : Int) := by
  have h1 : 0 ≤ (48 + x) % 256 := Int.emod_nonneg _ (by decide)
  have h2 : (48 + x) % 256 < 256 := Int.emod_lt_of_pos _ (by decide)
  have h3 : (edg x).toNat = ((48 + x) % 256).toNat := by
    unfold edg
    show ((48 + x) % 256).toNat % 256 = _
    omega
  rw [h3]
  congr 1
  omega
def errL (c : Int) : List UInt8 := [101, 114, 114, 111, 114, 32] ++ [edg ((wrap64 (c.tdiv 10)).tmod 10), edg (c.tmod 10)]
theorem errL_len (c : Int) : (errL c).length = 8 := rfl
theorem own_two (w : World) (B : Nat) (hB : B ≤ w.heap.size) (a b : Int) :
    (w.alloc (.cells #[.int .u8 ((48 + a) % 256), .int .u8 ((48 + b) % 256)] 5)).ownsRow B 5 1 (.slice (some ⟨w.heap.size, 0, none⟩) 2 2) 2 (bts [edg a, edg b]) := by
  have e : bts [edg a, edg b] = [.int .u8 ((48 + a) % 256), .int .u8 ((48 + b) % 256)] := by
    unfold bts
    rw [List.map_cons, List.map_cons, List.map_nil, ← edg_val, ← edg_val]
  rw [e]
  exact ⟨rfl, .inr ⟨w.heap.size, 2, _, rfl, hB, Blk.new w 5 _, by omega, by unfold maxLen; omega, rfl, rfl⟩⟩
set_option maxRecDepth 100000 in
theorem errno_c (c : Int) (w : World) : Calls Tryd.prog 18 #[.int .i64 c] w (Str1 (errL c) w) := by
  have hcv := conv_own (own_two w w.heap.size (Nat.le_refl _) ((wrap64 (c.tdiv 10)).tmod 10) (c.tmod 10))
  have HE : Hid (errL c = [101, 114, 114, 111, 114, 32] ++ [edg ((wrap64 (c.tdiv 10)).tmod 10), edg (c.tmod 10)]) := rfl
  generalize edg ((wrap64 (c.tdiv 10)).tmod 10) = x at *
  generalize edg (c.tmod 10) = y at *
  go_enter Tryd.func18, Tryd.ntmps18
  go_wp2
  go_ret
  refine ⟨?_, (Tch.refl No w).alloc _⟩
  rw [HE.out]
  exact ret_str (bapp [101, 114, 114, 111, 114, 32] [x, y])
end Go.Proofs.YtmoiehbhhplckaaDoor
