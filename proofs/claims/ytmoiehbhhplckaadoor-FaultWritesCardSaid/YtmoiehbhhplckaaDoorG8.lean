/- alive. Conditions: errors.errorType holds error's type. -/
import Derived.Test.YtmoiehbhhplckaaDoorProg
import Derived.Test.YtmoiehbhhplckaaDoorG7
import Derived.Tactics
import Derived.Tactics2
import Derived.WalkKit
import Derived.WalkSpells
import Derived.WalkLawsBesides
import Derived.StillTactics
import Derived.StillTailTactics
import Derived.OwnWalk
import Derived.Laws.Pointers
import Derived.Laws.ResultCell
import Derived.Deep.RegionHeld3
import Derived.Deep.RegionWith
import Derived.Deep.RegionLaw
import Derived.Deep.AppendLies
import Derived.Deep.QuietTactic
import Derived.BigQuiet
import Derived.LoopTactic
import Derived.Deep.LoopGhost
import Derived.Deep.DeepCutAuto
import Derived.Deep.DeepFit
import Derived.Maps.AppendAt
import Derived.Below
import Derived.Lib.Hide
import Derived.Handy
import Derived.KernelRfl
import Derived.IntWalk
import Derived.Laws.AppendOwnNone
import Derived.Laws.IdiomStrings
namespace Go.Proofs.YtmoiehbhhplckaaDoor
set_option linter.unusedVariables false
set_option linter.unusedSimpArgs false
open Go.RowKit

open Go.Extern.Stop Go.Stop Go.Extern
theorem rd_blk {w : World} {g n s : Nat} {t : TypeId} {cs : List Value} (h : Blk w g t cs.toArray) (hn : cs.length = n * s) : Rd w No s (some ⟨g, 0, none⟩) n cs := by
  refine ⟨hn, fun _ => ⟨g, 0, rfl, fun f => f, h.lt, fun j u hu => ?_⟩⟩
  rw [Nat.zero_add, h.cell j]
  simpa using hu
/-- all that a walk keeps of a chain -/
structure Kp (u : Value) (l : List Mk) (inner : Int) (w0 w : World) : Prop where
  ch : Ch w u l inner
  g : HG w
  tch : Tch No w0 w
theorem Kp.on {u : Value} {l : List Mk} {inner : Int} {w0 w w' : World} (h : Kp u l inner w0 w) (k : Tch No w w') : Kp u l inner w0 w' :=
  ⟨h.ch.tch k, h.g.tch k (fun f => f), h.tch.and k⟩
theorem Kp.code {u : Value} {l : List Mk} {inner n : Int} {w0 w : World} (h : Hid (Kp u l inner w0 w)) (e : n = codeOf l inner) : Calls Tryd.prog 10 #[u] w fun e w' => e = .returned (.int .i64 n) ∧ Hid (Kp u l inner w0 w') := by
  subst e; exact (code_c h.out.ch h.out.g).mono fun e w' ⟨he, ht⟩ => ⟨he, h.out.on ht⟩
theorem Kp.place {u : Value} {l : List Mk} {inner n : Int} {w0 w : World} (h : Hid (Kp u l inner w0 w)) (e : n = placeOf l) : Calls Tryd.prog 11 #[u] w fun e w' => e = .returned (.int .i64 n) ∧ Hid (Kp u l inner w0 w') := by
  subst e; exact (place_c h.out.ch h.out.g).mono fun e w' ⟨he, ht⟩ => ⟨he, h.out.on ht⟩
theorem Kp.depth {u : Value} {l : List Mk} {inner n : Int} {w0 w : World} (h : Hid (Kp u l inner w0 w)) (hl : l.length ≤ 1000) (e : n = (l.length : Nat)) : Calls Tryd.prog 12 #[u] w fun e w' => e = .returned (.int .i64 n) ∧ Hid (Kp u l inner w0 w') := by
  subst e; exact (depth_c h.out.ch h.out.g hl).mono fun e w' ⟨he, ht⟩ => ⟨he, h.out.on ht⟩
theorem Kp.has {u : Value} {l : List Mk} {inner k : Int} {b : Bool} {w0 w : World} (h : Hid (Kp u l inner w0 w)) (hl : l.length ≤ 1000) (e : b = hasV l inner k) : Calls Tryd.prog 13 #[u, .int .i64 k] w fun e w' => e = .returned (.bool b) ∧ Hid (Kp u l inner w0 w') := by
  subst e; exact (has_c k l inner w hl u h.out.ch).mono fun e w' ⟨he, ht⟩ => ⟨he, h.out.on ht⟩
def lAl : List Opp := [⟨4, 1⟩, ⟨16, 2⟩]
def Yes (w : World) (e : Ending) (w' : World) : Prop := e = .returned (.bool true) ∧ Hid (Tch No w w')
set_option maxHeartbeats 1600000 in
theorem alive_c (w : World) (hg : HG w) : Calls Tryd.prog 7 #[] w (Yes w) := by
  have HGG := Lib.hid hg
  clear hg
  go_enter Tryd.func7, Tryd.ntmps7
  go_wp2_with fail
  have RB : Hid (Rd (w.alloc (.cells (mrows lAl).toArray 32)) No 2 (some ⟨w.heap.size, 0, none⟩) 2 (mrows lAl)) := rd_blk (Blk.new w 32 _) rfl
  refine (chain_c _ 2 2 lAl 0 _ RB.out (by decide)).mono ?_
  rintro e w1 ⟨u, rfl, hp⟩
  have K1 : Hid (Kp u (lAl.map mkO) 0 w w1) := ⟨hp.ch, HGG.out.tch (((Tch.refl No w).alloc _).and hp.tch) (fun f => f), ((Tch.refl No w).alloc _).and hp.tch⟩
  clear hp
  go_wp2_with fail
  refine (Kp.code (n := 4) K1 rfl).mono ?_
  rintro e w2 ⟨rfl, K2⟩
  go_wp2_with fail
  refine (Kp.place (n := 1) K2 rfl).mono ?_
  rintro e w3 ⟨rfl, K3⟩
  go_wp2_with fail
  refine (Kp.depth (n := 2) K3 (by decide) rfl).mono ?_
  rintro e w4 ⟨rfl, K4⟩
  go_wp2_with fail
  refine (Kp.has (k := 16) (b := true) K4 (by decide) (by decide)).mono ?_
  rintro e w5 ⟨rfl, K5⟩
  go_wp2_with fail
  refine (Kp.has (k := 5) (b := false) K5 (by decide) (by decide)).mono ?_
  rintro e w6 ⟨rfl, K6⟩
  go_wp2
  go_returns
  exact ⟨rfl, K6.out.tch⟩
def YesB (w : World) (e : Ending) (w' : World) : Prop := e = .returned (.bool true) ∧ Below w.heap.size w w'
set_option maxHeartbeats 1600000 in
theorem fnone_walk (code at_ : Int) (w : World) (hg : HG w) : Calls Tryd.prog 5 #[.int .i64 code, .int .i64 at_] w (YesB w) := by
  have AL := alive_c w hg
  have HGG := Lib.hid hg
  clear hg
  go_enter Tryd.func5, Tryd.ntmps5
  go_wp2_with fail
  refine AL.mono ?_
  rintro e w1 ⟨rfl, T1⟩
  have K1 : Hid (Kp .nilIface [] 0 w w1) := ⟨.inl ⟨rfl, rfl⟩, HGG.out.tch T1.out (fun f => f), T1.out⟩
  clear AL
  go_wp2_with fail
  refine (fwrap_nil code at_ w1).mono ?_
  rintro e w2 ⟨rfl, rfl⟩
  go_wp2_with fail
  refine (Kp.code (n := 0) K1 rfl).mono ?_
  rintro e w2 ⟨rfl, K2⟩
  go_wp2_with fail
  refine (Kp.place (n := -1) K2 rfl).mono ?_
  rintro e w3 ⟨rfl, K3⟩
  go_wp2_with fail
  refine (Kp.depth (n := 0) K3 (by decide) rfl).mono ?_
  rintro e w4 ⟨rfl, K4⟩
  go_wp2_with fail
  refine (Kp.has (k := code) (b := false) K4 (by decide) (by rw [hasV_no])).mono ?_
  rintro e w5 ⟨rfl, K5⟩
  go_wp2
  go_returns
  exact ⟨rfl, K5.out.tch.noBelow⟩
end Go.Proofs.YtmoiehbhhplckaaDoor
