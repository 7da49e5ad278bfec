/- OutlineRights: what came in. Conditions: none. -/
import Derived.Test.YtmoiehbhhplckaaProg
import Derived.Test.YtmoiehbhhplckaaX14
import Derived.Test.YtmoiehbhhplckaaV7
import Derived.Tactics
import Derived.Tactics2
import Derived.WalkKit
import Derived.WalkSpells
import Derived.WalkLawsBesides
import Derived.StillTactics
import Derived.StillTailTactics
import Derived.OwnWalk
import Derived.Laws.Pointers
import Derived.Laws.ResultCell
import Derived.Deep.RegionHeld3
import Derived.Deep.RegionWith
import Derived.Deep.RegionLaw
import Derived.Deep.AppendLies
import Derived.Deep.QuietTactic
import Derived.BigQuiet
import Derived.LoopTactic
import Derived.Deep.LoopGhost
import Derived.Deep.DeepCutAuto
import Derived.Deep.DeepFit
import Derived.Maps.AppendAt
import Derived.Below
import Derived.Lib.Hide
import Derived.Handy
import Derived.KernelRfl
import Derived.IntWalk
import Derived.Laws.AppendOwnNone
import Derived.Laws.IdiomStrings
namespace Go.Proofs.Ytmoiehbhhplckaa
set_option linter.unusedVariables false
set_option linter.unusedSimpArgs false
open Go.RowKit

def YesB (w : World) (e : Ending) (w' : World) : Prop := e = .returned (.bool true) ∧ Below w.heap.size w w'
def askT (k n : Int) (word X : List UInt8) : List (List UInt8) := if k = 2 ∧ n = 1 then [] else [(word ++ [32]) ++ X]
theorem ask_of {w0 w : World} {k : Int} {nm : ByteArray} {n lo hi : Int} {kids : Fo} {A : Option Addr} {c : Nat} {word : List UInt8} (hnm : nm.size ≤ 100000000) (hw : wF kids ≤ 100000000) (f1 : Fit n) (f2 : Fit lo) (f3 : Fit hi) (hff : fitF kids)
    (ht : Tch No w0 w) (hk : KA w0 kids A kids.len) : AskP ⟨k, nm, n, lo, hi, A, kids.len, c⟩ word w (askT k n word (prX k nm n lo hi (prs kids))) := by
  unfold askT
  by_cases h : k = 2 ∧ n = 1
  · rw [if_pos h]; exact .inl ⟨h, rfl⟩
  · rw [if_neg h]
    refine .inr ⟨h, prX k nm n lo hi (prs kids), rfl, ?_, fun w' t => pr_c k nm n lo hi kids hnm hw f1 f2 f3 hff A c w0 w' (ht.and t) hk⟩
    have h1 := prX_len k nm (prs kids) f1 f2 f3
    have h2 := prs_tl kids hff
    omega
theorem own_rd1 {w : World} {b n c : Nat} {A : Option Addr} {xs : List Value} (h : w.ownsRow b 9 1 (.slice A n c) n xs) : Rd w No 1 A n xs := by
  obtain ⟨A', c', e, hr⟩ := Rd.of_own (S := No) h (fun _ _ f => f)
  injection e with e _ _
  subst e
  exact hr
/-- an expression that came in: where it lies, how great it is -/
structure XIn (w : World) (k : Int) (nm : ByteArray) (n lo hi : Int) (A : Option Addr) (kids : Fo) : Prop where
  ka : KA w kids A kids.len
  nm_ : nm.size ≤ 100000000
  w_ : wF kids ≤ 100000000
  n_ : Fit n
  lo_ : Fit lo
  hi_ : Fit hi
  f_ : fitF kids
theorem XIn.ask {w0 w : World} {k : Int} {nm : ByteArray} {n lo hi : Int} {kids : Fo} {A : Option Addr} (h : XIn w0 k nm n lo hi A kids) (c : Nat) (word : List UInt8) (ht : Tch No w0 w) : AskP ⟨k, nm, n, lo, hi, A, kids.len, c⟩ word w (askT k n word (prX k nm n lo hi (prs kids))) :=
  ask_of h.nm_ h.w_ h.n_ h.lo_ h.hi_ h.f_ ht h.ka
theorem XIn.len {w0 : World} {k : Int} {nm : ByteArray} {n lo hi : Int} {kids : Fo} {A : Option Addr} (h : XIn w0 k nm n lo hi A kids) : (prX k nm n lo hi (prs kids)).length ≤ 1000000000 := by
  have h1 := prX_len k nm (prs kids) h.n_ h.lo_ h.hi_
  have h2 := prs_tl kids h.f_
  have h3 := h.nm_
  have h4 := h.w_
  omega
theorem wk_right {w0 w w' : World} {r : Rv} {L : List (List UInt8)} {v : Value} (h : WK w0 r L v w) (t : Tch No w w') : WK w0 r L v w' := h.no t
theorem askT_len (k n : Int) (word X : List UInt8) : (askT k n word X).length ≤ 1 := by unfold askT; split <;> simp
end Go.Proofs.Ytmoiehbhhplckaa
