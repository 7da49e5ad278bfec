/- counted. Conditions: the slice is the law's own. -/
import Derived.Test.YtmoiehbhhplckaaProg
import Derived.Test.YtmoiehbhhplckaaX13
import Derived.Tactics
import Derived.Tactics2
import Derived.WalkKit
import Derived.WalkSpells
import Derived.WalkLawsBesides
import Derived.StillTactics
import Derived.StillTailTactics
import Derived.OwnWalk
import Derived.Laws.Pointers
import Derived.Laws.ResultCell
import Derived.Deep.RegionHeld3
import Derived.Deep.RegionWith
import Derived.Deep.RegionLaw
import Derived.Deep.AppendLies
import Derived.Deep.QuietTactic
import Derived.BigQuiet
import Derived.LoopTactic
import Derived.Deep.LoopGhost
import Derived.Deep.DeepCutAuto
import Derived.Deep.DeepFit
import Derived.Maps.AppendAt
import Derived.Below
import Derived.Lib.Hide
import Derived.Handy
import Derived.KernelRfl
import Derived.IntWalk
import Derived.Laws.AppendOwnNone
import Derived.Laws.IdiomStrings
namespace Go.Proofs.Ytmoiehbhhplckaa
set_option linter.unusedVariables false
set_option linter.unusedSimpArgs false
open Go.RowKit

/-- what the law's walk keeps: what it wants so far, and the right's copy -/
structure WK (w0 : World) (r : Rv) (L : List (List UInt8)) (v : Value) (w : World) : Prop where
  own : w.ownsRow w0.heap.size 9 1 v L.length (strs L)
  box : Blk w w0.heap.size 55 (rcells r)
  tch : Tch No w0 w
theorem WK.no {w0 w w' : World} {r : Rv} {L : List (List UInt8)} {v : Value} (h : WK w0 r L v w) (t : Tch No w w') : WK w0 r L v w' := ⟨t.own h.own (fun _ _ f => f), t.blk h.box (fun f => f), h.tch.and t⟩
theorem WK.grow {w0 w w' : World} {r : Rv} {L L' : List (List UInt8)} {v v' : Value} (h : WK w0 r L v w) (o : Obj) (ho : w'.ownsRow w0.heap.size 9 1 v' L'.length (strs L')) (hg : (w.alloc o).grownBy w' v.ownBlock) : WK w0 r L' v' w' := by
  refine ⟨ho, ?_, grown_no hg (h.tch.alloc o) (own_base h.own)⟩
  exact blk_gr hg (own_blk_ne h.own h.box (by decide)) (h.box.alloc o)
def CntR (w0 : World) (r : Rv) (L : List (List UInt8)) (e : Ending) (w' : World) : Prop := ∃ v', e = .returned v' ∧ Hid (WK w0 r L v' w')
set_option maxHeartbeats 4000000 in
set_option maxRecDepth 100000 in
theorem counted_c (w0 : World) (r : Rv) (word : List UInt8) (n : Int) (v : Value) (L : List (List UInt8)) (w : World) (h : Hid (WK w0 r L v w)) (hn : Fit n) (hw : word.length ≤ 100) (hL : L.length ≤ 1000) :
    Calls Try.prog 37 #[v, .string ⟨word.toArray⟩, .int .i64 n] w (CntR w0 r (L ++ cntL word n)) := by
  obtain ⟨i0, hi0, hz0, hz1, hz2⟩ := info_parts Try.info9
  rcases (by omega : 0 < n ∨ ¬ 0 < n) with h0 | h0
  · have hc : Hid (cntL word n = [(word ++ [32]) ++ decL n]) := if_pos h0
    have DC := Lib.hid (fun w => rdecimal_c n w hn)
    have dl := dec_len hn
    generalize decL n = D at *
    have n1 : ¬ (9223372036854775807 < word.length + 1) := by omega
    have n2 : ¬ (9223372036854775807 < word.length + 1 + D.length) := by omega
    have hk1 : L.length + 1 ≤ maxLen := by unfold maxLen; omega
    have hk2 : (L.length + 1) * 16 ≤ 140737488355328 := by omega
    have HS : Hid (Value.string ((⟨word.toArray⟩ : ByteArray) ++ ⟨#[32]⟩ ++ ⟨D.toArray⟩) = .string ⟨((word ++ [32]) ++ D).toArray⟩) := by rw [← bapp, ← bapp]; exact rfl
    clear dl hw
    go_enter Try.func37, Try.ntmps37
    go_wp2_with (first
      | (at_builtin; go_must (refine wpList_append_own_at _ rfl (.tmp 9) (.tmp 15) _ rfl w0.heap.size 9 i0 _ 1 16 Try.underlying57 hi0 hz0 hz1 hz2 rfl (by decide) v L.length _ rfl (O5.out.own.alloc _) ⟨w5.heap.size, 0, none⟩ 1 1 [_] rfl rfl (str_new w5 _) (by simp [Value.oneCell']) hk1 hk2 (le_alloc hs5 _) ?_; intro v6 w6 ho6 hg6 hn6 ha6; have O6 := Lib.hid ho6; have G6 := Lib.hid hg6; clear ho6 hg6 hn6 ha6))
      | (go_at_call 23; go_must (refine (DC.out _).mono ?_; rintro e w5 ⟨rfl, t5⟩; have O5 := Lib.hid (h.out.no t5); have hs5 := O5.out.tch.size; clear t5))
      | fail)
    go_returns
    refine ⟨v6, rfl, O5.out.grow _ ?_ G6.out⟩
    rw [hc.out, List.length_append, show strs (L ++ [(word ++ [32]) ++ D]) = strs L ++ [.string ⟨((word ++ [32]) ++ D).toArray⟩] by simp [strs], ← HS.out]
    exact O6.out
  · have hc : cntL word n = [] := if_neg h0
    rw [hc, List.append_nil]
    clear hc
    go_enter Try.func37, Try.ntmps37
    go_wp2
    go_returns
    exact ⟨v, rfl, h⟩
end Go.Proofs.Ytmoiehbhhplckaa
