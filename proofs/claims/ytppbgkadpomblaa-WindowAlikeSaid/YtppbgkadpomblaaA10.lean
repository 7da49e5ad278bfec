/- Contracts. -/
import Derived.Test.YtppbgkadpomblaaProg
import Derived.Test.YtppbgkadpomblaaA9
import Derived.Tactics
import Derived.Tactics2
import Derived.WalkKit
import Derived.WalkSpells
import Derived.WalkLawsBesides
import Derived.StillTactics
import Derived.StillTailTactics
import Derived.OwnWalk
import Derived.Laws.Pointers
import Derived.Laws.ResultCell
import Derived.Deep.RegionHeld3
import Derived.Deep.RegionWith
import Derived.Deep.RegionLaw
import Derived.Deep.AppendLies
import Derived.Deep.QuietTactic
import Derived.BigQuiet
import Derived.LoopTactic
import Derived.Deep.LoopGhost
import Derived.Deep.DeepCutAuto
import Derived.Deep.DeepFit
import Derived.Maps.AppendAt
import Derived.Below
import Derived.Lib.Hide
import Derived.Handy
import Derived.KernelRfl
import Derived.IntWalk
import Derived.Laws.AppendOwnNone
import Derived.Laws.IdiomStrings
namespace Go.Proofs.Ytppbgkadpomblaa
set_option linter.unusedVariables false
set_option linter.unusedSimpArgs false
open Go.RowKit

/-- The list first, then the deque. -/
theorem fin_first {F : Nat → Prop} {g b c2 n2 : Nat} {v v' : Value} {A2 : Option Addr} {l' : List Cl} {w w2 w3 : World} (hn : n2 = l'.length) (hp : 0 < n2) (T2 : Tch No w w2) (hown : w2.ownsRow w.heap.size 30 2 (.slice A2 n2 c2) n2 (crows l')) (t3 : Tch (Foot g v) w2 w3) (hg : g < w.heap.size) (hF : ∀ k, F k → k < w.heap.size)
    (hv : ∀ k, v.ownBlock = some k → k < w.heap.size) (hv' : ∀ k, v'.ownBlock = some k → v.ownBlock = some k ∨ w2.heap.size ≤ k) (ht : DqN w3 g b v' l') : StepP g b v F l' w (.returned (.tuple #[.slice A2 n2 c2, .bool true])) w3 := by
  subst hn
  have hb := own_base hown
  have hl := own_lt hown
  have ho3 := t3.own hown (fun k hk f => by
    have h1 := hb k hk
    rcases f with f | f
    · omega
    · have := hv k f; omega)
  obtain ⟨A, c, hA, hr⟩ := Rd.of_own (S := FF g v' F) ho3 (fun k hk f => by
    have h1 := hb k hk
    have h2 := hl k hk
    rcases f with (f | f) | f
    · omega
    · rcases hv' k f with h | h
      · have := hv k h; omega
      · omega
    · have := hF k f; omega)
  injection hA with hA _ hc
  subst hA hc
  exact ⟨A2, c2, v', rfl, own_snil hown hp, ht, hr, T2.no.and t3, fun k hk => (hv' k hk).imp id (fun h => Nat.le_trans T2.size h)⟩
/-- No list, and the deque. -/
theorem fin_none {F : Nat → Prop} {g b : Nat} {v v' : Value} {l' : List Cl} {w w2 w3 : World} (hn : l' = []) (T2 : Tch No w w2) (t3 : Tch (Foot g v) w2 w3) (hv' : ∀ k, v'.ownBlock = some k → v.ownBlock = some k ∨ w2.heap.size ≤ k) (ht : DqN w3 g b v' l') : StepP g b v F l' w (.returned (.tuple #[.slice none 0 0, .bool true])) w3 := by
  subst hn
  exact ⟨none, 0, v', rfl, fun _ => ⟨rfl, rfl, rfl⟩, ht, Rd.nil, T2.no.and t3, fun k hk => (hv' k hk).imp id (fun h => Nat.le_trans T2.size h)⟩

def keepF (f : Int) (x : Cl) : Bool := decide (f ≤ x.at_)
def HeldC (B : Nat) (w : World) (v : Value) (l : List Cl) : Prop := w.ownsRow B 30 2 v l.length (crows l) ∧ (l = [] → v = .slice none 0 0)
theorem filter_succ {l : List Cl} {f : Int} {i : Nat} {x : Cl} (h : l[i]? = some x) : (l.take (i + 1)).filter (keepF f) = (l.take i).filter (keepF f) ++ (if keepF f x = true then [x] else []) := by
  rw [take_succ_of h, List.filter_append]
  congr 1
  cases hk : keepF f x <;> simp [hk]

set_option maxHeartbeats 3200000 in
set_option maxRecDepth 100000 in
theorem step_prune (F : Nat → Prop) (g b : Nat) (v : Value) (l : List Cl) (A : Option Addr) (c : Nat) (o : Opp) (w : World) (ht : DqN w g b v l) (hr : Rd w (FF g v F) 2 A l.length (crows l)) (hF : ∀ k, F k → k < w.heap.size) (hl : l.length ≤ 30000) (hup : Up l) (h1 : o.kind = 2) :
    Calls Try.prog 49 #[.pointer (some ⟨g, 0, none⟩), .slice A l.length c, oagg o] w (StepP g b v F (pruneL l o.at_) w) := by
  obtain ⟨i0, hi0, hz0, hz1, hz2⟩ := info_parts Try.info30
  have h2 : (o.kind == 1) = false := by simp; omega
  have h3 : (o.kind == 2) = true := by simpa using h1
  have HT := Lib.hid ht
  have HR := Lib.hid (hr.mono (T := No) (fun _ _ f => f.elim))
  have hfil := up_filter hup o.at_
  have HFL := Lib.hid hfil
  have hcut := cutN_le l o.at_
  clear h1 ht hr hfil hup
  unfold oagg
  go_enter Try.func49, Try.ntmps49
  go_wp2_with fail
  have B0 : Hid (Blk (w.alloc (.cells #[.int .i64 o.kind, .int .i64 o.at_] 89)) w.heap.size 89 #[.int .i64 o.kind, .int .i64 o.at_]) := Blk.new w 89 _
  go_loopw [11, 12] (fun ov iv wr => ∃ i : Nat, i ≤ l.length ∧ iv = .int .i64 i ∧ HeldC w.heap.size wr ov ((l.take i).filter (keepF o.at_)) ∧ Tch No w wr ∧ Blk wr w.heap.size 89 #[.int .i64 o.kind, .int .i64 o.at_]) (fun _ iv _ => l.length - (intOf iv).toNat)
  case atStart => exact ⟨0, by omega, rfl, ⟨World.ownsRow_nil .., fun _ => rfl⟩, (Tch.refl No w).alloc _, B0.out⟩
  case round =>
    obtain ⟨i, hil, rfl, hh, htc, hbx⟩ := hrel
    have hi0' : (0 : Int) ≤ (i : Int) := Int.natCast_nonneg _
    by_cases hlt : i < l.length
    · obtain ⟨q, off, x, hA, _, _, hx, d0, d1⟩ := rd_cl (HR.out.tch htc) i hlt
      subst hA
      have hi1 : (i : Int) < (l.length : Int) := by omega
      have hfs := filter_succ (f := o.at_) hx
      have HFS := Lib.hid hfs
      have hlen2 : ((l.take i).filter (keepF o.at_)).length ≤ i := Nat.le_trans (List.length_filter_le _ _) (by simp; omega)
      obtain ⟨x0, x1⟩ := cells2 hbx
      have HH := Lib.hid hh
      have TC := Lib.hid htc
      have BX := Lib.hid hbx
      clear hh htc hbx hfs hx
      by_cases hk : o.at_ ≤ x.at_
      · have hkf : keepF o.at_ x = true := by unfold keepF; simpa using hk
        have HKF := Lib.hid hkf
        clear hkf
        generalize hxs : (l.take i).filter (keepF o.at_) = xs at *
        clear hxs
        have hk1 : xs.length + 1 ≤ maxLen := by unfold maxLen; omega
        have hk2 : (xs.length + 1) * 16 ≤ 140737488355328 := by omega
        go_wp2_with fail
        go_quiet (fail)
        have hsz := TC.out.size
        go_wp2_with (at_builtin; go_must (refine wpList_append_lies _ rfl (.tmp 92) (.tmp 97) _ rfl w.heap.size 30 i0 _ 2 16 Try.underlying24 hi0 hz0 hz1 hz2 rfl (by decide) _ xs.length (crows xs) rfl ((own_drewN HH.out.1 nq).alloc _) ⟨wr.heap.size, 0, none⟩ 1 1 (ccells x) rfl rfl (newsa (wr.drewN nq) x) (ccells_one1 _) (by omega) hk1 hk2 (le_alloc hsz _) (wr.heap.size + 1) (by simp) ?_); intro a2 c2 w2 hown2 hg2 hat2 hlt2)
        have hov := own_blk_ne HH.out.1 BX.out (by decide)
        have hob := own_base HH.out.1
        have hfin : (l.take (i + 1)).filter (keepF o.at_) = xs ++ [x] := by have := HFS.out; rw [if_pos HKF.out] at this; exact this
        refine ⟨⟨i + 1, by omega, by simp, ?_, ?_, ?_⟩, by simp [intOf]; omega⟩
        · rw [hfin]
          refine ⟨?_, fun e => absurd (congrArg List.length e) (by simp)⟩
          rw [← crows_snoc, show (xs ++ [x]).length = xs.length + 1 by simp]
          exact hown2
        · exact ((TC.out.drewN nq).alloc _).trans (Tch.of_grown (S := fun k => w.heap.size ≤ k) hg2 (fun k hk => .inl (hob k hk))) (fun k hk => .inr hk)
        · exact blk_gr hg2 hov ((BX.out.drewN nq).alloc _)
      · have hkf : keepF o.at_ x = false := by unfold keepF; simpa using hk
        have HKF := Lib.hid hkf
        clear hkf
        generalize hxs : (l.take i).filter (keepF o.at_) = xs at *
        clear hxs
        go_wp2_with fail
        go_quiet (fail)
        go_wp2
        have hfin : (l.take (i + 1)).filter (keepF o.at_) = xs := by have := HFS.out; rw [if_neg (by rw [HKF.out]; decide), List.append_nil] at this; exact this
        refine ⟨⟨i + 1, by omega, by simp, ?_, TC.out.drewN nq, BX.out.drewN nq⟩, by simp [intOf]; omega⟩
        rw [hfin]
        exact ⟨own_drewN HH.out.1 nq, HH.out.2⟩
    · have hin : i = l.length := by omega
      subst hin
      rw [List.take_length] at hh
      have hfl2 : l.filter (keepF o.at_) = pruneL l o.at_ := HFL.out
      rw [hfl2] at hh
      have hpl : (pruneL l o.at_).length = l.length - cutN l o.at_ := by unfold pruneL; rw [List.length_drop]
      have hnn : (cutN l o.at_ : Int) = (l.length : Int) - ((pruneL l o.at_).length : Int) := by omega
      have hcb : ((cutN l o.at_ : Int) == (l.length : Int) - ((pruneL l o.at_).length : Int)) = true := by simpa using hnn
      have HCB := Lib.hid hcb
      have HP := Lib.hid hpl
      have hgl := HT.out.lt
      have hvl := own_lt HT.out.own
      have HV := Lib.hid hvl
      have HH := Lib.hid hh
      have TC := Lib.hid htc
      obtain ⟨x0, x1⟩ := cells2 hbx
      have hsz := htc.size
      clear hh htc hbx hfl2 hpl hnn hcb hvl
      rcases Nat.eq_zero_or_pos (pruneL l o.at_).length with h0 | h0
      · have hl0 : pruneL l o.at_ = [] := List.eq_nil_of_length_eq_zero h0
        have hv0 := HH.out.2 hl0
        subst hv0
        have hcut0 : cutN l o.at_ = l.length := by have := HP.out; omega
        have HL0 := Lib.hid hl0
        have HC0 := Lib.hid hcut0
        clear hl0 h0 hcut0 HCB
        go_wp2_with fail
        refine (prune_c g 0 b 26 #[v] v l o.at_ _ (HT.out.tch TC.out) (by omega)).mono ?_
        rintro e w3 ⟨v3, rfl, d3, t3, hv3⟩
        rw [HC0.out]
        go_wp2
        go_returns
        exact fin_none HL0.out TC.out t3 (fun k hk => hv3 k hk) d3
      · obtain ⟨a, c2, hv2, _, _⟩ := HH.out.1.form h0
        subst hv2
        generalize hP : pruneL l o.at_ = P at *
        have HPP := Lib.hid hP
        clear hP
        have hcl : (cutN l o.at_ : Int) ≤ (l.length : Int) := by omega
        have hPl : (P.length : Int) ≤ (l.length : Int) := by have := HP.out; omega
        go_wp2_with fail
        refine (prune_c g 0 b 26 #[v] v l o.at_ _ (HT.out.tch TC.out) (by omega)).mono ?_
        rintro e w3 ⟨v3, rfl, d3, t3, hv3⟩
        rw [HPP.out] at d3
        have D3 := Lib.hid d3
        have HV3 := Lib.hid hv3
        have T3 := Lib.hid t3
        clear d3 t3 hv3
        generalize hC : cutN l o.at_ = C at *
        have hCb := HCB.out
        go_wp2
        go_returns
        exact fin_first rfl h0 TC.out HH.out.1 T3.out hgl hF HV.out (fun k hk => HV3.out k hk) D3.out
end Go.Proofs.Ytppbgkadpomblaa
