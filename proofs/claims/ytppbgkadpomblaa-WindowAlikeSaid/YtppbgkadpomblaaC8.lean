/- What the window law reckons by itself: told. Conditions: the moments read as a list. -/
import Derived.Test.YtppbgkadpomblaaProg
import Derived.Test.YtppbgkadpomblaaC7
import Derived.Tactics
import Derived.Tactics2
import Derived.WalkKit
import Derived.WalkSpells
import Derived.WalkLawsBesides
import Derived.StillTactics
import Derived.StillTailTactics
import Derived.OwnWalk
import Derived.Laws.Pointers
import Derived.Laws.ResultCell
import Derived.Deep.RegionHeld3
import Derived.Deep.RegionWith
import Derived.Deep.RegionLaw
import Derived.Deep.AppendLies
import Derived.Deep.QuietTactic
import Derived.BigQuiet
import Derived.LoopTactic
import Derived.Deep.LoopGhost
import Derived.Deep.DeepCutAuto
import Derived.Deep.DeepFit
import Derived.Maps.AppendAt
import Derived.Below
import Derived.Lib.Hide
import Derived.Handy
import Derived.KernelRfl
import Derived.IntWalk
import Derived.Laws.AppendOwnNone
import Derived.Laws.IdiomStrings
namespace Go.Proofs.Ytppbgkadpomblaa
set_option linter.unusedVariables false
set_option linter.unusedSimpArgs false
open Go.RowKit

def PairB (a : Bool) (b : Int) (w : World) (e : Ending) (w' : World) : Prop := e = .returned (.tuple #[.bool a, .int .i64 b]) ∧ Tch No w w'
theorem timeAt_mono (l : List WSt) (i j : Nat) (h : j ≤ i) : timeAt l j ≤ timeAt l i ∧ 0 ≤ timeAt l j := by
  unfold timeAt
  have hm : ∀ (l : List WSt) (k : Nat), lastW (l.take k) ≤ lastW l := fun l k => by
    refine snoc_ind (P := fun l => lastW (l.take k) ≤ lastW l) (by simp) (fun l x ih => ?_) l
    rcases Nat.lt_or_ge l.length k with h | h
    · rw [List.take_of_length_le (by simp; omega)]
      exact Int.le_refl _
    · rw [List.take_append_of_le_length h, lastW_snoc]
      omega
  refine ⟨?_, ?_⟩
  · have := hm (l.take (i + 1)) (j + 1)
    rw [List.take_take, Nat.min_eq_left (by omega)] at this
    exact this
  · have := (mw false (l.take (j + 1))).la
    rw [mkW_last] at this
    exact this
theorem timeAt_fit {l : List WSt} (hx : ∀ x ∈ l, Fit x.at_) (i : Nat) : timeAt l i ≤ 9223372036854775807 := by
  have : ∀ l : List WSt, (∀ x ∈ l, Fit x.at_) → lastW l ≤ 9223372036854775807 := fun l => by
    refine snoc_ind (P := fun l => (∀ x ∈ l, Fit x.at_) → lastW l ≤ 9223372036854775807) (fun _ => by simp [lastW]) (fun l x ih hx => ?_) l
    have a1 := ih (fun y hy => hx y (by simp [hy]))
    have a2 := (hx x (by simp)).2
    rw [lastW_snoc]
    omega
  exact this _ (fun x hm => hx x (List.mem_of_mem_take hm))
set_option maxHeartbeats 6400000 in
set_option maxRecDepth 100000 in
theorem wtold_c (A : Option Addr) (n c : Nat) (xs : List WSt) (b : Nat) (v : Value) (i : Nat) (lo hi : Int) (since : Bool) (w : World) (hr : Rd w No 3 A n (xs.flatMap wcells)) (ho : w.ownsRow b 2 1 v n (atsW xs n)) (hin : i < n) (hn : n ≤ 1000) (hx : ∀ x ∈ xs, Fit x.at_) (a0 : 0 ≤ lo) (a1 : lo ≤ 9223372036854775807) (h0 : hi = -1 ∨ 0 ≤ hi) (h1 : hi ≤ 9223372036854775807) :
    Calls Try.prog 35 #[.slice A n c, v, .int .i64 i, .int .i64 lo, .int .i64 hi, .bool since] w (PairB (toldL lo hi (timeAt xs i) (selW since xs i (i + 1))).is_ (toldL lo hi (timeAt xs i) (selW since xs i (i + 1))).n w) := by
  obtain ⟨a, ca, rfl, _, _⟩ := ho.form (by omega)
  have HR := Lib.hid hr
  have HO := Lib.hid ho
  have hl0 := (timeAt_mono xs i i (Nat.le_refl _)).2
  have hl1 := timeAt_fit hx i
  have MO : Hid (∀ j, j ≤ i → timeAt xs j ≤ timeAt xs i ∧ 0 ≤ timeAt xs j) := fun j hj => timeAt_mono xs i j hj
  clear hr ho hx
  have hci := own_cell HO.out i _ (atsW_get xs n i hin)
  have CI : Hid (∀ j, j < n → ∀ w', Tch No w w' → w'.cell? ⟨a, j, none⟩ = some (.int .i64 (timeAt xs j))) := fun j hj w' t => t.cell (fun f => f) (own_cell HO.out j _ (atsW_get xs n j hj))
  clear hci
  generalize hlast : timeAt xs i = last at *
  have HLA := Lib.hid hlast
  clear hlast
  go_enter Try.func35, Try.ntmps35
  go_wp2_with fail
  go_loopw [14, 15, 16, 17] (fun iv nv mv jv wr => ∃ j : Nat, j ≤ i + 1 ∧ jv = .int .i64 j ∧ iv = .bool (toldL lo hi last (selW since xs i j)).is_ ∧ nv = .int .i64 (toldL lo hi last (selW since xs i j)).n ∧ mv = .int .i64 (toldL lo hi last (selW since xs i j)).met ∧ Tch No w wr) (fun _ _ _ jv _ => i + 1 - (intOf jv).toNat)
  case atStart => exact ⟨0, by omega, rfl, rfl, rfl, rfl, Tch.refl _ _⟩
  case round =>
    obtain ⟨j, hj, rfl, rfl, rfl, rfl, ht⟩ := hrel
    have hb := told_bdW lo hi last (selW since xs i j)
    have hlen := selW_len since xs i j
    have hb0 := hb.1
    have hb1 : (toldL lo hi last (selW since xs i j)).n ≤ j := by have := hb.2; omega
    clear hb hlen
    by_cases hlt : j < i + 1
    · have k1 := CI.out i hin wr ht
      rw [HLA.out] at k1
      have k2 := CI.out j (by omega) wr ht
      have HT := Lib.hid ht
      have hq := MO.out j (by omega)
      have hsel := selW_succ since xs i j
      have hq1 := hq.1
      have hq0 := hq.2
      clear ht hq
      generalize htj : timeAt xs j = t at *
      have HTJ := Lib.hid htj
      clear htj
      have hts : toldL lo hi last (selW since xs i (j + 1)) = if cnt since xs i j = true then toldF lo hi last (toldL lo hi last (selW since xs i j)) t else toldL lo hi last (selW since xs i j) := by
        rw [hsel]
        split
        · rw [toldL_snoc]
        · rfl
      have HTS := Lib.hid hts
      clear hts hsel
      generalize toldL lo hi last (selW since xs i j) = p at *
      have PT : Hid (∀ q : Td, toldL lo hi last (selW since xs i (j + 1)) = q → ∀ wz, Tch No w wz → True) := fun _ _ _ _ => trivial
      clear PT
      have hi1 : (j : Int) ≤ (i : Int) := by omega
      have hi2 : (j : Int) < (n : Int) := by omega
      have hi3 : (i : Int) < (n : Int) := by omega
      have hwr : IntKind.i64.wrap (last - t) = last - t := IntWalk.i64_in _ (by omega)
      have hwr2 : IntKind.i64.wrap (p.n + 1) = p.n + 1 := IntWalk.i64_in _ (by omega)
      have hsub0 : -9223372036854775808 ≤ last - t := by omega
      have hsub1 : last - t ≤ 9223372036854775807 := by omega
      go_wp2_with fail
      go_quiet (fail)
      go_wp2_with fail
      refine (counts_c A n c xs i j since _ (HR.out.tch (HT.out.drewN _)) hin (by omega) hn).mono ?_
      rintro e w3 ⟨rfl, t3⟩
      have T3 := Lib.hid ((HT.out.drewN _).and t3)
      have k3 := CI.out j (by omega) w3 T3.out
      rw [HTJ.out] at k3
      clear t3 k1 k2
      cases hc : cnt since xs i j
      · have hfin : toldL lo hi last (selW since xs i (j + 1)) = p := by rw [HTS.out, if_neg (by rw [hc]; decide)]
        have HFI := Lib.hid hfin
        clear hc hfin
        go_wp2_with fail
        exact ⟨⟨j + 1, by omega, by simp, by rw [HFI.out], by rw [HFI.out], by rw [HFI.out], T3.out⟩, by simp [intOf]; omega⟩
      · have hfin : toldL lo hi last (selW since xs i (j + 1)) = toldF lo hi last p t := by rw [HTS.out, if_pos hc]
        clear hc
        rcases h0 with hh | hh
        · have hbh : (hi != -1) = false := by simp [hh]
          have HHI := Lib.hid hh
          clear hh
          by_cases hm : t = p.met
          · have hmb : (t != p.met) = false := by simpa using hm
            have HM := Lib.hid hm
            clear hm
            have hf2 : toldL lo hi last (selW since xs i (j + 1)) = ⟨p.is_ || decide (lo ≤ last - t), p.n, p.met⟩ := by rw [hfin]; unfold toldF; rw [if_neg (by rintro ⟨h, _⟩; exact h HHI.out), if_neg (by rintro ⟨h, _⟩; exact h HM.out)]
            have HFI := Lib.hid hf2
            clear hf2 hfin
            cases hpi : p.is_
            · have HPI := Lib.hid hpi
              clear hpi
              go_wp2_with fail
              exact ⟨⟨j + 1, by omega, by simp, by rw [HFI.out]; simp [HPI.out], by rw [HFI.out], by rw [HFI.out], T3.out⟩, by simp [intOf]; omega⟩
            · have HPI := Lib.hid hpi
              clear hpi
              go_wp2_with fail
              exact ⟨⟨j + 1, by omega, by simp, by rw [HFI.out]; simp [HPI.out], by rw [HFI.out], by rw [HFI.out], T3.out⟩, by simp [intOf]; omega⟩
          · have hmb : (t != p.met) = true := by simpa using hm
            have HM := Lib.hid hm
            clear hm
            by_cases hn0 : p.n = 0
            · have hnb : (p.n == 0) = true := by simpa using hn0
              have HN0 := Lib.hid hn0
              clear hn0
              have hf2 : toldL lo hi last (selW since xs i (j + 1)) = ⟨p.is_ || decide (lo ≤ last - t), p.n + 1, t⟩ := by rw [hfin]; unfold toldF; rw [if_neg (by rintro ⟨h, _⟩; exact h HHI.out), if_pos ⟨HM.out, .inr HN0.out⟩]
              have HFI := Lib.hid hf2
              clear hf2 hfin
              cases hpi : p.is_
              · have HPI := Lib.hid hpi
                clear hpi
                go_wp2_with fail
                exact ⟨⟨j + 1, by omega, by simp, by rw [HFI.out]; simp [HPI.out], by rw [HFI.out], by rw [HFI.out], T3.out⟩, by simp [intOf]; omega⟩
              · have HPI := Lib.hid hpi
                clear hpi
                go_wp2_with fail
                exact ⟨⟨j + 1, by omega, by simp, by rw [HFI.out]; simp [HPI.out], by rw [HFI.out], by rw [HFI.out], T3.out⟩, by simp [intOf]; omega⟩
            · have hnb : (p.n == 0) = false := by simpa using hn0
              have HN0 := Lib.hid hn0
              clear hn0
              have hf2 : toldL lo hi last (selW since xs i (j + 1)) = ⟨p.is_ || decide (lo ≤ last - t), p.n, p.met⟩ := by rw [hfin]; unfold toldF; rw [if_neg (by rintro ⟨h, _⟩; exact h HHI.out), if_neg (by rintro ⟨_, h | h⟩; exact h HHI.out; exact HN0.out h)]
              have HFI := Lib.hid hf2
              clear hf2 hfin
              cases hpi : p.is_
              · have HPI := Lib.hid hpi
                clear hpi
                go_wp2_with fail
                exact ⟨⟨j + 1, by omega, by simp, by rw [HFI.out]; simp [HPI.out], by rw [HFI.out], by rw [HFI.out], T3.out⟩, by simp [intOf]; omega⟩
              · have HPI := Lib.hid hpi
                clear hpi
                go_wp2_with fail
                exact ⟨⟨j + 1, by omega, by simp, by rw [HFI.out]; simp [HPI.out], by rw [HFI.out], by rw [HFI.out], T3.out⟩, by simp [intOf]; omega⟩
        · have hne : hi ≠ -1 := by omega
          have hbh : (hi != -1) = true := by simpa using hne
          have HHI := Lib.hid hne
          clear hne
          by_cases hsk : hi < last - t
          · have hf2 : toldL lo hi last (selW since xs i (j + 1)) = p := by rw [hfin]; unfold toldF; rw [if_pos ⟨HHI.out, hsk⟩]
            have HFI := Lib.hid hf2
            clear hf2 hfin
            go_wp2_with fail
            exact ⟨⟨j + 1, by omega, by simp, by rw [HFI.out], by rw [HFI.out], by rw [HFI.out], T3.out⟩, by simp [intOf]; omega⟩
          · have HSK := Lib.hid hsk
            by_cases hm : t = p.met
            · have hmb : (t != p.met) = false := by simpa using hm
              have HM := Lib.hid hm
              clear hm
              have hf2 : toldL lo hi last (selW since xs i (j + 1)) = ⟨p.is_ || decide (lo ≤ last - t), p.n, p.met⟩ := by rw [hfin]; unfold toldF; rw [if_neg (by rintro ⟨_, h⟩; exact HSK.out h), if_neg (by rintro ⟨h, _⟩; exact h HM.out)]
              have HFI := Lib.hid hf2
              clear hf2 hfin
              cases hpi : p.is_
              · have HPI := Lib.hid hpi
                clear hpi
                go_wp2_with fail
                exact ⟨⟨j + 1, by omega, by simp, by rw [HFI.out]; simp [HPI.out], by rw [HFI.out], by rw [HFI.out], T3.out⟩, by simp [intOf]; omega⟩
              · have HPI := Lib.hid hpi
                clear hpi
                go_wp2_with fail
                exact ⟨⟨j + 1, by omega, by simp, by rw [HFI.out]; simp [HPI.out], by rw [HFI.out], by rw [HFI.out], T3.out⟩, by simp [intOf]; omega⟩
            · have hmb : (t != p.met) = true := by simpa using hm
              have HM := Lib.hid hm
              clear hm
              have hf2 : toldL lo hi last (selW since xs i (j + 1)) = ⟨p.is_ || decide (lo ≤ last - t), p.n + 1, t⟩ := by rw [hfin]; unfold toldF; rw [if_neg (by rintro ⟨_, h⟩; exact HSK.out h), if_pos ⟨HM.out, .inl HHI.out⟩]
              have HFI := Lib.hid hf2
              clear hf2 hfin
              cases hpi : p.is_
              · have HPI := Lib.hid hpi
                clear hpi
                go_wp2_with fail
                exact ⟨⟨j + 1, by omega, by simp, by rw [HFI.out]; simp [HPI.out], by rw [HFI.out], by rw [HFI.out], T3.out⟩, by simp [intOf]; omega⟩
              · have HPI := Lib.hid hpi
                clear hpi
                go_wp2_with fail
                exact ⟨⟨j + 1, by omega, by simp, by rw [HFI.out]; simp [HPI.out], by rw [HFI.out], by rw [HFI.out], T3.out⟩, by simp [intOf]; omega⟩
    · have hji : j = i + 1 := by omega
      subst hji
      have HT := Lib.hid ht
      clear ht
      go_wp2_with fail
      go_returns
      exact ⟨rfl, HT.out⟩
end Go.Proofs.Ytppbgkadpomblaa
