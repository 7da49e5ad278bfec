/- Check. Conditions: the expressions lie there. -/
import Derived.Test.YtmoiehbhhplckaaProg
import Derived.Test.YtmoiehbhhplckaaX4
import Derived.Tactics
import Derived.Tactics2
import Derived.WalkKit
import Derived.WalkSpells
import Derived.WalkLawsBesides
import Derived.StillTactics
import Derived.StillTailTactics
import Derived.OwnWalk
import Derived.Laws.Pointers
import Derived.Laws.ResultCell
import Derived.Deep.RegionHeld3
import Derived.Deep.RegionWith
import Derived.Deep.RegionLaw
import Derived.Deep.AppendLies
import Derived.Deep.QuietTactic
import Derived.BigQuiet
import Derived.LoopTactic
import Derived.Deep.LoopGhost
import Derived.Deep.DeepCutAuto
import Derived.Deep.DeepFit
import Derived.Maps.AppendAt
import Derived.Below
import Derived.Lib.Hide
import Derived.Handy
import Derived.KernelRfl
import Derived.IntWalk
import Derived.Laws.AppendOwnNone
import Derived.Laws.IdiomStrings
namespace Go.Proofs.Ytmoiehbhhplckaa
set_option linter.unusedVariables false
set_option linter.unusedSimpArgs false
open Go.RowKit

def okN (x : Nx) : Bool := !decide (kidsN x.k = -2) && (!(decide (0 ≤ kidsN x.k) && !decide ((x.kids.len : Int) = kidsN x.k)) && (!(decide (kidsN x.k = -1) && !setV x.kids) && fitsB x.nm x.k x.n x.lo x.hi))
def checkV (x : Nx) : Int := if 12 < depthV x.k x.kids then 32 else if 64 < (allV x).length then 3 else if (allV x).all okN = true then 0 else 12
theorem all_w (f : Fo) : ∀ y ∈ allF f, y.nm.size ≤ wF f ∧ wF y.kids ≤ wF f := by
  induction f with
  | nil => intro y hy; simp [allF] at hy
  | cons k nm n lo hi kids rest ihk ihr =>
    intro y hy
    simp only [allF, List.mem_append, List.mem_cons] at hy
    simp only [wF]
    rcases hy with (rfl | hy) | hy
    · simp only; omega
    · split at hy
      · cases hy
      · have := ihk y hy; omega
    · have := ihr y hy; omega
theorem allv_w (x : Nx) (W : Nat) (h1 : x.nm.size ≤ W) (h2 : wF x.kids ≤ W) : ∀ y ∈ allV x, y.nm.size ≤ W ∧ wF y.kids ≤ W := by
  intro y hy
  unfold allV at hy
  rcases List.mem_cons.1 hy with rfl | hy
  · exact ⟨h1, h2⟩
  · split at hy
    · cases hy
    · have := all_w _ y hy; omega
theorem kids_vals (k : Int) : kidsN k = -2 ∨ kidsN k = -1 ∨ (0 ≤ kidsN k ∧ kidsN k ≤ 2) := by
  unfold kidsN
  repeat' split
  all_goals omega
theorem take_all {α : Type} {L : List α} {p : α → Bool} {i : Nat} {y : α} (hy : L[i]? = some y) : (L.take (i + 1)).all p = ((L.take i).all p && p y) := by
  rw [List.take_add_one, hy]; simp
theorem all_no {α : Type} {L : List α} {p : α → Bool} {i : Nat} {y : α} (hy : L[i]? = some y) (h : p y = false) : L.all p = false := by
  rw [List.all_eq_false]
  exact ⟨y, List.mem_of_getElem? hy, by simp [h]⟩
set_option maxHeartbeats 16000000 in
set_option maxRecDepth 100000 in
theorem check_c (x : Nx) (A : Option Addr) (c : Nat) (w : World) (hk : KA w x.kids A x.kids.len) (hnm : x.nm.size ≤ 100000000) (hw : wF x.kids ≤ 100000000) :
    Calls Try.prog 34 #[xagg x.k x.nm x.n x.lo x.hi A x.kids.len c] w fun e w' => e = .returned (.int .i64 (checkV x)) ∧ Tch No w w' := by
  have AW := Lib.hid (allv_w x 100000000 hnm hw)
  have hlw := len_wF x.kids
  have HK := Lib.hid hk
  have hdw := dF_wF x.kids
  have hdv : depthV x.k x.kids ≤ 100000001 := by unfold depthV; split <;> omega
  have HC : Hid (checkV x = if 12 < depthV x.k x.kids then 32 else if 64 < (allV x).length then 3 else if (allV x).all okN = true then 0 else 12) := rfl
  obtain ⟨k, nm, n, lo, hi, kids⟩ := x
  simp only at *
  have DC := Lib.hid (fun w' (t : Tch No w w') => depth_c k nm n lo hi kids (by omega) A kids.len c w' (hk.tch t))
  have AC := Lib.hid (fun w' (t : Tch No w w') => all_c k nm n lo hi kids (by omega) A c w w' t hk)
  clear hk
  unfold xagg at *
  generalize hwb : w.alloc (.cells (xcells k nm n lo hi A kids.len c) 51) = wb
  have TB : Hid (Tch No w wb) := by subst hwb; exact (Tch.refl No w).alloc _
  have BX : Hid (Blk wb w.heap.size 51 (xcells k nm n lo hi A kids.len c)) := by subst hwb; exact Blk.new w 51 _
  obtain ⟨e0, e1, e2, e3, e4, e5⟩ := cells6 BX.out
  unfold xcells at hwb
  generalize depthV k kids = D at *
  by_cases hd : 12 < D
  · have hdi : (12 : Int) < (D : Int) := by omega
    have HC2 : Hid (checkV ⟨k, nm, n, lo, hi, kids⟩ = 32) := by rw [HC.out, if_pos hd]; exact rfl
    clear hd
    go_enter Try.func34, Try.ntmps34
    go_wp2_with (go_at_call 54; refine (DC.out _ TB.out).mono ?_; rintro e w2 ⟨rfl, t2⟩; have T2 := Lib.hid t2; clear t2)
    go_returns
    exact ⟨ret_i HC2.out.symm, TB.out.and T2.out⟩
  · have hdi : ¬ (12 : Int) < (D : Int) := by omega
    rw [if_neg hd] at HC
    clear hd
    go_enter Try.func34, Try.ntmps34
    go_wp2_with (first
      | (go_at_call 55; go_must (refine (AC.out _ (TB.out.and T2.out)).mono ?_; rintro e w3 ⟨L, v, rfl, hr⟩; obtain ⟨B, bc, rfl⟩ := own_slice hr.own; have HR := Lib.hid hr; have T3 := Lib.hid (T2.out.and hr.tch); have hL := congrArg List.length hr.eq; rw [List.length_map] at hL; have HL := Lib.hid hL; clear hr hL))
      | (go_at_call 54; go_must (refine (DC.out _ TB.out).mono ?_; rintro e w2 ⟨rfl, t2⟩; have T2 := Lib.hid t2; obtain ⟨f0, f1, f2, f3, f4, f5⟩ := cells6 (t2.blk BX.out (fun f => f)); clear t2))
      | fail)
    · have h64 : 64 < L.length := by omega
      go_returns
      refine ⟨ret_i ?_, TB.out.and T3.out⟩
      rw [HC.out, ← HL.out, if_pos h64]
    · rename_i h64i
      have h64 : L.length ≤ 64 := by omega
      have HC2 : Hid (checkV ⟨k, nm, n, lo, hi, kids⟩ = if L.all (fun y => okN y.x) = true then 0 else 12) := by
        rw [HC.out, ← HL.out, if_neg (by omega), ← HR.out.eq, List.all_map]; exact rfl
      have RD : Hid (∀ wr, Tch No w3 wr → ∀ i y, L[i]? = some y → ∃ g, B = some ⟨g, 0, none⟩ ∧ (wr.cell? ⟨g, i * 6, none⟩ = some (.int .i64 y.x.k) ∧ wr.cell? ⟨g, i * 6 + 1, none⟩ = some (.string y.x.nm) ∧ wr.cell? ⟨g, i * 6 + 2, none⟩ = some (.int .i64 y.x.n) ∧ wr.cell? ⟨g, i * 6 + 3, none⟩ = some (.int .i64 y.x.lo) ∧ wr.cell? ⟨g, i * 6 + 4, none⟩ = some (.int .i64 y.x.hi) ∧ wr.cell? ⟨g, i * 6 + 5, none⟩ = some (.slice y.A y.x.kids.len y.c))) := by
        intro wr t i y hy
        obtain ⟨g, c9, hv, _, _⟩ := HR.out.own.form (by have := (List.getElem?_eq_some_iff.1 hy).1; omega)
        injection hv with hv _ _
        subst hv
        have hown := HR.out.own
        have hc : ∀ j u, j < 6 → (ncells y)[j]? = some u → wr.cell? ⟨g, i * 6 + j, none⟩ = some u := fun j u hj hu => t.cell (fun f => f) (own_cell hown (i * 6 + j) u (by rw [flat_get ncells_length L i j hj y hy]; exact hu))
        exact ⟨g, rfl, hc 0 _ (by omega) rfl, hc 1 _ (by omega) rfl, hc 2 _ (by omega) rfl, hc 3 _ (by omega) rfl, hc 4 _ (by omega) rfl, hc 5 _ (by omega) rfl⟩
      have YW : Hid (∀ y ∈ L, y.x.nm.size ≤ 100000000 ∧ wF y.x.kids ≤ 100000000) := by
        intro y hy
        refine AW.out y.x ?_
        rw [← HR.out.eq]
        exact List.mem_map_of_mem hy
      clear f0 f1 f2 f3 f4 f5 e0 e1 e2 e3 e4 e5 hwb
      go_loopw [4] (fun iv wr => ∃ i : Nat, i ≤ L.length ∧ iv = .int .i64 i ∧ (L.take i).all (fun y => okN y.x) = true ∧ Tch No w3 wr) (fun iv _ => L.length - (intOf iv).toNat)
      case atStart => exact ⟨0, Nat.zero_le _, rfl, rfl, Tch.refl _ _⟩
      case round =>
        obtain ⟨i, hil, rfl, hall, ht⟩ := hrel
        have HT := Lib.hid ht
        have HA := Lib.hid hall
        clear ht hall
        by_cases hlt : i < L.length
        · obtain ⟨y, hy⟩ : ∃ y, L[i]? = some y := ⟨_, List.getElem?_eq_getElem hlt⟩
          obtain ⟨g, rfl, x0, x1, x2, x3, x4, x5⟩ := RD.out wr HT.out i y hy
          have hli : (i : Int) < (L.length : Int) := by omega
          have hyw := YW.out y (List.mem_of_getElem? hy)
          have hylw := len_wF y.x.kids
          have hyl : y.x.kids.len ≤ 1000000 := by omega
          have HO : Hid (okN y.x = (!decide (kidsN y.x.k = -2) && (!(decide (0 ≤ kidsN y.x.k) && !decide ((y.x.kids.len : Int) = kidsN y.x.k)) && (!(decide (kidsN y.x.k = -1) && !setV y.x.kids) && fitsB y.x.nm y.x.k y.x.n y.x.lo y.x.hi)))) := rfl
          have SC := Lib.hid (fun w' (t : Tch No w w') => set_c y.x.k y.x.nm y.x.n y.x.lo y.x.hi y.x.kids y.A y.c w w' t (HR.out.ok y (List.mem_of_getElem? hy)) (by omega))
          have FC := Lib.hid (fun w' => fits_c y.x.k y.x.nm y.x.n y.x.lo y.x.hi y.A y.x.kids.len y.c w' (by omega))
          have KC := Lib.hid (kids_c y.x.k wr)
          have HTA := Lib.hid (take_all (p := fun y : Nv => okN y.x) hy)
          have HAN : Hid (okN y.x = false → L.all (fun y => okN y.x) = false) := fun h => all_no hy h
          have hkv := kids_vals y.x.k
          unfold xagg at SC FC
          generalize setV y.x.kids = sv at *
          generalize fitsB y.x.nm y.x.k y.x.n y.x.lo y.x.hi = fv at *
          generalize kidsN y.x.k = kn at *
          have HY := Lib.hid hy
          clear hy hyw hylw
          rcases hkv with rfl | rfl | ⟨k0, k2⟩
          · have HNO : Hid (okN y.x = false) := by rw [HO.out]; exact rfl
            go_wp2_with (first | (go_at_call 56; refine KC.out.mono ?_; rintro e w5 ⟨rfl, rfl⟩) | fail)
            go_returns
            refine ⟨ret_i ?_, TB.out.and (T3.out.and HT.out)⟩
            rw [HC2.out, HAN.out HNO.out]; rfl
          · cases sv
            · have HNO : Hid (okN y.x = false) := by rw [HO.out]; exact rfl
              go_wp2_with (first
                | (go_at_call 57; refine (SC.out _ (TB.out.and (T3.out.and HT.out))).mono ?_; rintro e w6 ⟨rfl, t6⟩; have T6 := Lib.hid (HT.out.and t6); clear t6)
                | (go_at_call 56; refine KC.out.mono ?_; rintro e w5 ⟨rfl, rfl⟩) | fail)
              go_returns
              refine ⟨ret_i ?_, TB.out.and (T3.out.and T6.out)⟩
              rw [HC2.out, HAN.out HNO.out]; rfl
            · have HNO : Hid (okN y.x = fv) := by rw [HO.out]; show _ = _; simp
              cases fv
              all_goals
                go_wp2_with (first
                  | (go_at_call 58; refine (FC.out _).mono ?_; rintro e w7 ⟨rfl, t7⟩; have T7 := Lib.hid (T6.out.and t7); clear t7)
                  | (go_at_call 57; refine (SC.out _ (TB.out.and (T3.out.and HT.out))).mono ?_; rintro e w6 ⟨rfl, t6⟩; have T6 := Lib.hid (HT.out.and t6); obtain ⟨g', he', y0, y1, y2, y3, y4, y5⟩ := RD.out w6 T6.out i y HY.out; obtain rfl : g = g' := (by simpa using he'); clear t6 he')
                  | (go_at_call 56; refine KC.out.mono ?_; rintro e w5 ⟨rfl, rfl⟩) | fail)
                first
                  | (go_returns
                     refine ⟨ret_i ?_, TB.out.and (T3.out.and T7.out)⟩
                     rw [HC2.out, HAN.out HNO.out]; rfl)
                  | exact ⟨⟨i + 1, by omega, by simp, by rw [HTA.out, HA.out, HNO.out]; rfl, T7.out⟩, by simp [intOf]; omega⟩
          · have hkn2 : (kn == -2) = false := by simp; omega
            have hkn1 : (kn == -1) = false := by simp; omega
            by_cases hkl : (y.x.kids.len : Int) = kn
            · have HNO : Hid (okN y.x = fv) := by
                rw [HO.out]
                have h1 : kn ≠ -2 := by omega
                have h2 : kn ≠ -1 := by omega
                show _ = _
                simp [hkl, h1, h2]
              have hklb : ((y.x.kids.len : Int) != kn) = false := by simp [hkl]
              clear hkl
              cases fv
              all_goals
                go_wp2_with (first
                  | (go_at_call 58; refine (FC.out _).mono ?_; rintro e w7 ⟨rfl, t7⟩; have T7 := Lib.hid (HT.out.and t7); clear t7)
                  | (go_at_call 56; refine KC.out.mono ?_; rintro e w5 ⟨rfl, rfl⟩) | fail)
                first
                  | (go_returns
                     refine ⟨ret_i ?_, TB.out.and (T3.out.and T7.out)⟩
                     rw [HC2.out, HAN.out HNO.out]; rfl)
                  | exact ⟨⟨i + 1, by omega, by simp, by rw [HTA.out, HA.out, HNO.out]; rfl, T7.out⟩, by simp [intOf]; omega⟩
            · have HNO : Hid (okN y.x = false) := by
                rw [HO.out]
                show _ = _
                simp [hkl, k0]
              have hklb : ((y.x.kids.len : Int) != kn) = true := by simp [hkl]
              clear hkl
              go_wp2_with (first | (go_at_call 56; refine KC.out.mono ?_; rintro e w5 ⟨rfl, rfl⟩) | fail)
              go_returns
              refine ⟨ret_i ?_, TB.out.and (T3.out.and HT.out)⟩
              rw [HC2.out, HAN.out HNO.out]; rfl
        · have hie : i = L.length := by omega
          subst hie
          have hli : ¬ (L.length : Int) < (L.length : Int) := by omega
          have hat : Hid (L.all (fun y => okN y.x) = true) := by
            have := HA.out
            rw [List.take_of_length_le (Nat.le_refl _)] at this
            exact this
          go_wp2
          go_returns
          refine ⟨ret_i ?_, TB.out.and (T3.out.and HT.out)⟩
          rw [HC2.out, hat.out]; rfl
end Go.Proofs.Ytmoiehbhhplckaa
