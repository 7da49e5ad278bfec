/- LexJoins: the walk. Conditions: strings of a machine's size. -/
import Derived.Test.YtmoiehbhhplckaaProg
import Derived.Test.YtmoiehbhhplckaaL10
import Derived.Test.YtmoiehbhhplckaaL9
import Derived.Tactics
import Derived.Tactics2
import Derived.WalkKit
import Derived.WalkSpells
import Derived.WalkLawsBesides
import Derived.StillTactics
import Derived.StillTailTactics
import Derived.OwnWalk
import Derived.Laws.Pointers
import Derived.Laws.ResultCell
import Derived.Deep.RegionHeld3
import Derived.Deep.RegionWith
import Derived.Deep.RegionLaw
import Derived.Deep.AppendLies
import Derived.Deep.QuietTactic
import Derived.BigQuiet
import Derived.LoopTactic
import Derived.Deep.LoopGhost
import Derived.Deep.DeepCutAuto
import Derived.Deep.DeepFit
import Derived.Maps.AppendAt
import Derived.Below
import Derived.Lib.Hide
import Derived.Handy
import Derived.KernelRfl
import Derived.IntWalk
import Derived.Laws.AppendOwnNone
import Derived.Laws.IdiomStrings
namespace Go.Proofs.Ytmoiehbhhplckaa
set_option linter.unusedVariables false
set_option linter.unusedSimpArgs false
open Go.RowKit

theorem lex_end (L : List UInt8) (f : Nat) : ∀ (p : Nat) (ts R : List Tk), lexF f L p ts = some R → 1 ≤ R.length := by
  induction f with
  | zero => intro p ts R h; simp [lexF] at h
  | succ f ih =>
    intro p ts R h
    unfold lexF at h
    by_cases hp : p < L.length
    · rw [if_pos hp] at h
      by_cases hs : (stepR L p).1 = true
      · rw [if_pos hs] at h
        exact ih _ _ _ h
      · rw [if_neg hs] at h; cases h
    · rw [if_neg hp] at h
      injection h with h
      rw [← h, List.length_append]
      simp
theorem allR_end {L : List UInt8} {X : List Tk} (h : allR L = some X) : 1 ≤ X.length ∧ L.length ≤ 4096 := by
  unfold allR at h
  split at h
  · rename_i h2
    exact ⟨lex_end _ _ _ _ _ h, h2⟩
  · cases h
theorem step_at (L : List UInt8) (p : Nat) : ∀ t ∈ (stepR L p).2.1, t.at_ = p := by
  unfold stepR
  split
  · intro t ht; cases ht
  · split
    · intro t ht; simp [namedR] at ht; rw [ht]
    · split
      · intro t ht; simp [numR] at ht; rw [ht]
      · split
        · intro t ht; simp [quotR] at ht; rw [ht]
        · intro t ht
          have h : t = (signR L p).t := by simpa using ht
          rw [h]
          unfold signR
          split
          · rfl
          · split
            · rfl
            · split
              · rfl
              · rfl
theorem lex_at (L : List UInt8) (f : Nat) : ∀ (p : Nat) (ts R : List Tk), p ≤ L.length → (∀ t ∈ ts, t.at_ ≤ L.length) → lexF f L p ts = some R → ∀ t ∈ R, t.at_ ≤ L.length := by
  induction f with
  | zero => intro p ts R _ _ h; simp [lexF] at h
  | succ f ih =>
    intro p ts R hp0 hts h
    unfold lexF at h
    by_cases hp : p < L.length
    · rw [if_pos hp] at h
      by_cases hs : (stepR L p).1 = true
      · rw [if_pos hs] at h
        refine ih _ _ _ (step_nx L p hp hs).2.1 (fun t ht => ?_) h
        rcases List.mem_append.1 ht with ht | ht
        · exact hts t ht
        · rw [step_at L p t ht]; exact hp0
      · rw [if_neg hs] at h; cases h
    · rw [if_neg hp] at h
      injection h with h
      subst h
      intro t ht
      rcases List.mem_append.1 ht with ht | ht
      · exact hts t ht
      · simp at ht; rw [ht]; exact hp0
theorem allR_at {L : List UInt8} {X : List Tk} (h : allR L = some X) : ∀ t ∈ X, t.at_ ≤ 4096 := by
  unfold allR at h
  split at h
  · rename_i h2
    intro t ht
    have := lex_at L _ 0 [] X (by omega) (by intro t ht; cases ht) h t ht
    omega
  · cases h
theorem cat_list (a b : ByteArray) : (a ++ ⟨#[32]⟩ ++ b).data.toList = a.data.toList ++ 32 :: b.data.toList := by
  simp
set_option maxHeartbeats 3200000 in
set_option maxRecDepth 100000 in
theorem ljoins_walk (a b : ByteArray) (w : World) (ha0 : a.size ≤ 140737488351232) (hb0 : b.size ≤ 140737488351232) : Calls Try.prog 8 #[.string a, .string b] w fun e w' => e = .returned (.bool true) ∧ Below w.heap.size w w' := by
  have AA : Hid (∀ w, Calls Try.prog 29 #[.string a] w (AllP (allR a.data.toList) w)) := fun w => all_c a w
  have AB : Hid (∀ w, Calls Try.prog 29 #[.string b] w (AllP (allR b.data.toList) w)) := fun w => all_c b w
  have las : a.data.toList.length = a.size := by rw [Array.length_toList]; rfl
  have lbs : b.data.toList.length = b.size := by rw [Array.length_toList]; rfl
  have LJ : Hid (∀ X Y, allR a.data.toList = some X → allR b.data.toList = some Y → a.size + 1 + b.size ≤ 4096 → ∃ T, X = T ++ [⟨5, [], 0, a.size⟩] ∧ ∀ w, Calls Try.prog 29 #[.string (a ++ ⟨#[32]⟩ ++ b)] w (AllP (some (T ++ Y.map (shT (a.size + 1)))) w)) := fun X Y hx hy hl => by
    obtain ⟨T, h1, h2⟩ := lex_join a.data.toList b.data.toList X Y hx hy (by omega)
    rw [las] at h1 h2
    refine ⟨T, h1, fun w => ?_⟩
    have := all_c (a ++ ⟨#[32]⟩ ++ b) w
    rw [cat_list, h2] at this
    exact this
  have EA : Hid (∀ X, allR a.data.toList = some X → 1 ≤ X.length ∧ a.size ≤ 4096) := fun X h => by have := allR_end h; omega
  have EB : Hid (∀ X, allR b.data.toList = some X → 1 ≤ X.length ∧ b.size ≤ 4096) := fun X h => by have := allR_end h; omega
  have EBA : Hid (∀ X, allR b.data.toList = some X → ∀ t ∈ X, t.at_ ≤ 4096) := fun X h => allR_at h
  clear las lbs
  generalize allR a.data.toList = ra at *
  generalize allR b.data.toList = rb at *
  rcases ra with _ | X
  · go_enter Try.func8, Try.ntmps8
    go_wp2_with fail
    refine (lalive_c _).mono ?_
    rintro e w1 ⟨rfl, t1⟩
    have T1 := Lib.hid t1
    clear t1
    go_wp2_with fail
    refine (AA.out _).mono ?_
    rintro e w2 ⟨_, h2⟩
    obtain ⟨u, rfl, ⟨x, rfl⟩, t2⟩ := h2 rfl
    have T2 := Lib.hid (T1.out.and t2)
    clear h2 t2
    go_wp2_with fail
    refine (AB.out _).mono ?_
    rintro e w3 ⟨k1, k2⟩
    rcases rb with _ | Y
    · obtain ⟨u, rfl, ⟨y, rfl⟩, t3⟩ := k2 rfl
      have T3 := Lib.hid (T2.out.and t3)
      clear k1 k2 t3
      go_wp2
      go_returns
      exact ⟨rfl, T3.out.noBelow⟩
    · obtain ⟨v, rfl, _, t3, _⟩ := k1 _ rfl
      have T3 := Lib.hid (T2.out.and t3)
      clear k1 k2 t3
      go_wp2
      go_returns
      exact ⟨rfl, T3.out.noBelow⟩
  · obtain ⟨hX, ha⟩ := EA.out X rfl
    rcases rb with _ | Y
    · go_enter Try.func8, Try.ntmps8
      go_wp2_with fail
      refine (lalive_c _).mono ?_
      rintro e w1 ⟨rfl, t1⟩
      have T1 := Lib.hid t1
      clear t1
      go_wp2_with fail
      refine (AA.out _).mono ?_
      rintro e w2 ⟨h1, _⟩
      obtain ⟨v, rfl, _, t2, _⟩ := h1 _ rfl
      have T2 := Lib.hid (T1.out.and t2)
      clear h1 t2
      go_wp2_with fail
      refine (AB.out _).mono ?_
      rintro e w3 ⟨_, k2⟩
      obtain ⟨u, rfl, ⟨y, rfl⟩, t3⟩ := k2 rfl
      have T3 := Lib.hid (T2.out.and t3)
      clear k2 t3
      go_wp2
      go_returns
      exact ⟨rfl, T3.out.noBelow⟩
    · obtain ⟨hY, hb⟩ := EB.out Y rfl
      have ha4 : ¬ ((4096 : Int) < (a.size : Int)) := by omega
      have hb4 : ¬ ((4096 : Int) < (b.size : Int)) := by omega
      have hw1 : IntKind.i64.wrap ((a.size : Int) + 1) = (a.size : Int) + 1 := IntWalk.i64_in _ (by omega)
      have hw2 : IntKind.i64.wrap ((a.size : Int) + 1 + (b.size : Int)) = (a.size : Int) + 1 + (b.size : Int) := IntWalk.i64_in _ (by omega)
      rcases (by omega : (4096 : Int) < (a.size : Int) + 1 + (b.size : Int) ∨ (a.size : Int) + 1 + (b.size : Int) ≤ 4096) with hl | hl
      · go_enter Try.func8, Try.ntmps8
        go_wp2_with fail
        refine (lalive_c _).mono ?_
        rintro e w1 ⟨rfl, t1⟩
        have T1 := Lib.hid t1
        clear t1
        go_wp2_with fail
        refine (AA.out _).mono ?_
        rintro e w2 ⟨h1, _⟩
        obtain ⟨v, rfl, _, t2, _⟩ := h1 _ rfl
        have T2 := Lib.hid (T1.out.and t2)
        clear h1 t2
        go_wp2_with fail
        refine (AB.out _).mono ?_
        rintro e w3 ⟨k1, _⟩
        obtain ⟨v', rfl, _, t3, _⟩ := k1 _ rfl
        have T3 := Lib.hid (T2.out.and t3)
        clear k1 t3
        go_wp2
        go_returns
        exact ⟨rfl, T3.out.noBelow⟩
      · obtain ⟨T, hT, hj⟩ := LJ.out X Y rfl rfl (by omega)
        have HJ := Lib.hid hj
        have HT := Lib.hid hT
        have hTl : X.length = T.length + 1 := by rw [hT]; simp
        clear hj hT
        go_enter Try.func8, Try.ntmps8
        go_wp2_with fail
        refine (lalive_c _).mono ?_
        rintro e w1 ⟨rfl, t1⟩
        have T1 := Lib.hid t1
        clear t1
        go_wp2_with fail
        refine (AA.out _).mono ?_
        rintro e w2 ⟨h1, _⟩
        obtain ⟨v, rfl, o2, t2, m2⟩ := h1 _ rfl
        obtain ⟨A, c, rfl⟩ := own_slice o2
        have RA := Lib.hid (rd_own4 o2)
        have T2 := Lib.hid (T1.out.and t2)
        clear h1 t2 o2
        go_wp2_with fail
        refine (AB.out _).mono ?_
        rintro e w3 ⟨k1, _⟩
        obtain ⟨v', rfl, o3, t3, m3⟩ := k1 _ rfl
        obtain ⟨B, d, rfl⟩ := own_slice o3
        have RB := Lib.hid (rd_own4 o3)
        have RA3 := Lib.hid (RA.out.tch t3)
        have T3 := Lib.hid (T2.out.and t3)
        clear k1 t3 o3
        go_wp2_with fail
        refine (HJ.out _).mono ?_
        rintro e w4 ⟨k1, _⟩
        obtain ⟨v', rfl, o4, t4, m4⟩ := k1 _ rfl
        obtain ⟨Z, z, rfl⟩ := own_slice o4
        have RZ := Lib.hid (rd_own4 o4)
        have RA4 := Lib.hid (RA3.out.tch t4)
        have RB4 := Lib.hid (RB.out.tch t4)
        have T4 := Lib.hid (T3.out.and t4)
        clear k1 t4 o4 RA RA3 RB
        have RZ4 : Hid (Rd w4 No 4 Z (T.length + Y.length) (krows (T ++ Y.map (shT (a.size + 1))))) := by
          have := RZ.out
          rw [List.length_append, List.length_map] at this
          exact this
        have RX4 : Hid (Rd w4 No 4 A (T.length + 1) (krows X)) := by rw [← hTl]; exact RA4.out
        have GX : Hid (∀ i, i < T.length → X[i]? = T[i]?) := fun i hi => by rw [HT.out, List.getElem?_append_left hi]
        have GZ1 : Hid (∀ i, i < T.length → (T ++ Y.map (shT (a.size + 1)))[i]? = T[i]?) := fun i hi => by rw [List.getElem?_append_left hi]
        have GZ2 : Hid (∀ j y, Y[j]? = some y → (T ++ Y.map (shT (a.size + 1)))[T.length + j]? = some (shT (a.size + 1) y)) := fun j y hy => by
          rw [List.getElem?_append_right (by omega), show T.length + j - T.length = j by omega, List.getElem?_map, hy]; rfl
        have mT : T.length ≤ 5000 := by omega
        have BA := Lib.hid (EBA.out Y rfl)
        clear RZ RA4 m2 m4 AA AB EA EB EBA LJ HJ
        have SL : (T ++ Y.map (shT (a.size + 1))).length = T.length + Y.length := by rw [List.length_append, List.length_map]
        rw [SL]
        generalize T ++ Y.map (shT (a.size + 1)) = ZL at *
        clear SL hTl
        generalize hnT : T.length = nT at *
        generalize hnY : Y.length = nY at *
        have HN := Lib.hid (And.intro hnT hnY)
        clear hnT hnY
        go_wp2_with fail
        go_loopw [11] (fun iv wr => ∃ i : Nat, i ≤ nT + nY ∧ iv = .int .i64 i ∧ Tch No w4 wr) (fun iv _ => nT + nY - (intOf iv).toNat)
        case atStart => exact ⟨0, by omega, rfl, Tch.refl _ _⟩
        case round =>
          obtain ⟨i, hil, rfl, ht⟩ := hrel
          have TT := Lib.hid ht
          by_cases hlt : i < nT + nY
          · obtain ⟨gy, oy, y0, hB, hy0, c0, c1, c2, c3⟩ := rd_kt (RB4.out.tch ht) 0 (by omega)
            obtain ⟨gz, oz, zz, hZ, hzz, d0, d1, d2, d3⟩ := rd_kt (RZ4.out.tch ht) i (by omega)
            subst hB hZ
            simp only [Nat.zero_mul, Nat.add_zero] at c0 c1 c2 c3
            have hi1 : (i : Int) < (nT : Int) + (nY : Int) := by omega
            have hy1 : (0 : Int) < (nY : Int) := by omega
            have hgy := World.block_lt_of_cell? _ _ c0
            have hgz := World.block_lt_of_cell? _ _ d0
            simp only at hgy hgz
            have hne1 : ¬ gy = wr.heap.size := by omega
            have hne2 : ¬ gz = wr.heap.size := by omega
            by_cases hi : i < nT
            · obtain ⟨gx, ox, x, hA, hx, e0, e1, e2, e3⟩ := rd_kt (RX4.out.tch ht) i (by omega)
              subst hA
              have hgx := World.block_lt_of_cell? _ _ e0
              simp only at hgx
              have hne3 : ¬ gx = wr.heap.size := by omega
              obtain rfl : x = zz := by
                rw [GX.out i hi] at hx
                rw [GZ1.out i hi, hx] at hzz
                injection hzz
              have hi2 : (i : Int) < (nT : Int) := by omega
              have hi3 : (i : Int) < (nT : Int) + 1 := by omega
              clear ht hx hzz hy0
              go_wp2_with fail
              go_quiet (fail)
              go_wp2
              exact ⟨⟨i + 1, by omega, by simp, (TT.out.alloc _).drewN _⟩, by simp [intOf]; omega⟩
            · obtain ⟨j, rfl⟩ : ∃ j, i = nT + j := ⟨i - nT, by omega⟩
              obtain ⟨gx, ox, x, hA, hx, e0, e1, e2, e3⟩ := rd_kt (RB4.out.tch ht) j (by omega)
              obtain ⟨rfl, rfl⟩ : gy = gx ∧ oy = ox := by simpa using hA
              obtain rfl : shT (a.size + 1) x = zz := by
                rw [GZ2.out j x hx] at hzz
                injection hzz
              simp only [shT] at d0 d1 d2 d3
              have hi2 : ¬ ((nT : Int) + (j : Int) < (nT : Int)) := by omega
              have hw5 : IntKind.i64.wrap ((nT : Int) + (j : Int) - ((nT : Int) + 1)) = (j : Int) - 1 := by
                rw [show (nT : Int) + (j : Int) - ((nT : Int) + 1) = (j : Int) - 1 by omega]
                exact IntWalk.i64_in _ (by omega)
              have hw6 : IntKind.i64.wrap ((j : Int) - 1 + 1) = (j : Int) := by
                rw [show (j : Int) - 1 + 1 = (j : Int) by omega]
                exact IntWalk.i64_in _ (by omega)
              have hj1 : (j : Int) < (nY : Int) := by omega
              have hxa := BA.out x (List.mem_of_getElem? hx)
              have hw7 : IntKind.i64.wrap ((x.at_ : Int) + (a.size : Int)) = (x.at_ : Int) + (a.size : Int) := IntWalk.i64_in _ (by omega)
              have hw8 : IntKind.i64.wrap ((x.at_ : Int) + (a.size : Int) + 1) = (x.at_ : Int) + (a.size : Int) + 1 := IntWalk.i64_in _ (by omega)
              rw [show ((a.size + 1 + x.at_ : Nat) : Int) = (x.at_ : Int) + (a.size : Int) + 1 by omega] at d3
              clear ht hx hzz hy0 hA
              go_wp2_with fail
              go_quiet (fail)
              go_wp2
              exact ⟨⟨nT + j + 1, by omega, by simp, (TT.out.alloc _).drewN _⟩, by simp [intOf]; omega⟩
          · have hi1 : ¬ ((i : Int) < (nT : Int) + (nY : Int)) := by omega
            have TW := Lib.hid (T4.out.and TT.out)
            clear ht
            go_wp2
            go_returns
            exact ⟨rfl, TW.out.noBelow⟩
end Go.Proofs.Ytmoiehbhhplckaa
