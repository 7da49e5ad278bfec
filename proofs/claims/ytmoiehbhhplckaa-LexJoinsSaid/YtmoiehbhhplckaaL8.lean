/- The lexer: All. Conditions: none. -/
import Derived.Test.YtmoiehbhhplckaaProg
import Derived.Test.YtmoiehbhhplckaaL7
import Derived.Tactics
import Derived.Tactics2
import Derived.WalkKit
import Derived.WalkSpells
import Derived.WalkLawsBesides
import Derived.StillTactics
import Derived.StillTailTactics
import Derived.OwnWalk
import Derived.Laws.Pointers
import Derived.Laws.ResultCell
import Derived.Deep.RegionHeld3
import Derived.Deep.RegionWith
import Derived.Deep.RegionLaw
import Derived.Deep.AppendLies
import Derived.Deep.QuietTactic
import Derived.BigQuiet
import Derived.LoopTactic
import Derived.Deep.LoopGhost
import Derived.Deep.DeepCutAuto
import Derived.Deep.DeepFit
import Derived.Maps.AppendAt
import Derived.Below
import Derived.Lib.Hide
import Derived.Handy
import Derived.KernelRfl
import Derived.IntWalk
import Derived.Laws.AppendOwnNone
import Derived.Laws.IdiomStrings
namespace Go.Proofs.Ytmoiehbhhplckaa
set_option linter.unusedVariables false
set_option linter.unusedSimpArgs false
open Go.RowKit

def lexF : Nat → List UInt8 → Nat → List Tk → Option (List Tk)
  | 0, _, _, _ => none
  | f + 1, L, p, ts => if p < L.length then (if (stepR L p).1 = true then lexF f L (stepR L p).2.2 (ts ++ (stepR L p).2.1) else none) else some (ts ++ [⟨5, [], 0, p⟩])
theorem wlen_pos (L : List UInt8) (p : Nat) (c : UInt8) (h : L[p]? = some c) (hc : isT c = true) : 1 ≤ wlen (L.drop p) := by
  have hlt := (List.getElem?_eq_some_iff.1 h).1
  rw [List.drop_eq_getElem_cons hlt]
  have : L[p] = c := (List.getElem?_eq_some_iff.1 h).2
  unfold wlen
  simp [this, hc]
theorem step_nx (L : List UInt8) (p : Nat) (hp : p < L.length) (h : (stepR L p).1 = true) : p < (stepR L p).2.2 ∧ (stepR L p).2.2 ≤ L.length ∧ (stepR L p).2.1.length ≤ 1 := by
  have hc : L[p]? = some (cAt L p) := by
    unfold cAt
    rw [List.getElem?_eq_getElem hp]; rfl
  unfold stepR at h ⊢
  split at h
  · rename_i h1
    rw [if_pos h1]
    simp; omega
  · rename_i h1
    rw [if_neg h1]
    split at h
    · rename_i h2
      rw [if_pos h2]
      have a1 := wlen_pos L p _ hc (by unfold isT; rw [h2]; rfl)
      have a2 := wlen_le L p (by omega)
      show p < p + wlen (L.drop p) ∧ p + wlen (L.drop p) ≤ _ ∧ 1 ≤ 1
      omega
    · rename_i h2
      rw [if_neg h2]
      split at h
      · rename_i h3
        rw [if_pos h3]
        have a1 := wlen_pos L p _ hc (by unfold isT; rw [h3]; simp)
        have a2 := wlen_le L p (by omega)
        show p < p + wlen (L.drop p) ∧ p + wlen (L.drop p) ≤ _ ∧ 1 ≤ 1
        omega
      · rename_i h3
        rw [if_neg h3]
        split at h
        · rename_i h4
          rw [if_pos h4]
          have h5 : 0 ≤ qIdx L p := by
            have : (quotR L p).ok = true := h
            unfold quotR at this
            simp at this
            exact this.1
          have h6 : qIdx L p < (L.drop (p + 1)).length := idx_lt _ _
          rw [List.length_drop] at h6
          show p < p + (qIdx L p).toNat + 2 ∧ p + (qIdx L p).toNat + 2 ≤ _ ∧ 1 ≤ 1
          omega
        · rename_i h4
          rw [if_neg h4]
          have h2 : ∀ k, pre2 L p k = true → p + 2 ≤ L.length := fun k hk => by
            unfold pre2 Lib.hasPrefix at hk
            have := (List.isPrefixOf_iff_prefix.1 hk).length_le
            rw [List.length_drop] at this
            have : (sg k).length = 2 := by unfold sg; split; rfl; split <;> rfl
            omega
          show p < (signR L p).nx ∧ (signR L p).nx ≤ _ ∧ 1 ≤ 1
          unfold signR
          split
          · rename_i h5
            have := h2 0 h5
            simp only; omega
          · split
            · rename_i h5
              have := h2 1 h5
              simp only; omega
            · split
              · rename_i h5
                have := h2 2 h5
                simp only; omega
              · simp only; omega
def AllP (R : Option (List Tk)) (w : World) (e : Ending) (w' : World) : Prop :=
  (∀ ts, R = some ts → ∃ v, e = .returned (.tuple #[v, .nilIface]) ∧ w'.ownsRow w.heap.size 38 4 v ts.length (krows ts) ∧ Tch No w w' ∧ ts.length ≤ 5000) ∧ (R = none → ∃ u, e = .returned (.tuple #[.slice none 0 0, u]) ∧ IsErr u ∧ Tch No w w')
def allR (L : List UInt8) : Option (List Tk) := if L.length ≤ 4096 then lexF (L.length + 1) L 0 [] else none
def mAt (s : ByteArray) (g : Nat) (w : World) : Nat := match w.cell? ⟨g, 1, none⟩ with | some v => s.size - (intOf v).toNat | none => 0
theorem mAt_of {s : ByteArray} {g p : Nat} {w : World} (h : w.cell? ⟨g, 1, none⟩ = some (.int .i64 p)) : mAt s g w = s.size - p := by
  unfold mAt; rw [h]; rfl
set_option maxHeartbeats 1600000 in
set_option maxRecDepth 100000 in
theorem all_c (s : ByteArray) (w : World) : Calls Try.prog 29 #[.string s] w (AllP (allR s.data.toList) w) := by
  rcases (by omega : (4096 : Int) < (s.size : Int) ∨ (s.size : Int) ≤ 4096) with hs | hs
  · have HA : Hid (allR s.data.toList = none) := by
      show _ = _
      unfold allR
      rw [Array.length_toList, if_neg]
      have : s.data.size = s.size := rfl
      omega
    go_enter Try.func29, Try.ntmps29
    go_wp2_with fail
    refine (new_c _ _ _).mono ?_
    rintro e w1 ⟨u, rfl, hu, t1⟩
    have HU := Lib.hid (And.intro hu t1)
    clear hu t1
    go_wp2
    go_returns
    rw [HA.out]
    exact ⟨fun ts h => (by cases h), fun _ => ⟨u, rfl, HU.out.1, HU.out.2⟩⟩
  · have hs2 : s.size ≤ 4096 := by omega
    have hLs : s.data.toList.length = s.size := by rw [Array.length_toList]; rfl
    have HA : Hid (allR s.data.toList = lexF (s.size + 1) s.data.toList 0 []) := by
      show _ = _
      unfold allR
      rw [hLs, if_pos hs2]
    have HLS := Lib.hid hLs
    clear hLs
    obtain ⟨R, hR⟩ : ∃ R, allR s.data.toList = R := ⟨_, rfl⟩
    rw [hR]
    have HR0 : Hid (lexF (s.size + 1) s.data.toList 0 [] = R) := by show _ = _; rw [← HA.out, hR]
    clear hR HA
    go_enter Try.func29, Try.ntmps29
    go_wp2_with fail
    have X0 : Hid (Lx (w.alloc (.cells #[.string s, .int .i64 0, .slice none 0 0] 77)) w.heap.size w.heap.size s 0 (.slice none 0 0) []) := ⟨Blk.new w 77 _, World.ownsRow_nil ..⟩
    generalize hW : w.alloc (.cells #[.string s, .int .i64 0, .slice none 0 0] 77) = wz at *
    have TZ : Hid (Tch No w wz) := by rw [← hW]; exact (Tch.refl No w).alloc _
    clear hW
    generalize hg : w.heap.size = g at *
    go_loopw [5] (fun _ wr => ∃ (p : Nat) (ts : List Tk) (v : Value) (f : Nat), p ≤ s.size ∧ ts.length ≤ p ∧ Lx wr g g s p v ts ∧ Tch No w wr ∧ lexF f s.data.toList p ts = R ∧ s.size + 1 ≤ f + p) (fun _ wr => mAt s g wr)
    case atStart => exact ⟨0, [], _, s.size + 1, by omega, by simp, X0.out, TZ.out, HR0.out, by omega⟩
    case round =>
      obtain ⟨p, ts, v, f, hp, hts, hx, ht, hf, hfp⟩ := hrel
      obtain ⟨x0, x1, x2⟩ := cells3 hx.blk
      have hm := mAt_of (s := s) x1
      have HM := Lib.hid hm
      have X := Lib.hid hx
      have T := Lib.hid ht
      have HF := Lib.hid hf
      have hgw : g ≤ wr.heap.size := by rw [← hg]; exact ht.size
      clear hm hx ht hf
      by_cases hlt : p < s.size
      · obtain ⟨f, rfl⟩ : ∃ f', f = f' + 1 := ⟨f - 1, by omega⟩
        have hlt2 : (p : Int) < (s.size : Int) := by omega
        have HST : Hid ((if (stepR s.data.toList p).1 = true then lexF f s.data.toList (stepR s.data.toList p).2.2 (ts ++ (stepR s.data.toList p).2.1) else none) = R) := by
          have := HF.out
          unfold lexF at this
          rw [if_pos (by rw [HLS.out]; exact hlt)] at this
          exact this
        have NX : Hid ((stepR s.data.toList p).1 = true → p < (stepR s.data.toList p).2.2 ∧ (stepR s.data.toList p).2.2 ≤ s.size ∧ (stepR s.data.toList p).2.1.length ≤ 1) := fun h => by
          have := step_nx s.data.toList p (by rw [HLS.out]; exact hlt) h
          rw [HLS.out] at this
          exact this
        have NC : Hid (Calls Try.prog 49 #[.pointer (some ⟨g, 0, none⟩)] wr (NextS (stepR s.data.toList p) g g v s p ts wr)) := next_c g g v s p ts wr X.out hgw (by omega) hlt hs2
        generalize stepR s.data.toList p = r at *
        go_wp2_with fail
        refine NC.out.mono ?_
        rintro e w2 ⟨n1, n2⟩
        cases hr : r.1
        · obtain ⟨u, v2, rfl, ⟨a, rfl⟩, lv⟩ := n2 hr
          have HN : Hid (R = none ∧ Tch No w w2) := ⟨by rw [← HST.out, hr]; rfl, T.out.trans lv.tch (fun i hi => by
            rcases hi with hi | hi
            · exact .inr (by omega)
            · exact .inr (by have := own_base X.out.own i hi; omega))⟩
          clear n1 n2 lv hr
          go_wp2
          go_returns
          exact ⟨fun ts h => (by rw [HN.out.1] at h; cases h), fun _ => ⟨_, rfl, ⟨_, rfl⟩, HN.out.2⟩⟩
        · obtain ⟨v2, rfl, lv⟩ := n1 hr
          have hnx := NX.out hr
          have HL := Lib.hid lv
          have HS2 : Hid (lexF f s.data.toList r.2.2 (ts ++ r.2.1) = R) := by show _ = _; rw [← HST.out, if_pos hr]
          have HT2 : Hid (Tch No w w2) := T.out.trans lv.tch (fun i hi => by
            rcases hi with hi | hi
            · exact .inr (by omega)
            · exact .inr (by have := own_base X.out.own i hi; omega))
          have HM2 := Lib.hid (mAt_of (s := s) (cells3 lv.lx.blk).2.1)
          clear n1 n2 lv hr
          go_wp2
          exact ⟨⟨r.2.2, ts ++ r.2.1, v2, f, hnx.2.1, by rw [List.length_append]; omega, HL.out.lx, HT2.out, HS2.out, by omega⟩, by rw [HM.out, HM2.out]; omega⟩
      · have hps : p = s.size := by omega
        obtain ⟨f, rfl⟩ : ∃ f', f = f' + 1 := ⟨f - 1, by omega⟩
        have HE : Hid (some (ts ++ [⟨5, [], 0, p⟩]) = R) := by
          have := HF.out
          unfold lexF at this
          rw [if_neg (by rw [HLS.out]; exact hlt)] at this
          exact this
        have hlt2 : ¬ ((p : Int) < (s.size : Int)) := by omega
        clear hps
        go_wp2_with fail
        refine (lput_c g g v s p p ts 5 0 0 [] wr X.out hgw (by omega)).mono ?_
        rintro e w2 ⟨v2, rfl, lv⟩
        have HL := Lib.hid lv
        have HT2 : Hid (Tch No w w2) := T.out.trans lv.tch (fun i hi => by
            rcases hi with hi | hi
            · exact .inr (by omega)
            · exact .inr (by have := own_base X.out.own i hi; omega))
        obtain ⟨y0, y1, y2⟩ := cells3 lv.lx.blk
        obtain ⟨A2, k2, rfl⟩ := lv.lx.form
        clear lv x0 x1 x2
        go_wp2
        go_returns
        refine ⟨fun ts2 h => ⟨_, rfl, ?_, HT2.out, ?_⟩, fun h => (by rw [← HE.out] at h; cases h)⟩
        · rw [← HE.out] at h
          injection h with h
          subst h
          rw [hg]
          have h9 := HL.out.lx.own
          rw [show (ts ++ [(⟨5, [], 0, p⟩ : Tk)]).length = ts.length + 1 by simp] at h9 ⊢
          exact h9
        · rw [← HE.out] at h
          injection h with h
          subst h
          rw [List.length_append]
          simp
          omega
end Go.Proofs.Ytmoiehbhhplckaa
