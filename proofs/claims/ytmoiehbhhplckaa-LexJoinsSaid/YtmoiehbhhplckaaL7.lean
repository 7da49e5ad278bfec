/- The lexer: next. Conditions: the lexer is one block. -/
import Derived.Test.YtmoiehbhhplckaaProg
import Derived.Test.YtmoiehbhhplckaaL6
import Derived.Tactics
import Derived.Tactics2
import Derived.WalkKit
import Derived.WalkSpells
import Derived.WalkLawsBesides
import Derived.StillTactics
import Derived.StillTailTactics
import Derived.OwnWalk
import Derived.Laws.Pointers
import Derived.Laws.ResultCell
import Derived.Deep.RegionHeld3
import Derived.Deep.RegionWith
import Derived.Deep.RegionLaw
import Derived.Deep.AppendLies
import Derived.Deep.QuietTactic
import Derived.BigQuiet
import Derived.LoopTactic
import Derived.Deep.LoopGhost
import Derived.Deep.DeepCutAuto
import Derived.Deep.DeepFit
import Derived.Maps.AppendAt
import Derived.Below
import Derived.Lib.Hide
import Derived.Handy
import Derived.KernelRfl
import Derived.IntWalk
import Derived.Laws.AppendOwnNone
import Derived.Laws.IdiomStrings
namespace Go.Proofs.Ytmoiehbhhplckaa
set_option linter.unusedVariables false
set_option linter.unusedSimpArgs false
open Go.RowKit

def blankL : List UInt8 := [32, 9, 10, 13]
def stepR (L : List UInt8) (p : Nat) : Bool × List Tk × Nat :=
  if 0 ≤ Lib.indexByte blankL (cAt L p) then (true, [], p + 1)
  else if isL (cAt L p) = true then ((namedR L p).ok, [(namedR L p).t], (namedR L p).nx)
  else if isG (cAt L p) = true then ((numR L p).ok, [(numR L p).t], (numR L p).nx)
  else if cAt L p = 34 then ((quotR L p).ok, [(quotR L p).t], (quotR L p).nx)
  else ((signR L p).ok, [(signR L p).t], (signR L p).nx)
def NextS (r : Bool × List Tk × Nat) (g b : Nat) (v : Value) (s : ByteArray) (p : Nat) (l : List Tk) (w : World) (e : Ending) (w' : World) : Prop :=
  (r.1 = true → ∃ v', e = .returned .nilIface ∧ Lv g b v s r.2.2 (l ++ r.2.1) w v' w') ∧ (r.1 = false → ∃ u v', e = .returned u ∧ IsErr u ∧ Lv g b v s p l w v' w')
theorem NextP.to {r : LexR} {g b p : Nat} {v : Value} {s : ByteArray} {l : List Tk} {w w0 w' : World} {e : Ending} (h : NextP r g b v s p l w0 e w') (k : Tch No w w0) : NextS (r.ok, [r.t], r.nx) g b v s p l w e w' :=
  ⟨fun hr => (h.1 hr).imp fun v' ⟨a, b⟩ => ⟨a, b.no k⟩, fun hr => (h.2 hr).imp fun u ⟨v', a, b, c⟩ => ⟨v', a, b, c.no k⟩⟩
theorem NextS.ret {r : Bool × List Tk × Nat} {g b p : Nat} {v : Value} {s : ByteArray} {l : List Tk} {w w' : World} {e : Ending} (h : NextS r g b v s p l w e w') : ∃ u, e = .returned u := by
  cases hr : r.1
  · obtain ⟨u, _, h, _⟩ := h.2 hr; exact ⟨u, h⟩
  · obtain ⟨_, h, _⟩ := h.1 hr; exact ⟨_, h⟩
set_option maxHeartbeats 1600000 in
set_option maxRecDepth 100000 in
theorem next_c (g b : Nat) (v : Value) (s : ByteArray) (p : Nat) (l : List Tk) (w : World) (h : Lx w g b s p v l) (hb : b ≤ w.heap.size) (hl : l.length ≤ 1000000) (hp : p < s.size) (hs : s.size ≤ 4096) :
    Calls Try.prog 49 #[.pointer (some ⟨g, 0, none⟩)] w (NextS (stepR s.data.toList p) g b v s p l w) := by
  obtain ⟨c0, c1, c2⟩ := cells3 h.blk
  have fz := h.blk.frozen
  have H := Lib.hid h
  clear h
  have hp1 : (p : Int) < (s.size : Int) := by omega
  have hp3 : (0 : Int) ≤ (p : Int) := by omega
  have hwp1 : IntKind.i64.wrap ((p : Int) + 1) = (p : Int) + 1 := IntWalk.i64_in _ (by omega)
  have Q1 : Hid ((p : Int) + 1 = ((p + 1 : Nat) : Int)) := by show _ = _; omega
  have hca : cAt s.data.toList p = s[p] := by unfold cAt; rw [byte_at s p hp]; rfl
  have HB : Hid (∀ w, Calls Try.prog 47 #[.string ⟨blankL.toArray⟩, .int .u8 s[p].toNat] w fun e w' => e = .returned (.int .i64 (Lib.indexByte blankL s[p])) ∧ w' = w) := fun w => by
    have := Try.strings_IndexByte ⟨blankL.toArray⟩ s[p].toNat w
    simpa using this
  have C1 : Hid (∀ w0, Tch No w w0 → Calls Try.prog 67 #[.pointer (some ⟨g, 0, none⟩)] w0 (NextS ((namedR s.data.toList p).ok, [(namedR s.data.toList p).t], (namedR s.data.toList p).nx) g b v s p l w)) := fun w0 t => (named_c g b v s p l w0 (H.out.tch t) (Nat.le_trans hb t.size) hl (Nat.le_of_lt hp) hs).mono fun e w' h => h.to t
  have C2 : Hid (∀ w0, Tch No w w0 → Calls Try.prog 68 #[.pointer (some ⟨g, 0, none⟩)] w0 (NextS ((numR s.data.toList p).ok, [(numR s.data.toList p).t], (numR s.data.toList p).nx) g b v s p l w)) := fun w0 t => (numbered_c g b v s p l w0 (H.out.tch t) (Nat.le_trans hb t.size) hl (Nat.le_of_lt hp) hs).mono fun e w' h => h.to t
  have C3 : Hid (∀ w0, Tch No w w0 → Calls Try.prog 69 #[.pointer (some ⟨g, 0, none⟩)] w0 (NextS ((quotR s.data.toList p).ok, [(quotR s.data.toList p).t], (quotR s.data.toList p).nx) g b v s p l w)) := fun w0 t => (quoted_c g b v s p l w0 (H.out.tch t) (Nat.le_trans hb t.size) hl hp hs).mono fun e w' h => h.to t
  have C4 : Hid (∀ w0, Tch No w w0 → Calls Try.prog 70 #[.pointer (some ⟨g, 0, none⟩)] w0 (NextS ((signR s.data.toList p).ok, [(signR s.data.toList p).t], (signR s.data.toList p).nx) g b v s p l w)) := fun w0 t => (signed_c g b v s p l w0 (H.out.tch t) (Nat.le_trans hb t.size) hl hp hs).mono fun e w' h => h.to t
  have HR : stepR s.data.toList p = if 0 ≤ Lib.indexByte blankL s[p] then (true, [], p + 1)
    else if isL s[p] = true then ((namedR s.data.toList p).ok, [(namedR s.data.toList p).t], (namedR s.data.toList p).nx)
    else if isG s[p] = true then ((numR s.data.toList p).ok, [(numR s.data.toList p).t], (numR s.data.toList p).nx)
    else if s[p] = 34 then ((quotR s.data.toList p).ok, [(quotR s.data.toList p).t], (quotR s.data.toList p).nx)
    else ((signR s.data.toList p).ok, [(signR s.data.toList p).t], (signR s.data.toList p).nx) := by unfold stepR; rw [hca]
  clear hca
  generalize ((namedR s.data.toList p).ok, [(namedR s.data.toList p).t], (namedR s.data.toList p).nx) = r1 at *
  generalize ((numR s.data.toList p).ok, [(numR s.data.toList p).t], (numR s.data.toList p).nx) = r2 at *
  generalize ((quotR s.data.toList p).ok, [(quotR s.data.toList p).t], (quotR s.data.toList p).nx) = r3 at *
  generalize ((signR s.data.toList p).ok, [(signR s.data.toList p).t], (signR s.data.toList p).nx) = r4 at *
  generalize stepR s.data.toList p = r at *
  have L1 := Lib.hid (letter_c s[p])
  have L2 := Lib.hid (digit_c s[p])
  generalize hix : Lib.indexByte blankL s[p] = ix at *
  have HIX := Lib.hid hix
  clear hix
  rcases (by omega : 0 ≤ ix ∨ ix < 0) with hx | hx
  · rw [if_pos hx] at HR
    have HRR := Lib.hid HR
    clear HR
    go_enter Try.func49, Try.ntmps49
    go_wp2_with fail
    go_quiet (fail)
    go_wp2_with fail
    refine (HB.out _).mono ?_
    rintro e w1 ⟨rfl, rfl⟩
    go_wp2
    go_returns
    rw [HRR.out]
    refine ⟨fun _ => ⟨v, rfl, ?_⟩, fun h => (by cases h)⟩
    rw [Q1.out]
    simp only [List.append_nil]
    have t9 : Tch (fun k => k = g) w (w.setCell ⟨g, 1, none⟩ (.int .i64 ((p + 1 : Nat) : Int))) := (Tch.refl (fun k => k = g) w).set_ (p := ⟨g, 1, none⟩) (.inl rfl) _
    exact ⟨⟨H.out.blk.set_ 1 _, t9.own H.out.own (fun k hk e => H.out.apart (by rw [hk, e]))⟩, (((Tch.refl (Foot g v) w).drewN _).set_ (p := ⟨g, 1, none⟩) (.inl (.inl rfl)) _), fun k hk => .inl hk⟩
  · rw [if_neg (by omega)] at HR
    cases h1 : isL s[p]
    · have H1 := Lib.hid h1
      rw [h1, if_neg (by decide)] at HR
      clear h1
      cases h2 : isG s[p]
      · have H2 := Lib.hid h2
        rw [h2, if_neg (by decide)] at HR
        clear h2
        by_cases h3 : s[p].toNat = 34
        · have h34 : s[p] = 34 := UInt8.toNat_inj.1 h3
          have hbq : ((s[p].toNat : Int) == 34) = true := by simp [h3]
          rw [if_pos h34] at HR
          have HRR := Lib.hid HR
          clear HR h34 h3
          go_enter Try.func49, Try.ntmps49
          go_wp2_with fail
          go_quiet (fail)
          go_wp2_with fail
          refine (HB.out _).mono ?_
          rintro e w1 ⟨rfl, rfl⟩
          go_wp2_with fail
          refine (L1.out _).mono ?_
          rintro e w1 ⟨rfl, rfl⟩
          rw [H1.out]
          go_wp2_with fail
          refine (L2.out _).mono ?_
          rintro e w1 ⟨rfl, rfl⟩
          rw [H2.out]
          go_wp2_with fail
          refine (C3.out _ ((Tch.refl No w).drewN _)).mono ?_
          rintro e w1 hN
          obtain ⟨u, rfl⟩ := hN.ret
          have HN := Lib.hid hN
          clear hN
          go_wp2
          go_returns
          rw [HRR.out]
          exact HN.out
        · have h34 : ¬ s[p] = 34 := fun e => h3 (by rw [e]; rfl)
          have hbq : ((s[p].toNat : Int) == 34) = false := by simp; omega
          rw [if_neg h34] at HR
          have HRR := Lib.hid HR
          clear HR h34 h3
          go_enter Try.func49, Try.ntmps49
          go_wp2_with fail
          go_quiet (fail)
          go_wp2_with fail
          refine (HB.out _).mono ?_
          rintro e w1 ⟨rfl, rfl⟩
          go_wp2_with fail
          refine (L1.out _).mono ?_
          rintro e w1 ⟨rfl, rfl⟩
          rw [H1.out]
          go_wp2_with fail
          refine (L2.out _).mono ?_
          rintro e w1 ⟨rfl, rfl⟩
          rw [H2.out]
          go_wp2_with fail
          refine (C4.out _ ((Tch.refl No w).drewN _)).mono ?_
          rintro e w1 hN
          obtain ⟨u, rfl⟩ := hN.ret
          have HN := Lib.hid hN
          clear hN
          go_wp2
          go_returns
          rw [HRR.out]
          exact HN.out
      · have H2 := Lib.hid h2
        rw [h2, if_pos rfl] at HR
        have HRR := Lib.hid HR
        clear HR h2
        go_enter Try.func49, Try.ntmps49
        go_wp2_with fail
        go_quiet (fail)
        go_wp2_with fail
        refine (HB.out _).mono ?_
        rintro e w1 ⟨rfl, rfl⟩
        go_wp2_with fail
        refine (L1.out _).mono ?_
        rintro e w1 ⟨rfl, rfl⟩
        rw [H1.out]
        go_wp2_with fail
        refine (L2.out _).mono ?_
        rintro e w1 ⟨rfl, rfl⟩
        rw [H2.out]
        go_wp2_with fail
        refine (C2.out _ ((Tch.refl No w).drewN _)).mono ?_
        rintro e w1 hN
        obtain ⟨u, rfl⟩ := hN.ret
        have HN := Lib.hid hN
        clear hN
        go_wp2
        go_returns
        rw [HRR.out]
        exact HN.out
    · have H1 := Lib.hid h1
      rw [h1, if_pos rfl] at HR
      have HRR := Lib.hid HR
      clear HR h1
      go_enter Try.func49, Try.ntmps49
      go_wp2_with fail
      go_quiet (fail)
      go_wp2_with fail
      refine (HB.out _).mono ?_
      rintro e w1 ⟨rfl, rfl⟩
      go_wp2_with fail
      refine (L1.out _).mono ?_
      rintro e w1 ⟨rfl, rfl⟩
      rw [H1.out]
      go_wp2_with fail
      refine (C1.out _ ((Tch.refl No w).drewN _)).mono ?_
      rintro e w1 hN
      obtain ⟨u, rfl⟩ := hN.ret
      have HN := Lib.hid hN
      clear hN
      go_wp2
      go_returns
      rw [HRR.out]
      exact HN.out
end Go.Proofs.Ytmoiehbhhplckaa
