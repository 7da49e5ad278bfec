/- Record. Conditions: the numbers fit. -/
import Derived.Test.YtmoiehbhhplckaaProg
import Derived.Test.YtmoiehbhhplckaaV2
import Derived.Lib.Join
import Derived.Tactics
import Derived.Tactics2
import Derived.WalkKit
import Derived.WalkSpells
import Derived.WalkLawsBesides
import Derived.StillTactics
import Derived.StillTailTactics
import Derived.OwnWalk
import Derived.Laws.Pointers
import Derived.Laws.ResultCell
import Derived.Deep.RegionHeld3
import Derived.Deep.RegionWith
import Derived.Deep.RegionLaw
import Derived.Deep.AppendLies
import Derived.Deep.QuietTactic
import Derived.BigQuiet
import Derived.LoopTactic
import Derived.Deep.LoopGhost
import Derived.Deep.DeepCutAuto
import Derived.Deep.DeepFit
import Derived.Maps.AppendAt
import Derived.Below
import Derived.Lib.Hide
import Derived.Handy
import Derived.KernelRfl
import Derived.IntWalk
import Derived.Laws.AppendOwnNone
import Derived.Laws.IdiomStrings
namespace Go.Proofs.Ytmoiehbhhplckaa
set_option linter.unusedVariables false
set_option linter.unusedSimpArgs false
open Go.RowKit

theorem Try.info9 : (Try.prog.info? 9).map (fun i => (i.zero, i.size, i.bytes)) = some (some (.string ByteArray.empty), 1, 16) := by kernel_rfl
def strs (l : List (List UInt8)) : List Value := l.map fun x => Value.string ⟨x.toArray⟩
theorem strs_length (l : List (List UInt8)) : (strs l).length = l.length := by simp [strs]
theorem strs_snoc (l : List (List UInt8)) (x : List UInt8) : strs (l ++ [x]) = strs l ++ [.string ⟨x.toArray⟩] := by simp [strs]
def sepV : List UInt8 := [59, 32]
def recL (c : Int) (l : List Vd) : List UInt8 := decL c ++ l.flatMap fun v => sepV ++ verL v
theorem join_rec (c : Int) (l : List Vd) : Lib.join (decL c :: l.map verL) sepV = recL c l := by
  rw [Lib.join_cons]
  unfold recL Lib.joinTail
  congr 1
  rw [List.flatMap_def, List.map_map]
  rfl
theorem rec_len (c : Int) (l : List Vd) (hc : Fit c) (hl : ∀ v ∈ l, VFit v) : (recL c l).length ≤ 20 + 64 * l.length := by
  have h1 := dec_len hc
  have h2 : (l.flatMap fun v => sepV ++ verL v).length ≤ 64 * l.length := by
    induction l with
    | nil => simp
    | cons v l ih =>
      have a1 := ver_len (hl v (by simp))
      have a2 := ih (fun x hx => hl x (by simp [hx]))
      rw [List.flatMap_cons]
      have : sepV.length = 2 := rfl
      simp only [List.length_append, List.length_cons]
      omega
  unfold recL
  rw [List.length_append]
  omega
theorem rd_v {w : World} {S : Nat → Prop} {A : Option Addr} {n : Nat} {l : List Vd} (hr : Rd w S 3 A n (l.flatMap vcells)) (i : Nat) (hi : i < n) :
    ∃ g off x, A = some ⟨g, off, none⟩ ∧ l[i]? = some x ∧ g < w.heap.size ∧ w.cell? ⟨g, off + i * 3, none⟩ = some (.int .i64 x.id) ∧ w.cell? ⟨g, off + i * 3 + 1, none⟩ = some (.int .i64 x.kind) ∧ w.cell? ⟨g, off + i * 3 + 2, none⟩ = some (.int .i64 x.code) := by
  have hn : l.length = n := by have := hr.1; rw [flat_length vcells_length] at this; omega
  obtain ⟨g, off, hA, hg, hlt, hc⟩ := hr.2 (by omega)
  have hx : l[i]? = some l[i] := List.getElem?_eq_getElem (by omega)
  refine ⟨g, off, l[i], hA, hx, hlt, ?_, ?_, ?_⟩
  · exact hc (i * 3 + 0) _ (by rw [flat_get vcells_length l i 0 (by omega) _ hx]; rfl)
  · exact hc (i * 3 + 1) _ (by rw [flat_get vcells_length l i 1 (by omega) _ hx]; rfl)
  · exact hc (i * 3 + 2) _ (by rw [flat_get vcells_length l i 2 (by omega) _ hx]; rfl)
theorem own_str1 (w : World) (B : Nat) (hB : B ≤ w.heap.size) (x : List UInt8) : (w.alloc (.cells #[.string ⟨x.toArray⟩] 9)).ownsRow B 9 1 (.slice (some ⟨w.heap.size, 0, none⟩) 1 1) 1 (strs [x]) :=
  ⟨rfl, .inr ⟨w.heap.size, 1, _, rfl, hB, Blk.new w 9 _, by omega, by unfold maxLen; omega, rfl, rfl⟩⟩
theorem take_snoc {α : Type} {l : List α} {i : Nat} {x : α} (h : l[i]? = some x) : l.take (i + 1) = l.take i ++ [x] := by
  rw [List.take_add_one, h]; rfl
theorem str_new (w : World) (x : Value) : ∀ j u, ([x] : List Value)[j]? = some u → (w.alloc (.cells #[x] 9)).cell? ((⟨w.heap.size, 0, none⟩ : Addr).add j) = some u := by
  intro j u hu
  rw [addr_add, (Blk.new w 9 #[x]).cell j]
  simpa using hu
theorem strs_one (l : List (List UInt8)) : ∀ u ∈ strs l, u.oneCell' = true := by
  intro u hu
  unfold strs at hu
  obtain ⟨x, _, rfl⟩ := List.mem_map.1 hu
  rfl
theorem grown_no {w w1 w2 : World} {v : Value} (h : w1.grownBy w2 v.ownBlock) (t : Tch No w w1) (hv : ∀ k, v.ownBlock = some k → w.heap.size ≤ k) : Tch No w w2 :=
  t.trans (Tch.of_grown (S := fun k => v.ownBlock = some k) h (fun k hk => .inl hk)) (fun i hi => .inr (hv i hi))
theorem join_c {w : World} {base n : Nat} {v : Value} {L : List (List UInt8)} (h : w.ownsRow base 9 1 v n (strs L)) (hn : 0 < n) (hN : n ≤ 140737488355328) (sep : List UInt8) (hl : (Lib.join L sep).length ≤ 140737488355328) :
    Calls Try.prog 53 #[v, .string ⟨sep.toArray⟩] w (Str1 (Lib.join L sep) w) := by
  have hL : L.length = n := by have := h.1; rw [strs_length] at this; omega
  have h' := h
  rcases h.2 with ⟨h0, h1⟩ | ⟨g, cap, cur, hv, hg, hh, hn1, hn2, r⟩
  · omega
  subst hv
  have e : (L.map fun x => (⟨x.toArray⟩ : ByteArray)).map (fun b => b.data.toList) = L := by
    rw [List.map_map]
    conv => rhs; rw [← List.map_id L]
    rfl
  have key := Try.strings_Join g 0 cap (L.map fun x => (⟨x.toArray⟩ : ByteArray)) ⟨sep.toArray⟩ w (fun j x hx => by
      rw [Nat.zero_add]
      refine own_cell h' j _ ?_
      rw [List.getElem?_map] at hx
      unfold strs
      rw [List.getElem?_map]
      cases hj : L[j]? with
      | none => rw [hj] at hx; cases hx
      | some y => rw [hj] at hx; simp at hx; subst hx; rfl) (Array.getElem?_eq_some_iff.1 hh).1 (by rw [List.length_map]; omega) (by rw [List.length_map]; omega) (by rw [e]; exact hl)
  rw [e, List.length_map, hL] at key
  exact key.mono fun e' w' ⟨he, hb⟩ => ⟨he, Tch.of_below hb⟩
theorem rec_snoc {w : World} {b k : Nat} {v : Value} {D X : List UInt8} {L : List (List UInt8)} (h : w.ownsRow b 9 1 v (k + 1 + 1) (strs (D :: L) ++ strs [X])) : w.ownsRow b 9 1 v (k + 1 + 1) (strs (D :: (L ++ [X]))) := by
  have e : strs (D :: (L ++ [X])) = strs (D :: L) ++ strs [X] := by simp [strs]
  rw [e]; exact h
set_option maxHeartbeats 4000000 in
set_option maxRecDepth 100000 in
theorem record_c (rc : Int) (A : Option Addr) (n c : Nat) (l : List Vd) (w : World) (hr : Rd w No 3 A n (l.flatMap vcells)) (hn : n ≤ 1048576) (hrc : Fit rc) (hl : ∀ v ∈ l, VFit v) :
    Calls Try.prog 33 #[.agg #[.int .i64 rc, .slice A n c]] w (Str1 (recL rc l) w) := by
  obtain ⟨i0, hi0, hz0, hz1, hz2⟩ := info_parts Try.info9
  have hln : l.length = n := by have := hr.1; rw [flat_length vcells_length] at this; omega
  have HR := Lib.hid hr
  have HL := Lib.hid hl
  have HN := Lib.hid hln
  have hlen := rec_len rc l hrc hl
  have HLEN := Lib.hid hlen
  have DC := Lib.hid (fun w => num_c rc w hrc)
  have HJ := Lib.hid (join_rec rc l)
  generalize hwb : w.alloc (.cells #[.int .i64 rc, .slice A n c] 43) = wb
  have BX : Hid (Blk wb w.heap.size 43 #[.int .i64 rc, .slice A n c]) := by subst hwb; exact Blk.new w 43 _
  have TB : Hid (Tch No w wb) := by subst hwb; exact (Tch.refl No w).alloc _
  obtain ⟨b0, b1⟩ := cells2 BX.out
  clear hr hl hln hlen hrc
  go_enter Try.func33, Try.ntmps33
  go_wp2_with (go_at_call 52; refine (DC.out _).mono ?_; rintro e w2 ⟨rfl, t2⟩; obtain ⟨c0, c1⟩ := cells2 (t2.blk BX.out (fun f => f)); have T2 := Lib.hid t2; have BX2 := Lib.hid (t2.blk BX.out (fun f => f)); have bne := Blk.lt (t2.blk BX.out (fun f => f)); clear t2)
  have hbase : w.heap.size ≤ w2.heap.size := by omega
  have T0 : Hid (Tch No w (w2.alloc (.cells #[.string ⟨(decL rc).toArray⟩] 9))) := (TB.out.and T2.out).alloc _
  have O0 : Hid ((w2.alloc (.cells #[.string ⟨(decL rc).toArray⟩] 9)).ownsRow w.heap.size 9 1 (.slice (some ⟨w2.heap.size, 0, none⟩) 1 1) 1 (strs [decL rc])) := own_str1 w2 w.heap.size hbase (decL rc)
  generalize decL rc = D at *
  generalize hw3 : w2.alloc (.cells #[.string ⟨D.toArray⟩] 9) = w3 at *
  clear c0 c1 b0 b1 hwb BX2 bne
  go_loopw [3, 13] (fun lv iv wr => ∃ k : Nat, k ≤ n ∧ iv = .int .i64 k ∧ wr.ownsRow w.heap.size 9 1 lv (k + 1) (strs (D :: (l.take k).map verL)) ∧ Tch No w wr) (fun _ iv _ => n - (intOf iv).toNat)
  case atStart => exact ⟨0, Nat.zero_le _, rfl, O0.out, T0.out⟩
  case round =>
    obtain ⟨k, hk, rfl, ho, ht⟩ := hrel
    have HO := Lib.hid ho
    have HT := Lib.hid ht
    have hsz := ht.size
    clear ho ht
    by_cases hlt : k < n
    · obtain ⟨g, off, x, hA, hx, hlt2, x0, x1, x2⟩ := rd_v (HR.out.tch HT.out) k hlt
      subst hA
      have hki : (k : Int) < (n : Int) := by omega
      have VC := Lib.hid (fun w => overdict_c x w (HL.out x (List.mem_of_getElem? hx)))
      have HTK : Hid ((l.take (k + 1)).map verL = (l.take k).map verL ++ [verL x]) := by rw [take_snoc hx, List.map_append]; exact rfl
      have hk1 : (k + 1) + 1 ≤ maxLen := by unfold maxLen; omega
      have hk2 : (k + 1 + 1) * 16 ≤ 140737488355328 := by omega
      clear hx
      unfold vagg at VC
      generalize verL x = X at *
      go_wp2_with first
        | (at_builtin; go_must (refine wpList_append_own_at _ rfl (.tmp 17) (.tmp 20) _ rfl w.heap.size 9 i0 _ 1 16 Try.underlying57 hi0 hz0 hz1 hz2 rfl (by decide) u3 (k + 1) _ rfl (O5.out.alloc _) ⟨w5.heap.size, 0, none⟩ 1 1 (strs [X]) rfl rfl (str_new w5 _) (strs_one [X]) hk1 hk2 (le_alloc hs5 _) ?_); intro v6 w6 ho6 hg6 hn6 ha6; have T6 := Lib.hid (grown_no hg6 (T5.out.alloc _) (own_base O5.out)); have O6 := Lib.hid ho6; clear ho6 hg6 hn6 ha6)
        | (go_at_call 32; refine (VC.out _).mono ?_; rintro e w5 ⟨rfl, t5⟩; have T5 := Lib.hid ((HT.out.alloc _).and t5); have O5 := Lib.hid (t5.own (HO.out.alloc _) (fun _ _ f => f)); have hs5 := T5.out.size; clear t5)
      refine ⟨⟨k + 1, by omega, by simp, ?_, T6.out⟩, by simp [intOf]; omega⟩
      have h6 := O6.out
      rw [HTK.out]
      exact rec_snoc h6
    · have hkn : k = n := by omega
      subst hkn
      have hki : ¬ ((k : Int) < (k : Int)) := by omega
      have hall : Hid ((l.take k).map verL = l.map verL) := by rw [List.take_of_length_le (by rw [HN.out]; exact Nat.le_refl _)]; exact rfl
      rw [hall.out] at HO
      have JC := Lib.hid (join_c HO.out (by omega) (by omega) sepV (by have h1 := HJ.out; rw [h1]; have h2 := HLEN.out; have h3 := HN.out; omega))
      rw [HJ.out] at JC
      go_wp2_with (go_at_call 53; go_must (refine JC.out.mono ?_); rintro e w7 ⟨rfl, t7⟩; have T7 := Lib.hid (HT.out.and t7); clear t7)
      go_returns
      exact ⟨rfl, T7.out⟩
end Go.Proofs.Ytmoiehbhhplckaa
