/- Contracts. -/
import Derived.Test.YtppbgkadpomblaaProg
import Derived.Test.YtppbgkadpomblaaA2
import Derived.Tactics
import Derived.Tactics2
import Derived.WalkKit
import Derived.WalkSpells
import Derived.WalkLawsBesides
import Derived.StillTactics
import Derived.StillTailTactics
import Derived.OwnWalk
import Derived.Laws.Pointers
import Derived.Laws.ResultCell
import Derived.Deep.RegionHeld3
import Derived.Deep.RegionWith
import Derived.Deep.RegionLaw
import Derived.Deep.AppendLies
import Derived.Deep.QuietTactic
import Derived.BigQuiet
import Derived.LoopTactic
import Derived.Deep.LoopGhost
import Derived.Deep.DeepCutAuto
import Derived.Deep.DeepFit
import Derived.Maps.AppendAt
import Derived.Below
import Derived.Lib.Hide
import Derived.Handy
import Derived.KernelRfl
import Derived.IntWalk
namespace Go.Proofs.Ytppbgkadpomblaa
set_option linter.unusedVariables false
set_option linter.unusedSimpArgs false
open Go.RowKit

/-! ## cells stored in a row -/
theorem blk_cells {a : Nat} {t : TypeId} (vs : List Value) : ∀ (o : Nat) (w : World) (cur : Array Value), Blk w a t cur → o + vs.length ≤ cur.size →
    ∃ cur' : Array Value, Blk (w.setCells a o vs) a t cur' ∧ cur'.size = cur.size ∧ (∀ i, i < o → cur'[i]? = cur[i]?) ∧ (∀ j u, vs[j]? = some u → cur'[o + j]? = some u) := by
  induction vs with
  | nil => intro o w cur h _; exact ⟨cur, h, rfl, fun _ _ => rfl, fun j u hu => by simp at hu⟩
  | cons v vs ih =>
    intro o w cur h hs
    simp only [List.length_cons] at hs
    obtain ⟨cur', h1, h2, h3, h4⟩ := ih (o + 1) (w.setCell ⟨a, o, none⟩ v) _ (h.set_ o v) (by simp; omega)
    refine ⟨cur', h1, by rw [h2]; simp, fun i hi => ?_, fun j u hu => ?_⟩
    · rw [h3 i (by omega), Array.getElem?_setIfInBounds, if_neg (by omega)]
    · cases j with
      | zero =>
        simp at hu
        subst hu
        rw [Nat.add_zero, h3 o (by omega), Array.getElem?_setIfInBounds, if_pos rfl, if_pos (by omega)]
      | succ j =>
        simp at hu
        have := h4 j u hu
        rw [show o + (j + 1) = o + 1 + j by omega]
        exact this
theorem tch_cells {S : Nat → Prop} {a : Nat} (ha : S a) (vs : List Value) : ∀ (o : Nat) (w0 w : World), Tch S w0 w → Tch S w0 (w.setCells a o vs) := by
  induction vs with
  | nil => intro o w0 w h; exact h
  | cons v vs ih => intro o w0 w h; exact ih (o + 1) w0 _ (h.set_ (p := ⟨a, o, none⟩) (.inl ha) v)
def zs2 (n : Nat) : List Value := (Builtin.zeroCells #[.int .i64 0, .int .i64 0] n).toList
theorem zs2_length (n : Nat) : (zs2 n).length = n * 2 := by unfold zs2 Builtin.zeroCells; simp
theorem zs2_one (n : Nat) : ∀ u ∈ zs2 n, u.oneCell' = true := by
  intro u hu
  unfold zs2 Builtin.zeroCells at hu
  simp at hu
  obtain ⟨i, _, rfl⟩ := hu
  rcases (by omega : i % 2 = 0 ∨ i % 2 = 1) with h | h <;> rw [h] <;> rfl
theorem zero30 (w : World) : (zeroValue 30).run Try.prog w = .ok (.agg #[.int .i64 0, .int .i64 0]) w := by kernel_rfl
theorem run_clear2 (w : World) (ty : TypeId) (a o n c : Nat) (hn : 0 < n) (hc : ∀ j, j < n * 2 → (w.cell? ⟨a, o + j, none⟩).isSome = true) (hf : ∀ j, j < n * 2 → w.frozen? ⟨a, o + j, none⟩ = false) :
    (Builtin.clear_ #[24] ty #[.slice (some ⟨a, o, none⟩) n c]).run Try.prog w = .ok (.tuple #[]) (w.setCells a o (zs2 n)) := by
  have hst := run_storeCells_cells (P := Try.prog) a o (zs2 n) 0 w (by rw [zs2_length]; simpa using hc) (by rw [zs2_length]; simpa using hf) (zs2_one n)
  simp only [Nat.add_zero] at hst
  obtain ⟨m, rfl⟩ : ∃ m, n = m + 1 := ⟨n - 1, by omega⟩
  have e : (Builtin.zeroCells (Value.agg #[.int .i64 0, .int .i64 0]).cells (m + 1)).toList = zs2 (m + 1) := rfl
  simp [Builtin.clear_, run_underlying Try.underlying24, zero30, e, hst]

theorem crows_drop (l : List Cl) (k : Nat) (h : k ≤ l.length) : (crows l).drop (k * 2) = crows (l.drop k) := by
  have e : crows l = crows (l.take k) ++ crows (l.drop k) := by
    unfold crows
    rw [← List.flatMap_append, List.take_append_drop]
  rw [e, List.drop_append_of_le_length (by rw [crows_length, List.length_take]; omega), List.drop_of_length_le (by rw [crows_length, List.length_take]; omega), List.nil_append]

/-- What Delete leaves: the row's block, its first cells what stood behind. -/
def DelP (b a c : Nat) (l : List Cl) (k : Nat) (w : World) (e : Ending) (w' : World) : Prop :=
  e = .returned (.slice (some ⟨a, 0, none⟩) (l.length - k) c) ∧ w'.ownsRow b 30 2 (.slice (some ⟨a, 0, none⟩) (l.length - k) c) (l.length - k) (crows (l.drop k)) ∧ Tch (fun i => i = a) w w'

theorem del_fin {w : World} {b a c : Nat} {l : List Cl} (ho : w.ownsRow b 30 2 (.slice (some ⟨a, 0, none⟩) l.length c) l.length (crows l)) (k : Nat) (hk : k ≤ l.length) (hk0 : 0 < k) :
    DelP b a c l k w (.returned (.slice (some ⟨a, 0, none⟩) (l.length - k) c)) ((w.drew.setCells a 0 (crows (l.drop k))).setCells a ((l.length - k) * 2) (zs2 k)) := by
  rcases ho.2 with ⟨h0, _⟩ | ⟨g', cap, cur, h0, hb, hh, hn, hc, hs, ht⟩
  · cases h0
  · injection h0 with h1 h2 h3
    injection h1 with h1
    injection h1 with h1
    subst h1
    subst h3
    have hl : (crows (l.drop k)).length = (l.length - k) * 2 := by rw [crows_length, List.length_drop]
    obtain ⟨c1, b1, s1, _, g1⟩ := blk_cells (t := 30) (crows (l.drop k)) 0 w.drew cur (Blk.drewN (t := 30) hh 1) (by rw [hl, hs]; omega)
    obtain ⟨c2, b2, s2, f2, _⟩ := blk_cells (t := 30) (zs2 k) ((l.length - k) * 2) _ c1 b1 (by rw [zs2_length, s1, hs]; omega)
    refine ⟨rfl, ⟨hl, .inr ⟨a, c, c2, rfl, hb, b2, by omega, hc, by rw [s2, s1, hs], ?_⟩⟩, tch_cells (S := fun i => i = a) rfl _ _ _ _ (tch_cells (S := fun i => i = a) rfl _ _ _ _ ((Tch.refl _ w).drewN 1))⟩
    apply List.ext_getElem?
    intro i
    rw [List.getElem?_take]
    by_cases hi : i < (l.length - k) * 2
    · rw [if_pos hi, Array.getElem?_toList, f2 i hi]
      have hi2 : i < (crows (l.drop k)).length := by omega
      have := g1 i _ (List.getElem?_eq_getElem hi2)
      rw [Nat.zero_add] at this
      rw [this, List.getElem?_eq_getElem hi2]
    · rw [if_neg hi, List.getElem?_eq_none (by omega)]

set_option maxHeartbeats 1000000 in
set_option maxRecDepth 100000 in
theorem delete_c (b a c : Nat) (l : List Cl) (k : Nat) (w : World) (ho : w.ownsRow b 30 2 (.slice (some ⟨a, 0, none⟩) l.length c) l.length (crows l)) (hk : k ≤ l.length) (hk0 : 0 < k) (hl : l.length ≤ 1000000) (hc9 : c ≤ 9223372036854775807) :
    Calls Try.prog 50 #[.slice (some ⟨a, 0, none⟩) l.length c, .int .i64 0, .int .i64 k] w (DelP b a c l k w) := by
  obtain ⟨i0, hi0, hz0, hz1, hz2⟩ := info_parts Try.info30
  have FIN := Lib.hid (del_fin ho k hk hk0)
  have hnc : l.length ≤ c := by
    rcases ho.2 with ⟨h0, _⟩ | ⟨g', cap, cur, h0, hb, hh, hn, hc, hs, ht⟩
    · cases h0
    · injection h0 with h1 h2 h3; subst h3; exact hn
  obtain ⟨news, hnews⟩ : ∃ news, news = crows (l.drop k) := ⟨_, rfl⟩
  have hlen : news.length = (l.length - k) * 2 := by rw [hnews, crows_length, List.length_drop]
  have hcell : ∀ j, j < l.length * 2 → (w.drew.cell? ⟨a, j, none⟩).isSome = true := by
    intro j hj
    have hj2 : j < (crows l).length := by rw [crows_length]; exact hj
    have := own_cell ho j _ (List.getElem?_eq_getElem hj2)
    show (w.cell? _).isSome = true
    rw [this]; rfl
  have hget : ∀ t u, news[t]? = some u → w.drew.cell? ⟨a, k * 2 + t, none⟩ = some u := by
    intro t u hu
    rw [hnews, ← crows_drop l k hk, List.getElem?_drop] at hu
    exact own_cell ho _ u hu
  obtain ⟨A, hA, hsrc⟩ : ∃ A : Addr, (if c = k then some (⟨a, 0, none⟩ : Addr) else some ⟨a, k * 2, none⟩) = some A ∧ Hid (∀ t u, news[t]? = some u → w.drew.cell? (A.add t) = some u) := by
    by_cases h : c = k
    · refine ⟨⟨a, 0, none⟩, by simp [h], fun t u hu => ?_⟩
      have h0 : news = [] := List.eq_nil_of_length_eq_zero (by rw [hlen]; omega)
      rw [h0] at hu
      simp at hu
    · refine ⟨⟨a, k * 2, none⟩, by simp [h], fun t u hu => ?_⟩
      have e : (⟨a, k * 2, none⟩ : Addr).add t = ⟨a, k * 2 + t, none⟩ := by unfold Addr.add; split <;> simp_all
      rw [e]
      exact hget t u hu
  have s1 : Hid (news.length = (l.length - k) * 2) := hlen
  have s2 : Hid (∀ u ∈ news, u.oneCell' = true) := by rw [hnews]; exact ccells_one _
  have s3 : Hid (∀ t, t < news.length → (w.drew.cell? ⟨a, 0 + 0 * 2 + t, none⟩).isSome = true ∧ w.drew.frozen? ⟨a, 0 + 0 * 2 + t, none⟩ = false) := by
    intro t ht
    rw [show 0 + 0 * 2 + t = t by omega]
    exact ⟨hcell t (by omega), own_frozen (own_drewN ho 1) t⟩
  obtain ⟨W1, hW1⟩ : ∃ W1, W1 = w.drew.setCells a (0 + 0 * 2) news := ⟨_, rfl⟩
  have hcl : ∀ ty, (Builtin.clear_ #[24] ty #[.slice (some ⟨a, (l.length - k) * 2, none⟩) (l.length - (l.length - k)) (c - (l.length - k))]).run Try.prog W1 = .ok (.tuple #[]) (W1.setCells a ((l.length - k) * 2) (zs2 (l.length - (l.length - k)))) := fun ty =>
    run_clear2 W1 ty a _ _ _ (by omega) (fun j hj => by
      subst hW1
      rw [World.cell?_setCells_out a _ _ _ _ (fun _ _ => .inr (by simp only; omega))]
      exact hcell _ (by omega)) (fun j hj => by
      subst hW1
      rw [World.frozen?_setCells]
      exact own_frozen (own_drewN ho 1) _)
  have HCL := Lib.hid hcl
  have hW : Hid (W1 = w.drew.setCells a (0 + 0 * 2) news) := hW1
  have HN := Lib.hid hnews
  have hkc : k ≤ c := by omega
  clear hcell hget hlen hW1 hnews ho hcl
  go_enter Try.func50, Try.ntmps50
  go_wp2_with fail
  go_region_law (refine step_append_room rfl (.tmp 22) (.tmp 25) 24 rfl 30 i0 2 Try.underlying24 hi0 hz1 a 0 0 c (by simp [Act.eval, Act.put]) A (l.length - k) (c - k) news (by simp [Act.eval, Act.put]) s1.out hsrc.out s2.out (by omega) s3.out ?_; rw [← hW.out])
  have hcl := HCL.out
  go_wp2
  go_returns
  have e1 : l.length - (l.length - k) = k := by omega
  have e2 := hW.out
  rw [HN.out] at e2
  have FF := FIN.out
  rw [e2]
  first
    | exact FF
    | (rw [e1]; exact FF)
end Go.Proofs.Ytppbgkadpomblaa
