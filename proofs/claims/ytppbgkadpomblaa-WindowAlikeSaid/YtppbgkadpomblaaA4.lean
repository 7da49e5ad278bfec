/- Contracts. -/
import Derived.Test.YtppbgkadpomblaaProg
import Derived.Test.YtppbgkadpomblaaA3
import Derived.Tactics
import Derived.Tactics2
import Derived.WalkKit
import Derived.WalkSpells
import Derived.WalkLawsBesides
import Derived.StillTactics
import Derived.StillTailTactics
import Derived.OwnWalk
import Derived.Laws.Pointers
import Derived.Laws.ResultCell
import Derived.Deep.RegionHeld3
import Derived.Deep.RegionWith
import Derived.Deep.RegionLaw
import Derived.Deep.AppendLies
import Derived.Deep.QuietTactic
import Derived.BigQuiet
import Derived.LoopTactic
import Derived.Deep.LoopGhost
import Derived.Deep.DeepCutAuto
import Derived.Deep.DeepFit
import Derived.Maps.AppendAt
import Derived.Below
import Derived.Lib.Hide
import Derived.Handy
import Derived.KernelRfl
import Derived.IntWalk
namespace Go.Proofs.Ytppbgkadpomblaa
set_option linter.unusedVariables false
set_option linter.unusedSimpArgs false
open Go.RowKit

/-! ## Prune -/
def cutN (l : List Cl) (f : Int) : Nat := (l.takeWhile fun x => decide (x.at_ < f)).length
theorem cutN_le (l : List Cl) (f : Int) : cutN l f ≤ l.length := by
  unfold cutN
  have h := congrArg List.length (List.takeWhile_append_dropWhile (p := fun x : Cl => decide (x.at_ < f)) (l := l))
  rw [List.length_append] at h
  omega
theorem cutN_of (l : List Cl) (f : Int) (k : Nat) (h : ∀ i, i < k → ∃ x, l[i]? = some x ∧ x.at_ < f) (hk : k = l.length ∨ ∃ x, l[k]? = some x ∧ ¬ x.at_ < f) : cutN l f = k := by
  induction l generalizing k with
  | nil =>
    cases k with
    | zero => rfl
    | succ k =>
      obtain ⟨x, hx, _⟩ := h 0 (by omega)
      simp at hx
  | cons y l ih =>
    cases k with
    | zero =>
      rcases hk with hk | ⟨x, hx, hn⟩
      · simp at hk
      · simp at hx; subst hx
        unfold cutN
        rw [List.takeWhile_cons]
        simp [hn]
    | succ k =>
      obtain ⟨x, hx, hlt⟩ := h 0 (by omega)
      simp at hx; subst hx
      have := ih k (fun i hi => by
        obtain ⟨x, hx, hl⟩ := h (i + 1) (by omega)
        exact ⟨x, by simpa using hx, hl⟩) (by
        rcases hk with hk | ⟨x, hx, hn⟩
        · left; simpa using hk
        · right; exact ⟨x, by simpa using hx, hn⟩)
      unfold cutN at this ⊢
      rw [List.takeWhile_cons]
      simp [hlt, this]
def pruneL (l : List Cl) (f : Int) : List Cl := l.drop (cutN l f)
def PruneP (g o b : Nat) (t : TypeId) (cs : Array Value) (v : Value) (l : List Cl) (f : Int) (w : World) (e : Ending) (w' : World) : Prop :=
  ∃ v', e = .returned (.int .i64 (cutN l f)) ∧ Dq w' g o b t (cs.setIfInBounds o v') v' (pruneL l f) ∧ Tch (Foot g v) w w' ∧ (∀ k, v'.ownBlock = some k → v.ownBlock = some k ∨ w.heap.size ≤ k)
theorem own_cap {w : World} {b a n c : Nat} {xs : List Value} (h : w.ownsRow b 30 2 (.slice (some ⟨a, 0, none⟩) n c) n xs) : c ≤ 9223372036854775807 := by
  rcases h.2 with ⟨h0, _⟩ | ⟨g', cap, cur, h0, hb, hh, hn, hc, hs, ht⟩
  · cases h0
  · injection h0 with h1 h2 h3
    subst h3
    unfold maxLen at hc
    omega
theorem prune_0 {g o b : Nat} {t : TypeId} {cs : Array Value} {v : Value} {l : List Cl} {f : Int} {w : World} (h : Dq w g o b t cs v l) (hk : cutN l f = 0) (m : Nat) : PruneP g o b t cs v l f w (.returned (.int .i64 0)) w := by
  refine ⟨v, by rw [hk]; rfl, ?_, Tch.refl _ _, fun k hk => .inl hk⟩
  rw [set_self h.cell]
  unfold pruneL
  rw [hk, List.drop_zero]
  exact h
theorem prune_k {g o b a c : Nat} {t : TypeId} {cs : Array Value} {l : List Cl} {f : Int} {k : Nat} {w w2 : World} (h : Dq w g o b t cs (.slice (some ⟨a, 0, none⟩) l.length c) l) (hk : cutN l f = k)
    (hown : w2.ownsRow b 30 2 (.slice (some ⟨a, 0, none⟩) (l.length - k) c) (l.length - k) (crows (l.drop k))) (t2 : Tch (fun i => i = a) w w2) :
    PruneP g o b t cs (.slice (some ⟨a, 0, none⟩) l.length c) l f w (.returned (.int .i64 k)) (w2.setCell ⟨g, o, none⟩ (.slice (some ⟨a, 0, none⟩) (l.length - k) c)) := by
  have hga : ¬ g = a := fun e => h.apart (by subst e; rfl)
  have b2 := t2.blk h.blk hga
  refine ⟨_, by rw [hk], ⟨b2.set_ o _, set_get h.cell, h.ne, ?_⟩, (t2.mono (T := Foot g (.slice (some ⟨a, 0, none⟩) l.length c)) (fun i hi => .inl (.inr (by rw [hi]; rfl)))).set_ (p := ⟨g, o, none⟩) (.inl (.inl rfl)) _, fun k hk => .inl hk⟩
  unfold pruneL
  rw [hk, List.length_drop]
  exact ((Tch.refl (fun i => i = g) w2).set_ (p := ⟨g, o, none⟩) (.inl rfl) _).own hown (fun i hi => by simp [Value.ownBlock] at hi; omega)

set_option maxHeartbeats 1000000 in
theorem prune_c (g o b : Nat) (t : TypeId) (cs : Array Value) (v : Value) (l : List Cl) (f : Int) (w : World) (h : Dq w g o b t cs v l) (hl : l.length ≤ 1000000) :
    Calls Try.prog 22 #[.pointer (some ⟨g, o, none⟩), .int .i64 f] w (PruneP g o b t cs v l f w) := by
  obtain ⟨A, c, rfl⟩ := h.form
  have c0 := h.at_
  have H := Lib.hid h
  clear h
  go_enter Try.func22, Try.ntmps22
  go_wp2_with fail
  go_loop [5] (fun nv => ∃ k : Nat, k ≤ l.length ∧ nv = .int .i64 k ∧ ∀ i, i < k → ∃ x, l[i]? = some x ∧ x.at_ < f) (fun nv => l.length - (intOf nv).toNat)
  case atStart => exact ⟨0, by omega, rfl, fun i hi => absurd hi (by omega)⟩
  case round =>
    obtain ⟨k, hkl, rfl, hall⟩ := hrel
    have HA := Lib.hid hall
    clear hall
    by_cases hlt : k < l.length
    · obtain ⟨x, hx⟩ : ∃ x, l[k]? = some x := ⟨l[k], List.getElem?_eq_getElem hlt⟩
      obtain ⟨a, c', hA, _, halt⟩ := H.out.own.form (by omega)
      injection hA with hA _ hc'
      subst hA hc'
      obtain ⟨d0, d1⟩ := crows_at H.out.own k x hx
      have HX := Lib.hid hx
      clear hx
      by_cases hf : x.at_ < f
      · go_wp2_with (go_at_call 43; refine (len_c g o _ _ _ _ c0).mono ?_; rintro e w' ⟨rfl, rfl⟩)
        refine ⟨⟨k + 1, by omega, by simp, fun i hi => ?_⟩, by simp [intOf]; omega⟩
        rcases (by omega : i < k ∨ i = k) with h1 | h1
        · exact HA.out i h1
        · subst h1
          exact ⟨x, HX.out, hf⟩
      · have hcut : cutN l f = k := cutN_of l f k HA.out (.inr ⟨x, HX.out, hf⟩)
        have HC := Lib.hid hcut
        have hfit := Lib.hid H.out.own
        clear hcut
        rcases Nat.eq_zero_or_pos k with h0 | h0
        · have HZ := Lib.hid (prune_0 H.out (HC.out.trans h0) 0)
          have k0 : ((0 : Int) < (k : Int)) = False := by simp; omega
          have k1 : k = 0 := h0
          subst k1
          clear k0 h0
          go_wp2_with (go_at_call 43; refine (len_c g o _ _ _ _ c0).mono ?_; rintro e w' ⟨rfl, rfl⟩)
          go_returns
          exact HZ.out
        · have hc9 := own_cap H.out.own
          go_wp2_with (first
            | (go_at_call 43; refine (len_c g o _ _ _ _ c0).mono ?_; rintro e w' ⟨rfl, rfl⟩)
            | (go_at_call 50; go_must (refine (delete_c b a c l k _ H.out.own hkl h0 hl hc9).mono ?_); rintro e w2 ⟨rfl, ho2, t2⟩; have b2 := t2.blk H.out.blk (fun e => H.out.apart (by subst e; rfl)); have x2 := (b2.cell o).trans H.out.cell; have f2 := b2.frozen o; have HO2 := Lib.hid ho2; have T2 := Lib.hid t2; clear ho2 t2 b2))
          go_returns
          exact prune_k H.out HC.out HO2.out T2.out
    · have hcut : cutN l f = k := cutN_of l f k HA.out (.inl (by omega))
      have HC := Lib.hid hcut
      have hfit := Lib.hid H.out.own
      clear hcut
      rcases Nat.eq_zero_or_pos k with h0 | h0
      · have HZ := Lib.hid (prune_0 H.out (HC.out.trans h0) 0)
        have k0 : ((0 : Int) < (k : Int)) = False := by simp; omega
        have k1 : k = 0 := h0
        subst k1
        clear k0 h0
        go_wp2_with (go_at_call 43; refine (len_c g o _ _ _ _ c0).mono ?_; rintro e w' ⟨rfl, rfl⟩)
        go_returns
        exact HZ.out
      · obtain ⟨a, c', hA, _, halt⟩ := H.out.own.form (by omega)
        injection hA with hA _ hc'
        subst hA hc'
        have hc9 := own_cap H.out.own
        skip
        go_wp2_with (first
          | (go_at_call 43; refine (len_c g o _ _ _ _ c0).mono ?_; rintro e w' ⟨rfl, rfl⟩)
          | (go_at_call 50; go_must (refine (delete_c b a c l k _ H.out.own hkl h0 hl hc9).mono ?_); rintro e w2 ⟨rfl, ho2, t2⟩; have b2 := t2.blk H.out.blk (fun e => H.out.apart (by subst e; rfl)); have x2 := (b2.cell o).trans H.out.cell; have f2 := b2.frozen o; have HO2 := Lib.hid ho2; have T2 := Lib.hid t2; clear ho2 t2 b2))
        go_returns
        exact prune_k H.out HC.out HO2.out T2.out
end Go.Proofs.Ytppbgkadpomblaa
