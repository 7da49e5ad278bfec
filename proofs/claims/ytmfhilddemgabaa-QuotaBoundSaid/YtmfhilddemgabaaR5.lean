/- The law QuotaBound: its walk. Conditions: the list reads as a list of steps. -/
import Derived.Test.YtmfhilddemgabaaProg
import Derived.Test.YtmfhilddemgabaaR1
import Derived.Test.YtmfhilddemgabaaPo
import Derived.Tactics
import Derived.Tactics2
import Derived.WalkKit
import Derived.WalkSpells
import Derived.WalkLawsBesides
import Derived.StillTactics
import Derived.StillTailTactics
import Derived.OwnWalk
import Derived.Laws.Pointers
import Derived.Laws.ResultCell
import Derived.Deep.RegionHeld3
import Derived.Deep.RegionWith
import Derived.Deep.RegionLaw
import Derived.Deep.AppendLies
import Derived.Deep.QuietTactic
import Derived.BigQuiet
import Derived.LoopTactic
import Derived.Deep.LoopGhost
import Derived.Deep.DeepCutAuto
import Derived.Deep.DeepFit
import Derived.Maps.AppendAt
import Derived.Below
import Derived.Lib.Hide
import Derived.Handy
import Derived.KernelRfl
namespace Go.Proofs.Ytmfhilddemgabaa
set_option linter.unusedVariables false
set_option linter.unusedSimpArgs false
open Go.RowKit

def nums (xs : List Int) : List Value := xs.map fun x => .int .i64 x
theorem nums_snoc (xs : List Int) (x : Int) : nums xs ++ [.int .i64 x] = nums (xs ++ [x]) := by simp [nums]
theorem Try.info2 : (Try.prog.info? 2).map (fun i => (i.zero, i.size, i.bytes)) = some (some (.int .i64 0), 1, 8) := by kernel_rfl

theorem own_blk_ne {w : World} {base : Nat} {e t : TypeId} {size n g : Nat} {v : Value} {xs : List Value} {cs : Array Value} (h : w.ownsRow base e size v n xs) (hg : Blk w g t cs) (hne : e ≠ t) : v.ownBlock ≠ some g := by
  rcases h.2 with ⟨rfl, _⟩ | ⟨g', cap, cur, rfl, _, hh, _⟩
  · simp [Value.ownBlock]
  · intro he
    have : g' = g := by simpa [Value.ownBlock] using he
    subst this
    unfold Blk at hg
    rw [hh] at hg
    injection hg with hg
    injection hg with _ ht
    exact hne ht

/-- The rows of the two lists lie apart. -/
def Apart (v u : Value) : Prop := v.ownBlock = none ∨ v.ownBlock ≠ u.ownBlock
theorem Apart.symm {v u : Value} (h : Apart v u) : Apart u v := by
  unfold Apart at *
  rcases h with h | h
  · by_cases hu : u.ownBlock = none
    · exact .inl hu
    · exact .inr (by rw [h]; exact hu)
  · exact .inr (Ne.symm h)

theorem own_base {w : World} {base n : Nat} {e : TypeId} {size : Nat} {v : Value} {xs : List Value} (h : w.ownsRow base e size v n xs) : ∀ k, v.ownBlock = some k → base ≤ k := fun k hk => (h.lt k hk).1
theorem own_lt {w : World} {base n : Nat} {e : TypeId} {size : Nat} {v : Value} {xs : List Value} (h : w.ownsRow base e size v n xs) : ∀ k, v.ownBlock = some k → k < w.heap.size := fun k hk => (h.lt k hk).2

theorem two_appends {B k : Nat} {w2 w5 w6 : World} {v9 v10 v9' v10' : Value} {la lg la' : List Value} {o1 o2 : Obj} (h9 : w2.ownsRow B 2 1 v9 k la) (h10 : w2.ownsRow B 2 1 v10 k lg) (hap : Apart v9 v10)
    (h9' : w5.ownsRow B 2 1 v9' (k + 1) la') (g5 : (w2.alloc o1).grownBy w5 v9.ownBlock) (at9 : v9'.ownBlock = v9.ownBlock ∨ v9'.ownBlock = some (w2.alloc o1).heap.size)
    (g6 : (w5.alloc o2).grownBy w6 v10.ownBlock) (at10 : v10'.ownBlock = v10.ownBlock ∨ v10'.ownBlock = some (w5.alloc o2).heap.size) :
    w6.ownsRow B 2 1 v9' (k + 1) la' ∧ Apart v9' v10' := by
  have z5 := g5.size
  simp at z5
  have a1 : Apart v9' v10 := by
    rcases at9 with e | e
    · unfold Apart at hap ⊢; rw [e]; exact hap
    · right
      rw [e]
      intro h
      have := own_lt h10 _ h.symm
      simp at this
      omega
  refine ⟨(h9'.alloc o2).kept g6 a1, ?_⟩
  rcases at10 with e | e
  · unfold Apart at a1 ⊢; rw [e]; exact a1
  · unfold Apart
    rw [e]
    right
    intro h
    have := own_lt h9' _ h
    simp at this
    omega
theorem blk_two {B k g : Nat} {t : TypeId} {cs : Array Value} {w2 w5 w6 : World} {v9 v10 : Value} {la lg : List Value} {o1 o2 : Obj} (hb : Blk w2 g t cs) (ht : 2 ≠ t) (h9 : w2.ownsRow B 2 1 v9 k la) (h10 : w2.ownsRow B 2 1 v10 k lg)
    (g5 : (w2.alloc o1).grownBy w5 v9.ownBlock) (g6 : (w5.alloc o2).grownBy w6 v10.ownBlock) : Blk w6 g t cs :=
  (((hb.alloc o1).grown g5 (Ne.symm (own_blk_ne h9 hb ht))).alloc o2).grown g6 (Ne.symm (own_blk_ne h10 hb ht))
theorem below_app {w w2 w5 w6 : World} {k : Nat} {v9 v10 : Value} {la lg : List Value} {o1 o2 : Obj} (hb : Below w.heap.size w w2) (h9 : w2.ownsRow w.heap.size 2 1 v9 k la) (h10 : w2.ownsRow w.heap.size 2 1 v10 k lg)
    (g5 : (w2.alloc o1).grownBy w5 v9.ownBlock) (g6 : (w5.alloc o2).grownBy w6 v10.ownBlock) : Below w.heap.size w w6 := by
  have b1 := hb.alloc hb.size o1
  have b2 := b1.grown g5 b1.size (own_base h9)
  have b3 := b2.alloc b2.size o2
  exact b3.grown g6 b3.size (own_base h10)

theorem le_alloc {B : Nat} {w : World} (h : B ≤ w.heap.size) (o : Obj) : B ≤ (w.alloc o).heap.size := by simp; omega

theorem oc1 (x : Int) : ∀ u ∈ [Value.int .i64 x], u.oneCell' = true := by simp [Value.oneCell']

theorem row_cells {w : World} {B n g c : Nat} {xs : List Int} (h : w.ownsRow B 2 1 (.slice (some ⟨g, 0, none⟩) n c) n (nums xs)) : ∀ j, j < n → w.cell? ⟨g, j, none⟩ = some (.int .i64 (xs.getD j 0)) := by
  intro j hj
  have hl : xs.length = n := by have := h.1; simpa [nums] using this
  have h1 := h.cells (g := g) rfl j (.int .i64 (xs.getD j 0)) (by simp [nums, List.getElem?_eq_getElem (show j < xs.length by omega), List.getD_eq_getElem?_getD])
  have h2 : (⟨g, 0, none⟩ : Addr).add j = ⟨g, j, none⟩ := by unfold Addr.add; split <;> simp_all
  rw [h2] at h1
  exact h1

def InRel (w6 : World) (gones : List Int) (k : Nat) (sv jv : Value) (wr : World) : Prop :=
  (∃ q, wr = w6.drewN q) ∧ (jv = .int .i64 (-1) ∨ ∃ i : Nat, i ≤ k ∧ jv = .int .i64 i ∧ sv = .int .i64 (tot (gones.drop (i + 1))))

def BRel (W : World) (g r : Nat) (sz rt : Int) (v9 v10 lv iv : Value) (m : Nat) (wr : World) : Prop :=
  ∃ k : Nat, k ≤ m ∧ iv = .int .i64 k ∧ ∃ (s : Bk) (ats gones : List Int), s.Ok ∧ s.size = sz ∧ s.rate = rt ∧ lv = .int .i64 s.last ∧ Bkt wr g s ∧ Blk wr r 42 #[.int .i64 sz, .int .i64 rt, .int .i64 sz, .int .i64 0] ∧ Below W.heap.size W wr ∧
    wr.ownsRow W.heap.size 2 1 v9 k (nums ats) ∧ wr.ownsRow W.heap.size 2 1 v10 k (nums gones) ∧ Apart v9 v10 ∧ BInv s ats gones

theorem mul_fit {a b : Int} (h : (mulV a b).2 = true) : (mulV a b).1 = a * b ∧ Fit (a * b) := by
  unfold mulV at h ⊢
  split at h
  · rename_i hf; rw [if_pos hf]; exact ⟨rfl, hf⟩
  · cases h
theorem quiet_at {P : Program} {f : FuncId} {args : Array Value} {w : World} {a n : Nat} {v : Value} (h : Calls P f args (w.drewN (a + n)) fun e w' => e = .returned v ∧ w.drewN (a + n) = w') :
    Calls P f args (w.drewN (a + n)) fun e w'' => e = .returned v ∧ ∃ m, w'' = w.drewN (a + m) := h.mono fun _ _ ⟨he, hm⟩ => ⟨he, n, hm.symm⟩
theorem in_step {w6 : World} {gones : List Int} {k i q : Nat} {t2 : Int} (ht : tot (gones.drop i) = t2) (hik : i ≤ k) : InRel w6 gones k (.int .i64 t2) (.int .i64 (↑i - 1)) (w6.drewN q) := by
  refine ⟨⟨q, rfl⟩, ?_⟩
  cases i with
  | zero => exact .inl rfl
  | succ i => exact .inr ⟨i, by omega, by congr 1; omega, by rw [ht]⟩
theorem out_step {w w6 : World} {g r k m : Nat} {sz rt l : Int} {s' : Bk} {ats gones : List Int} {v9 v10 : Value} (hlt : k < m)
    (V : s'.Ok ∧ s'.size = sz ∧ s'.rate = rt ∧ l = s'.last ∧ Bkt w6 g s' ∧ Blk w6 r 42 #[.int .i64 sz, .int .i64 rt, .int .i64 sz, .int .i64 0] ∧ Below w.heap.size w w6 ∧ w6.ownsRow w.heap.size 2 1 v9 (k + 1) (nums ats) ∧ w6.ownsRow w.heap.size 2 1 v10 (k + 1) (nums gones) ∧ Apart v9 v10 ∧ BInv s' ats gones ∧ gones.length = k + 1) (q : Nat) :
    BRel w g r sz rt v9 v10 (.int .i64 l) (.int .i64 (↑k + 1)) m (w6.drewN q) := by
  obtain ⟨a, b, c, d, e, f, h, i, j, o, p, _⟩ := V
  exact ⟨k + 1, by omega, by simp, s', ats, gones, a, b, c, by rw [d], e.drewN q, f.drewN q, belowN h q, i, j, o, p⟩

set_option maxRecDepth 100000 in
set_option maxHeartbeats 3200000 in
theorem bound_c (size rate : Int) (A : Option Addr) (n c : Nat) (w : World) (h : n ≤ c) (hm : c ≤ 9223372036854775807) (xs : List Stp) (hx : Steps3 w A n xs) :
    Calls Try.prog 5 #[.int .i64 size, .int .i64 rate, .slice A n c] w (Out true w) := by
  obtain ⟨i0, hi0, hz0, hz1, hz2⟩ := info_parts Try.info2
  go_enter Try.func5, Try.ntmps5
  go_wp2_with fail
  refine (alive_c _).mono ?_
  rintro e w1 ⟨rfl, hb1⟩
  go_wp2_with fail
  refine (new_c size rate _).mono ?_
  rintro e w2 ⟨rfl, rfl⟩
  go_wp2_with fail
  refine (begin_c size rate _).mono ?_
  rintro e w3 ⟨rfl, hb3⟩
  have hk := (Blk.new w1 58 (newCells (newS size rate))).below hb3 (Blk.lt (Blk.new w1 58 _))
  have hb4 := below_into hb1 (below_into ((Below.refl _ _).alloc (Nat.le_refl _) _) hb3)
  go_wp2_with fail
  refine (few_c A n c _ h hm xs (hx.below (hb4.alloc hb4.size _))).mono ?_
  rintro e w5 ⟨rfl, rfl⟩
  go_wp2_with fail
  have hx2 := few_steps hx
  have hmm : fewN n ≤ 50 := by unfold fewN; split <;> omega
  have hs0 := newS_ok size rate
  have hr0 := Blk.new w3 42 #[.int .i64 (newS size rate).size, .int .i64 (newS size rate).rate, .int .i64 (newS size rate).have_, .int .i64 0]
  have hg0 := Blk.alloc hk (.cells #[.int .i64 (newS size rate).size, .int .i64 (newS size rate).rate, .int .i64 (newS size rate).have_, .int .i64 0] 42)
  have hbb := hb4.alloc hb4.size (.cells #[.int .i64 (newS size rate).size, .int .i64 (newS size rate).rate, .int .i64 (newS size rate).have_, .int .i64 0] 42)
  have hgr : w1.heap.size ≠ w3.heap.size := by have := hb3.size; simp at this; omega
  have hg1 : w.heap.size ≤ w1.heap.size := hb1.size
  have hr1 : w.heap.size ≤ w3.heap.size := hb4.size
  clear hb1 hb3 hb4 hk hx
  generalize hw : w3.alloc (.cells #[.int .i64 (newS size rate).size, .int .i64 (newS size rate).rate, .int .i64 (newS size rate).have_, .int .i64 0] 42) = w4 at *
  clear hw
  generalize w1.heap.size = g at *
  generalize w3.heap.size = r at *
  generalize fewN n = m at *
  generalize xs.take m = ys at *
  have Hx := Lib.hid hx2
  clear hx2
  have hcz := hs0.s0
  have hcz1 := hs0.s1
  have hcr := hs0.r0
  have hcr1 := hs0.r1
  obtain ⟨sz, hsz⟩ : ∃ sz, sz = (newS size rate).size := ⟨_, rfl⟩
  obtain ⟨rt, hrt⟩ : ∃ rt, rt = (newS size rate).rate := ⟨_, rfl⟩
  have hh0 : (newS size rate).have_ = (newS size rate).size := rfl
  rw [hh0] at hr0
  rw [← hsz] at hr0 hcz hcz1
  rw [← hrt] at hr0 hcr hcr1
  have HS := Lib.hid hsz
  have HR := Lib.hid hrt
  clear hsz hrt hh0
  go_loopw [9, 10, 11, 12] (fun v9 v10 lv iv wr => BRel w g r sz rt v9 v10 lv iv m wr) (fun _ _ _ iv _ => m - (intOf iv).toNat)
  case atStart => exact ⟨0, by omega, rfl, newS size rate, [], [], hs0, HS.out.symm, HR.out.symm, rfl, hg0, hr0, hbb, World.ownsRow_nil .., World.ownsRow_nil .., .inl rfl, binv_nil _⟩
  case round =>
    obtain ⟨k, hkm, rfl, s, ats, gones, hs, hsz, hrt, rfl, hg, hr, hb, ho9, ho10, hap, hinv⟩ := hrel
    by_cases hlt : k < m
    · have hbl : ∃ b off, A = some ⟨b, off, none⟩ ∧ b < w.heap.size := by
        obtain ⟨b, off, hA, _, x0, _⟩ := Hx.out.2 k hlt
        exact ⟨b, off, hA, World.block_lt_of_cell? w _ x0⟩
      obtain ⟨b, off, rfl, hbw⟩ := hbl
      obtain ⟨b', off', hA, hxo, x0, x1, x2⟩ := (Hx.out.below hb).2 k hlt
      obtain ⟨rfl, rfl⟩ : b = b' ∧ off = off' := by simpa using hA
      clear hA
      generalize ys.getD k default = x at *
      have hne1 : ¬ b = g := by omega
      have hne3 : ¬ r = g := by omega
      have hgb := gone_bounds s hs x.at_ x.n hxo.d
      have o9g := own_blk_ne ho9 hg (by decide)
      have o10g := own_blk_ne ho10 hg (by decide)
      have G := Lib.hid (And.intro hs (And.intro hg (And.intro hr (And.intro hb (And.intro hxo (And.intro ho9 (And.intro ho10 (And.intro hap (And.intro hinv (And.intro o9g (And.intro o10g (And.intro hsz (And.intro hrt hgb)))))))))))))
      have hl0 := hs.l0
      have hl1 := hs.l1
      clear hs hg hr hb hxo ho9 ho10 hap hinv o9g o10g hsz hrt hgb
      have hmx : True := trivial
      have hl2 : ∃ l, l = (takeS s x.at_ x.n).last ∧ ((s.last < x.at_ ∧ x.at_ = l) ∨ (x.at_ ≤ s.last ∧ s.last = l)) := by
        refine ⟨_, rfl, ?_⟩
        show (s.last < x.at_ ∧ x.at_ = max x.at_ s.last) ∨ (x.at_ ≤ s.last ∧ s.last = max x.at_ s.last)
        omega
      obtain ⟨l, hl2, hmx2⟩ := hl2
      have HL := Lib.hid hl2
      have hxd := G.out.2.2.2.2.1.d
      have hlb : 0 ≤ l ∧ l ≤ 9223372036854775807 := by omega
      clear hl2 hmx
      rcases hmx2 with ⟨hmx, hl3⟩ | ⟨hmx, hl3⟩
      all_goals
        have HL3 := Lib.hid hl3
        clear hl3
        go_wp2_with fail
        rw [HL3.out]
        go_still_tail 11, (by kernel_rfl)
        go_wp2_with fail
        refine (take_c g s x.at_ x.n _ (G.out.2.1.drewN 1) G.out.1 G.out.2.2.2.2.1.d).mono ?_
        rintro e w2 ⟨rfl, hb2, h2⟩
        replace hb2 := ungrew hb2
        have y1 := far1 hb2 hne1 x1
        have y2 := far1 hb2 hne1 x2
        have r2 := blk_far hb2 hne3 G.out.2.2.1
        have c0 := r2.cell 0
        simp only [List.getElem?_toArray, List.getElem?_cons_zero] at c0
        have R2 := Lib.hid r2
        have H2 := Lib.hid h2
        have p9 := G.out.2.2.2.2.2.1.kept hb2 (.inr G.out.2.2.2.2.2.2.2.2.2.1)
        have p10 := G.out.2.2.2.2.2.2.1.kept hb2 (.inr G.out.2.2.2.2.2.2.2.2.2.2.1)
        have bb2 := G.out.2.2.2.1.trans (gr_below hb2 G.out.2.2.2.1.size hg1)
        clear r2 h2 hb2 x0 x1 x2
        have hk1 : k + 1 ≤ maxLen := by unfold maxLen; omega
        have hk2 : (k + 1) * 8 ≤ 140737488355328 := by omega
        have apS : Apart u10 u9 := G.out.2.2.2.2.2.2.2.1.symm
        have hT : ∃ gv, gv = goneV s x.at_ x.n ∧ 0 ≤ gv ∧ gv ≤ sz ∧ ((takeB s x.at_ x.n = true ∧ x.n = gv) ∨ (takeB s x.at_ x.n = false ∧ 0 = gv)) := by
          refine ⟨_, rfl, G.out.2.2.2.2.2.2.2.2.2.2.2.2.2.1, ?_, ?_⟩
          · rw [← G.out.2.2.2.2.2.2.2.2.2.2.2.1]; exact G.out.2.2.2.2.2.2.2.2.2.2.2.2.2.2.1
          · unfold goneV
            cases takeB s x.at_ x.n
            · exact .inr ⟨rfl, rfl⟩
            · exact .inl ⟨rfl, rfl⟩
        obtain ⟨gv, hgv, hgv0, hgv1, hT⟩ := hT
        have HG := Lib.hid hgv
        clear hgv
        rcases hT with ⟨hT, hT2⟩ | ⟨hT, hT2⟩
        all_goals
          rw [hT]
          have HT2 := Lib.hid hT2
          clear hT hT2
          try rw [HT2.out] at y2
          go_wp2_with (first
            | (at_builtin; refine wpList_append_own_at _ rfl (.tmp 68) (.tmp 70) _ rfl w.heap.size 2 i0 (.int .i64 0) 1 8 Try.underlying50 hi0 hz0 hz1 hz2 rfl (by decide) u9 k (nums ats) rfl (p9.alloc _) ⟨w2.heap.size, 0, none⟩ 1 1 [.int .i64 l] rfl rfl (cell_one_new _ _ _) (oc1 _) hk1 hk2 (le_alloc bb2.size _) ?_; intro v9' w5 h9' g5 hnil5 at9; have hw5 := Nat.le_trans (le_alloc bb2.size _) g5.size)
            | (at_builtin; refine wpList_append_own_at _ rfl (.tmp 72) (.tmp 74) _ rfl w.heap.size 2 i0 (.int .i64 0) 1 8 Try.underlying50 hi0 hz0 hz1 hz2 rfl (by decide) u10 k (nums gones) rfl (((p10.alloc _).kept g5 apS).alloc _) ⟨w5.heap.size, 0, none⟩ 1 1 [.int .i64 _] rfl rfl (cell_one_new _ _ _) (oc1 _) hk1 hk2 (le_alloc hw5 _) ?_; intro v10' w6 h10' g6 hnil6 at10))
          have ta := two_appends p9 p10 G.out.2.2.2.2.2.2.2.1 h9' g5 at9 g6 at10
          have tg := blk_two H2.out (by decide) p9 p10 g5 g6
          have tr := blk_two R2.out (by decide) p9 p10 g5 g6
          have tb := below_app bb2 p9 p10 g5 g6
          have ti := binv_step G.out.1 G.out.2.2.2.2.2.2.2.2.1 (by have := (G.out.2.2.2.2.2.2.1).1; simp [nums] at this; omega) x.at_ x.n G.out.2.2.2.2.1.d
          rw [← HG.out, ← HL.out] at ti
          try rw [HT2.out] at h10'
          obtain ⟨own9, apn⟩ := ta
          rw [nums_snoc] at own9 h10'
          obtain ⟨a9, c9, e9, _, _⟩ := own9.form (by omega)
          obtain ⟨a10, c10, e10, _, _⟩ := h10'.form (by omega)
          subst e9 e10
          have rd9 : Hid (∀ j, j < k + 1 → w6.cell? ⟨a9, j, none⟩ = some (.int .i64 ((ats ++ [l]).getD j 0))) := row_cells own9
          have rd10 : Hid (∀ j, j < k + 1 → w6.cell? ⟨a10, j, none⟩ = some (.int .i64 ((gones ++ [gv]).getD j 0))) := row_cells h10'
          have hlen : (gones ++ [gv]).length = k + 1 := by have := h10'.1; simpa [nums] using this
          have rm0 := tr.cell 0
          have rm1 := tr.cell 1
          simp only [List.getElem?_toArray, List.getElem?_cons_zero, List.getElem?_cons_succ] at rm0 rm1
          have so := take_ok s G.out.1 x.at_ x.n hxd
          have ssz : (takeS s x.at_ x.n).size = sz := G.out.2.2.2.2.2.2.2.2.2.2.2.1
          have srt : (takeS s x.at_ x.n).rate = rt := G.out.2.2.2.2.2.2.2.2.2.2.2.2.1
          have slt : l = (takeS s x.at_ x.n).last := HL.out
          have V := Lib.hid (And.intro so (And.intro ssz (And.intro srt (And.intro slt (And.intro tg (And.intro tr (And.intro tb (And.intro own9 (And.intro h10' (And.intro apn (And.intro ti hlen)))))))))))
          clear so ssz srt slt tg tr tb own9 h10' apn ti hlen at9 at10 g5 g6 hnil5 hnil6 h9' hw5 p9 p10 bb2 hk1 hk2 apS y1 y2 R2 H2 HG HT2 c0
          generalize takeS s x.at_ x.n = s' at *
          generalize ats ++ [l] = ats' at *
          generalize gones ++ [gv] = gones' at *
          go_loopw [14, 15] (fun sv jv wr' => InRel w6 gones' k sv jv wr') (fun _ jv _ => (intOf jv + 1).toNat)
          case atStart => exact ⟨⟨0, rfl⟩, .inr ⟨k, by omega, rfl, by rw [List.drop_of_length_le (by have := V.out.2.2.2.2.2.2.2.2.2.2.2; omega)]; rfl⟩⟩
          case round =>
            obtain ⟨⟨q, rfl⟩, hrel⟩ := hrel
            rcases hrel with rfl | ⟨i, hik, rfl, rfl⟩
            · go_wp2
              exact ⟨out_step hlt V.out q, by simp [intOf]; omega⟩
            · have c9c := rd9.out i (by omega)
              have c10c := rd10.out i (by omega)
              obtain ⟨vs, v2, v3, v4, _, _, _, _, _, _, ti, hlen⟩ := V.out
              have hgo := ti.go i (by omega)
              have hti := ti.ti i (by omega)
              have hbd := ti.bd i (by omega)
              have hdb := drop_bounds sz hcz hcz1 gones' (by omega) (by rw [← v2]; exact ti.go) i
              have hdb1 := drop_bounds sz hcz hcz1 gones' (by omega) (by rw [← v2]; exact ti.go) (i + 1)
              have htd := tot_drop gones' i (by omega)
              have hh := vs.h0
              rw [v2, v3, ← v4] at hbd
              rw [v2] at hgo
              rw [← v4] at hti
              clear vs v2 v3 v4 ti hlen
              generalize gones'.getD i 0 = gi at *
              generalize ats'.getD i 0 = ai at *
              have HT := Lib.hid htd
              clear htd
              have hbd2 : tot (gones'.drop i) ≤ sz + rt * (l - ai) := by omega
              have HB := Lib.hid hbd2
              clear hbd hbd2
              have hsum : tot (gones'.drop (i + 1)) + gi = tot (gones'.drop i) := by rw [HT.out]; omega
              have HS2 := Lib.hid hsum
              clear hsum
              generalize htot : tot (gones'.drop (i + 1)) = t1 at *
              clear htot
              generalize htot2 : tot (gones'.drop i) = t2 at *
              have HT2 := Lib.hid htot2
              clear htot2
              have ht1 : t1 + gi ≤ 107374182400 := by rw [HS2.out]; exact hdb.2
              go_wp2_with fail
              rw [HS2.out]
              have hi0 : (0 : Int) ≤ (i : Int) := Int.natCast_nonneg _
              have hi1 : (i : Int) < (k : Int) + 1 := by omega
              have hwl : IntKind.i64.wrap (l - ai) = l - ai := IntWalk.i64_in _ (by omega)
              go_quiet ((go_at_call 24; exact quiet_at (mul_c rt (l - ai) _ (by omega) (by omega) (by omega) (by omega))))
              clear hwl hi1
              have hmb := mulV_bd rt (l - ai)
              go_wp2_with fail
              refine (add_c sz _ _ (by omega) (by omega) (by omega) (by omega)).mono ?_
              rintro e w7 ⟨rfl, rfl⟩
              have HC : Hid ((mulV rt (l - ai)).2 = true → (addV sz (mulV rt (l - ai)).1).2 = true → ¬ (addV sz (mulV rt (l - ai)).1).1 < t2) := by
                intro h1 h2
                have e1 := (mul_fit h1).1
                have e2 := (add_over h2).1
                rw [e2, e1]
                have := HB.out
                omega
              generalize mulV rt (l - ai) = mv at *
              generalize addV sz mv.1 = av at *
              cases h1 : mv.2
              · clear h1
                go_wp2
                exact ⟨in_step HT2.out hik, by simp [intOf]⟩
              · cases h2 : av.2
                · clear h1 h2
                  go_wp2
                  exact ⟨in_step HT2.out hik, by simp [intOf]⟩
                · have h3 := HC.out h1 h2
                  clear h1 h2
                  go_wp2
                  exact ⟨in_step HT2.out hik, by simp [intOf]⟩
    · have hkm2 : k = m := by omega
      subst hkm2
      clear hs hg hr ho9 ho10 hap hinv hsz hrt
      go_wp2
      go_returns
      exact ⟨rfl, hb⟩
theorem bound_row (size rate : Int) (A : Option Addr) (n c : Nat) (w : World) (_ : -9223372036854775808 ≤ size) (_ : size ≤ 9223372036854775807) (_ : -9223372036854775808 ≤ rate) (_ : rate ≤ 9223372036854775807)
    (h : n ≤ c) (hm : c ≤ 9223372036854775807) (xs : List Stp) (hx : Steps3 w A n xs) : Calls Try.prog 5 #[.int .i64 size, .int .i64 rate, .slice A n c] w (Out true w) := bound_c size rate A n c w h hm xs hx
end Go.Proofs.Ytmfhilddemgabaa
