/- Contracts. -/
import Derived.Test.YtppbgkadpomblaaProg
import Derived.Test.YtppbgkadpomblaaA7
import Derived.Tactics
import Derived.Tactics2
import Derived.WalkKit
import Derived.WalkSpells
import Derived.WalkLawsBesides
import Derived.StillTactics
import Derived.StillTailTactics
import Derived.OwnWalk
import Derived.Laws.Pointers
import Derived.Laws.ResultCell
import Derived.Deep.RegionHeld3
import Derived.Deep.RegionWith
import Derived.Deep.RegionLaw
import Derived.Deep.AppendLies
import Derived.Deep.QuietTactic
import Derived.BigQuiet
import Derived.LoopTactic
import Derived.Deep.LoopGhost
import Derived.Deep.DeepCutAuto
import Derived.Deep.DeepFit
import Derived.Maps.AppendAt
import Derived.Below
import Derived.Lib.Hide
import Derived.Handy
import Derived.KernelRfl
import Derived.IntWalk
import Derived.Laws.AppendOwnNone
import Derived.Laws.IdiomStrings
namespace Go.Proofs.Ytppbgkadpomblaa
set_option linter.unusedVariables false
set_option linter.unusedSimpArgs false
open Go.RowKit

def oagg (o : Opp) : Value := .agg #[.int .i64 o.kind, .int .i64 o.at_]
/-- An empty list is nil, and nil is empty. -/
def SNil (A : Option Addr) (n c : Nat) : Prop := (A = none ∨ n = 0) → A = none ∧ n = 0 ∧ c = 0
/-- The deque's blocks, and those of F besides: in none of them lies the page's list. -/
def FF (g : Nat) (v : Value) (F : Nat → Prop) : Nat → Prop := fun k => Foot g v k ∨ F k
/-- What the page's list, and the deque, are behind a call. -/
def StepP (g b : Nat) (v : Value) (F : Nat → Prop) (l : List Cl) (w : World) (e : Ending) (w' : World) : Prop :=
  ∃ A c v', e = .returned (.tuple #[.slice A l.length c, .bool true]) ∧ SNil A l.length c ∧ DqN w' g b v' l ∧ Rd w' (FF g v' F) 2 A l.length (crows l) ∧ Tch (Foot g v) w w' ∧ (∀ k, v'.ownBlock = some k → v.ownBlock = some k ∨ w.heap.size ≤ k)

theorem own_snil {w : World} {base n size c : Nat} {e : TypeId} {A : Option Addr} {xs : List Value} (h : w.ownsRow base e size (.slice A n c) n xs) (hn : 0 < n) : SNil A n c := by
  rintro (hA | h0)
  · subst hA
    rcases h.2 with ⟨h, h2⟩ | ⟨g', cap, cur, h, _⟩
    · omega
    · cases h
  · omega
/-- The deque first, then a new list. -/
theorem fin_new {F : Nat → Prop} {g b c2 n2 : Nat} {v v' : Value} {A2 : Option Addr} {l' : List Cl} {w w1 w2 : World} (hn : n2 = l'.length) (hp : 0 < n2) (t1 : Tch (Foot g v) w w1) (hd : DqN w1 g b v' l') (hv' : ∀ k, v'.ownBlock = some k → v.ownBlock = some k ∨ w.heap.size ≤ k)
    (hF : ∀ k, F k → k < w.heap.size) (T2 : Tch No w1 w2) (hown : w2.ownsRow w1.heap.size 30 2 (.slice A2 n2 c2) n2 (crows l')) : StepP g b v F l' w (.returned (.tuple #[.slice A2 n2 c2, .bool true])) w2 := by
  subst hn
  have hb := own_base hown
  have hs := t1.size
  obtain ⟨A, c, hA, hr⟩ := Rd.of_own (S := FF g v' F) hown (fun k hk f => by
    have h1 := hb k hk
    rcases f with (f | f) | f
    · have := hd.lt; omega
    · have := own_lt hd.own k f; omega
    · have := hF k f; omega)
  injection hA with hA _ hc
  subst hA hc
  exact ⟨A2, c2, v', rfl, own_snil hown hp, hd.tch T2, hr, t1.and T2.no, hv'⟩
/-- The deque, and the list as it was. -/
theorem fin_old {F : Nat → Prop} {g b c n : Nat} {v v' : Value} {A : Option Addr} {l l' : List Cl} {w w1 w2 : World} (hl : l' = l) (hn : n = l.length) (hs : SNil A l.length c) (hr : Rd w (FF g v F) 2 A l.length (crows l)) (t1 : Tch (Foot g v) w w1) (hd : DqN w1 g b v' l') (hv' : ∀ k, v'.ownBlock = some k → v.ownBlock = some k ∨ w.heap.size ≤ k)
    (T2 : Tch No w1 w2) : StepP g b v F l' w (.returned (.tuple #[.slice A n c, .bool true])) w2 := by
  subst hl
  subst hn
  refine ⟨A, c, v', rfl, hs, hd.tch T2, ?_, t1.and T2.no, hv'⟩
  refine ⟨hr.1, fun hp => ?_⟩
  obtain ⟨q, off, hA, hq, hqs, hc⟩ := hr.2 hp
  have hq1 : ¬ Foot g v q := fun f => hq (.inl f)
  refine ⟨q, off, hA, ?_, by have := t1.size; have := T2.size; omega, fun j u hu => T2.cell (fun f => f) (t1.cell hq1 (hc j u hu))⟩
  rintro ((f | f) | f)
  · exact hq1 (.inl f)
  · rcases hv' q f with h | h
    · exact hq1 (.inr h)
    · omega
  · exact hq (.inr f)

theorem newsb (W : World) (x : Cl) (ob : Obj) : ∀ j u, (ccells x)[j]? = some u → ((W.alloc ob).alloc (.cells (ccells x).toArray 30)).cell? ((⟨W.heap.size + 1, 0, none⟩ : Addr).add j) = some u := by
  intro j u hu
  rw [addr_add]
  have := (Blk.new (W.alloc ob) 30 (ccells x).toArray).cell j
  rw [World.size_alloc] at this
  rw [this]
  simpa using hu
theorem newsa (W : World) (x : Cl) : ∀ j u, (ccells x)[j]? = some u → (W.alloc (.cells (ccells x).toArray 30)).cell? ((⟨W.heap.size, 0, none⟩ : Addr).add j) = some u := by
  intro j u hu
  rw [addr_add]
  have := (Blk.new W 30 (ccells x).toArray).cell j
  rw [this]
  simpa using hu
theorem ccells_one1 (x : Cl) : ∀ u ∈ ccells x, u.oneCell' = true := by
  intro u hu
  unfold ccells at hu
  simp at hu
  rcases hu with rfl | rfl <;> rfl

set_option maxHeartbeats 1600000 in
set_option maxRecDepth 100000 in
theorem step_push0 (F : Nat → Prop) (g b : Nat) (v : Value) (A : Option Addr) (c : Nat) (o : Opp) (w : World) (ht : DqN w g b v []) (hb : b ≤ w.heap.size) (hF : ∀ k, F k → k < w.heap.size) (hnil : SNil A 0 c) (h1 : o.kind = 1) :
    Calls Try.prog 49 #[.pointer (some ⟨g, 0, none⟩), .slice A 0 c, oagg o] w (StepP g b v F [⟨o.at_, 1⟩] w) := by
  obtain ⟨i0, hi0, hz0, hz1, hz2⟩ := info_parts Try.info30
  obtain ⟨rfl, _, rfl⟩ := hnil (.inr rfl)
  have h2 : (o.kind == 1) = true := by simpa using h1
  have HT := Lib.hid ht
  have hk3 : 0 + 1 ≤ maxLen := by decide
  clear h1 ht hnil
  unfold oagg
  go_enter Try.func49, Try.ntmps49
  go_wp2_with fail
  refine (push_c g 0 b 26 #[v] v [] o.at_ _ (HT.out.tch ((Tch.refl No w).alloc _)) (le_alloc hb _) (by simp) (by unfold CellsOk; simp)).mono ?_
  rintro e w1 ⟨v1, rfl, d1, t1, hv1⟩
  rw [show pushB [] o.at_ = true from rfl]
  have D1 : Hid (DqN w1 g b v1 [⟨o.at_, 1⟩]) := d1
  have t1' : Tch (Foot g v) w w1 := ((Tch.refl (Foot g v) w).alloc (.cells #[.int .i64 o.kind, .int .i64 o.at_] 89)).and t1
  have T1 := Lib.hid t1'
  have hv1' : ∀ k, v1.ownBlock = some k → v.ownBlock = some k ∨ w.heap.size ≤ k := fun k hk => (hv1 k hk).imp id (fun h => by rw [World.size_alloc] at h; omega)
  have HV1 := Lib.hid hv1'
  have bx : Blk w1 w.heap.size 89 #[.int .i64 o.kind, .int .i64 o.at_] := t1.blk (Blk.new w 89 _) (fun f => by
    rcases f with f | f
    · have := HT.out.lt; omega
    · have := own_lt HT.out.own _ f; omega)
  obtain ⟨x0, x1⟩ := cells2 bx
  have hsz := t1'.size
  clear d1 t1 t1' hv1 hv1' bx
  go_wp2_with fail
  go_quiet (fail)
  have DD : Hid (DqN (w1.drewN nq) g b v1 [⟨o.at_, 1⟩]) := D1.out.tch ((Tch.refl No w1).drewN nq)
  have TD : Hid (Tch (Foot g v) w (w1.drewN nq)) := T1.out.drewN nq
  have x0 : (w1.drewN nq).cell? ⟨w.heap.size, 0, none⟩ = some (.int .i64 o.kind) := x0
  have x1 : (w1.drewN nq).cell? ⟨w.heap.size, 1, none⟩ = some (.int .i64 o.at_) := x1
  have hsz : w.heap.size ≤ (w1.drewN nq).heap.size := hsz
  clear D1 T1
  generalize w1.drewN nq = wD at *
  go_wp2_with (at_builtin; go_must (refine wpList_append_own_none rfl (.tmp 38) (.tmp 39) _ rfl wD.heap.size 30 i0 2 Try.underlying24 hi0 _ 0 [] rfl (World.ownsRow_nil ..) rfl ?_))
  go_quiet (fail)
  have DE : Hid (DqN (wD.drewN nq) g b v1 [⟨o.at_, 1⟩]) := DD.out.tch ((Tch.refl No wD).drewN nq)
  have TE : Hid (Tch (Foot g v) w (wD.drewN nq)) := TD.out.drewN nq
  have x0 : (wD.drewN nq).cell? ⟨w.heap.size, 0, none⟩ = some (.int .i64 o.kind) := x0
  have x1 : (wD.drewN nq).cell? ⟨w.heap.size, 1, none⟩ = some (.int .i64 o.at_) := x1
  have hsz : w.heap.size ≤ (wD.drewN nq).heap.size := hsz
  clear DD TD
  generalize wD.drewN nq = wE at *
  go_wp2_with (at_builtin; go_must (refine wpList_append_lies _ rfl (.tmp 68) (.tmp 72) _ rfl wE.heap.size 30 i0 _ 2 16 Try.underlying24 hi0 hz0 hz1 hz2 rfl (by decide) (.slice none 0 0) 0 [] rfl (World.ownsRow_nil ..) ⟨wE.heap.size, 0, none⟩ 1 1 (ccells ⟨o.at_, 1⟩) rfl rfl (newsa wE ⟨o.at_, 1⟩) (ccells_one1 _) (by omega) hk3 (by decide) (le_alloc (Nat.le_refl _) _) (wE.heap.size + 1) (by simp) ?_); intro a2 c2 w2 hown2 hg2 hat2 hlt2)
  go_returns
  exact fin_new (l' := [⟨o.at_, 1⟩]) rfl (by decide) TE.out DE.out HV1.out hF (((Tch.refl No wE).alloc _).and (Tch.of_grown hg2 (by simp [Value.ownBlock]))) hown2

theorem rd_after {F : Nat → Prop} {g n : Nat} {v : Value} {A : Option Addr} {xs : List Value} {w w1 : World} (hr : Rd w (FF g v F) 2 A n xs) (t : Tch (Foot g v) w w1) : Rd w1 No 2 A n xs :=
  ((hr.mono (T := Foot g v) (fun k _ f => .inl f)).tch t).mono (fun _ _ f => f.elim)
theorem box_after {g : Nat} {v : Value} {l : List Cl} {b : Nat} {w w1 : World} {cs : Array Value} {t : TypeId} (h : DqN w g b v l) (k : Tch (Foot g v) (w.alloc (.cells cs t)) w1) : Blk w1 w.heap.size t cs := k.blk (Blk.new w t _) (fun f => by
    rcases f with f | f
    · have := h.lt; omega
    · have := own_lt h.own _ f; omega)

set_option maxHeartbeats 1600000 in
set_option maxRecDepth 100000 in
theorem step_push1 (F : Nat → Prop) (g b : Nat) (v : Value) (p : List Cl) (x : Cl) (A : Option Addr) (c : Nat) (o : Opp) (w : World) (ht : DqN w g b v (p ++ [x])) (hb : b ≤ w.heap.size) (hr : Rd w (FF g v F) 2 A (p.length + 1) (crows (p ++ [x]))) (hF : ∀ k, F k → k < w.heap.size) (hnil : SNil A (p.length + 1) c) (hl : p.length ≤ 30000) (hok : CellsOk (p ++ [x])) (h1 : o.kind = 1) (hlt : o.at_ < x.at_) :
    Calls Try.prog 49 #[.pointer (some ⟨g, 0, none⟩), .slice A (p.length + 1) c, oagg o] w (StepP g b v F (p ++ [x]) w) := by
  obtain ⟨i0, hi0, hz0, hz1, hz2⟩ := info_parts Try.info30
  have h2 : (o.kind == 1) = true := by simpa using h1
  obtain ⟨ad, rfl⟩ : ∃ ad, A = some ad := by
    cases A with
    | none => have := (hnil (.inl rfl)).2.1; omega
    | some ad => exact ⟨ad, rfl⟩
  have HT := Lib.hid ht
  have HR := Lib.hid hr
  have HS := Lib.hid hnil
  have HK := Lib.hid hok
  have hlen : (p ++ [x]).length = p.length + 1 := by simp
  have HL := Lib.hid hlen
  clear h1 ht hr hnil hok hlen
  unfold oagg
  go_enter Try.func49, Try.ntmps49
  go_wp2_with fail
  refine (push_c g 0 b 26 #[v] v (p ++ [x]) o.at_ _ (HT.out.tch ((Tch.refl No w).alloc _)) (le_alloc hb _) (by rw [HL.out]; omega) HK.out).mono ?_
  rintro e w1 ⟨v1, rfl, d1, t1, hv1⟩
  rw [(push_less p x o.at_ hlt).1] at d1
  rw [(push_less p x o.at_ hlt).2]
  have D1 : Hid (DqN w1 g b v1 (p ++ [x])) := d1
  have t1' : Tch (Foot g v) w w1 := ((Tch.refl (Foot g v) w).alloc (.cells #[.int .i64 o.kind, .int .i64 o.at_] 89)).and t1
  have T1 := Lib.hid t1'
  have hv1' : ∀ k, v1.ownBlock = some k → v.ownBlock = some k ∨ w.heap.size ≤ k := fun k hk => (hv1 k hk).imp id (fun h => by rw [World.size_alloc] at h; omega)
  have HV1 := Lib.hid hv1'
  have bx := box_after HT.out t1
  obtain ⟨x0, x1⟩ := cells2 bx
  have R1 := Lib.hid (rd_after HR.out t1')
  obtain ⟨q, off, y, hA, _, _, hy, d0, dn⟩ := rd_cl R1.out p.length (by omega)
  have hxy : y = x := by simpa using hy.symm
  subst hxy
  injection hA with hA
  subst hA
  have hsz := t1'.size
  clear d1 t1 t1' hv1 hv1' bx hy
  have hwr : IntKind.i64.wrap (p.length : Int) = p.length := IntWalk.i64_in _ (by omega)
  have hwr2 : IntKind.i64.wrap ((p.length : Int) + 1 - 1) = p.length := by rw [show (p.length : Int) + 1 - 1 = p.length by omega]; exact hwr
  have hwl : (p.length : Int) < (p.length : Int) + 1 := by omega
  have hn0 : (0 : Int) < (p.length : Int) + 1 := by omega
  have HW := Lib.hid (And.intro hwr hwr2)
  go_wp2_with fail
  go_quiet (fail)
  go_wp2
  go_returns
  exact fin_old rfl HL.out.symm (by rw [HL.out]; exact HS.out) (by rw [HL.out]; exact HR.out) T1.out D1.out HV1.out ((Tch.refl No w1).drewN nq)
end Go.Proofs.Ytppbgkadpomblaa
