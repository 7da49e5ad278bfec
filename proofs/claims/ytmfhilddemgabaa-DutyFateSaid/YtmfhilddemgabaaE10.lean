/- The duty law's package: pending and step. Conditions: the page's list reads as the table's; it lies in no block of the table's, nor of F's. -/
import Derived.Test.YtmfhilddemgabaaProg
import Derived.Test.YtmfhilddemgabaaD9
import Derived.Tactics
import Derived.Tactics2
import Derived.WalkKit
import Derived.WalkSpells
import Derived.WalkLawsBesides
import Derived.StillTactics
import Derived.StillTailTactics
import Derived.OwnWalk
import Derived.Laws.Pointers
import Derived.Laws.ResultCell
import Derived.Deep.RegionHeld3
import Derived.Deep.RegionWith
import Derived.Deep.RegionLaw
import Derived.Deep.AppendLies
import Derived.Deep.QuietTactic
import Derived.BigQuiet
import Derived.LoopTactic
import Derived.Deep.LoopGhost
import Derived.Deep.DeepCutAuto
import Derived.Deep.DeepFit
import Derived.Maps.AppendAt
import Derived.Below
import Derived.Lib.Hide
import Derived.Handy
import Derived.KernelRfl
namespace Go.Proofs.Ytmfhilddemgabaa
set_option linter.unusedVariables false
set_option linter.unusedSimpArgs false
open Go.RowKit

/-- What is told by the page's pending. -/
def PendQ (n : Nat) (w : World) (e : Ending) (w' : World) : Prop := e = .returned (.int .i64 n) ∧ w' = w

set_option maxHeartbeats 800000 in
theorem pending49_c (S : Nat → Prop) (A : Option Addr) (c : Nat) (l : List Ins) (id : Int) (w : World) (hr : Rd w S 6 A l.length (rows l)) (hl : l.length ≤ 1000000) :
    Calls Try.prog 49 #[.slice A l.length c, .int .i64 id] w (PendQ (pend l id) w) := by
  have HR := Lib.hid hr
  clear hr
  go_enter Try.func49, Try.ntmps49
  go_wp2_with fail
  go_loopw [5, 6] (fun nv iv wr => ∃ i : Nat, i ≤ l.length ∧ iv = .int .i64 i ∧ nv = .int .i64 (pend (l.take i) id) ∧ wr = w) (fun _ iv _ => l.length - (intOf iv).toNat)
  case atStart => exact ⟨0, by omega, rfl, rfl, rfl⟩
  case round =>
    obtain ⟨i, hil, rfl, rfl, rfl⟩ := hrel
    have hpl := pend_le l id i
    by_cases hlt : i < l.length
    · obtain ⟨g, off, x, hA, _, _, hx, a0, a1, a2, a3, a4, a5⟩ := rd_ins HR.out i hlt
      subst hA
      have hps := pend_succ l id i x hx
      have HP := Lib.hid hps
      clear hps hx
      by_cases h1 : x.id = id
      · have h2 : (x.id == id) = true := by simpa using h1
        by_cases h3 : x.state = 1
        · have h4 : (x.state == 1) = true := by simpa using h3
          have HH : Hid (pendP id x = true) := by show pendP id x = true; unfold pendP; rw [h2, h4]; rfl
          clear h1 h3
          go_wp2
          refine ⟨⟨i + 1, by omega, by simp, ?_, trivial⟩, by simp [intOf]; omega⟩
          rw [HP.out, if_pos HH.out]; simp
        · have h4 : (x.state == 1) = false := by simpa using h3
          have HH : Hid (pendP id x = false) := by show pendP id x = false; unfold pendP; rw [h2, h4]; rfl
          clear h1 h3
          go_wp2
          refine ⟨⟨i + 1, by omega, by simp, ?_, trivial⟩, by simp [intOf]; omega⟩
          rw [HP.out, if_neg (by rw [HH.out]; simp)]; simp
      · have h2 : (x.id == id) = false := by simpa using h1
        have HH : Hid (pendP id x = false) := by show pendP id x = false; unfold pendP; rw [h2]; rfl
        clear h1
        go_wp2
        refine ⟨⟨i + 1, by omega, by simp, ?_, trivial⟩, by simp [intOf]; omega⟩
        rw [HP.out, if_neg (by rw [HH.out]; simp)]; simp
    · have hin : i = l.length := by omega
      subst hin
      have e0 : l.take l.length = l := List.take_length
      rw [e0]
      clear e0 hpl
      go_wp2
      go_returns
      exact ⟨rfl, rfl⟩

/-! ## step -/
def stepL (l : List Ins) (o : Opp) : List Ins := if o.kind = 1 then l ++ [{ o.x with state := 1 }] else turnL o.kind (pK o) l
theorem stepL_length (l : List Ins) (o : Opp) : (stepL l o).length ≤ l.length + 1 := by unfold stepL; split <;> simp [turnL_length]
def oagg (o : Opp) : Value := .agg #[.int .i64 o.kind, .int .i64 o.x.id, .int .i64 o.x.place, .string o.x.act, .int .i64 o.x.due, .bool o.x.keep, .int .i64 o.x.state, .int .i64 o.at_]
def SNil (A : Option Addr) (n c : Nat) : Prop := A = none → n = 0 ∧ c = 0
/-- The table's blocks, and those of F besides: in none of them lies the page's list. -/
def FF (g : Nat) (v : Value) (F : Nat → Prop) : Nat → Prop := fun k => Foot g v k ∨ F k
/-- What the page's list, and the table, are behind a call. -/
def StepP (g b : Nat) (v : Value) (F : Nat → Prop) (l : List Ins) (w : World) (e : Ending) (w' : World) : Prop :=
  ∃ A c v', e = .returned (.tuple #[.slice A l.length c, .bool true]) ∧ SNil A l.length c ∧ Tab w' g b v' l ∧ Rd w' (FF g v' F) 6 A l.length (rows l) ∧ Tch (Foot g v) w w' ∧ (∀ k, v'.ownBlock = some k → v.ownBlock = some k ∨ w.heap.size ≤ k)

theorem own_snil {w : World} {base n size c : Nat} {e : TypeId} {A : Option Addr} {xs : List Value} (h : w.ownsRow base e size (.slice A n c) n xs) : SNil A n c := by
  intro hA; subst hA
  rcases h.2 with ⟨h, h2⟩ | ⟨g', cap, cur, h, _⟩
  · injection h with _ h3 h4; exact ⟨h3, h4⟩
  · cases h

theorem own_eq {a n c k : Nat} (h : (Value.slice (some ⟨a, 0, none⟩) n c).ownBlock = some k) : a = k := by simpa [Value.ownBlock] using h
theorem step_fin {F : Nat → Prop} {g b c2 n2 : Nat} {v v' : Value} {A2 : Option Addr} {l' : List Ins} {w w2 w3 : World} (hn : n2 = l'.length) (T2 : Tch No w w2) (hown2 : w2.ownsRow w.heap.size 23 6 (.slice A2 n2 c2) n2 (rows l')) (t3 : Tch (Foot g v) w2 w3) (hg : g < w.heap.size) (hF : ∀ k, F k → k < w.heap.size)
    (hv : ∀ k, v.ownBlock = some k → k < w.heap.size) (hv' : ∀ k, v'.ownBlock = some k → v.ownBlock = some k ∨ w2.heap.size ≤ k) (ht : Tab w3 g b v' l') : StepP g b v F l' w (.returned (.tuple #[.slice A2 n2 c2, .bool true])) w3 := by
  subst hn
  have hb := own_base hown2
  have hl := own_lt hown2
  have ho3 := t3.own hown2 (fun k hk f => by
    have h1 := hb k hk
    rcases f with f | f
    · omega
    · have := hv k f; omega)
  obtain ⟨A, c, hA, hr⟩ := Rd.of_own (S := FF g v' F) ho3 (fun k hk f => by
    have h1 := hb k hk
    have h2 := hl k hk
    rcases f with (f | f) | f
    · omega
    · rcases hv' k f with h | h
      · have := hv k h; omega
      · omega
    · have := hF k f; omega)
  injection hA with hA _ hc
  subst hA hc
  exact ⟨A2, c2, v', rfl, own_snil hown2, ht, hr, T2.no.and t3, fun k hk => (hv' k hk).imp id (fun h => Nat.le_trans T2.size h)⟩

theorem news6b (W : World) (x : Ins) (ob : Obj) : ∀ j u, (icells x)[j]? = some u → ((W.alloc ob).alloc (.cells (icells x).toArray 23)).cell? ((⟨W.heap.size + 1, 0, none⟩ : Addr).add j) = some u := by
  have := news6 (W.alloc ob) x
  rw [World.size_alloc] at this
  exact this

theorem news6c (W : World) (x : Ins) (o1 o2 : Obj) : ∀ j u, (icells x)[j]? = some u → (((W.alloc o1).alloc o2).alloc (.cells (icells x).toArray 23)).cell? ((⟨W.heap.size + 1 + 1, 0, none⟩ : Addr).add j) = some u := by
  have := news6b (W.alloc o1) x o2
  rw [World.size_alloc] at this
  exact this

set_option maxHeartbeats 1600000 in
set_option maxRecDepth 100000 in
theorem step_add (F : Nat → Prop) (g b : Nat) (v : Value) (l : List Ins) (A : Option Addr) (c : Nat) (o : Opp) (w : World) (ht : Tab w g b v l) (hb : b ≤ w.heap.size) (hr : Rd w (FF g v F) 6 A l.length (rows l)) (hF : ∀ k, F k → k < w.heap.size) (hnil : SNil A l.length c) (hl : l.length ≤ 999999) (h1 : o.kind = 1) :
    Calls Try.prog 44 #[.pointer (some ⟨g, 0, none⟩), .slice A l.length c, oagg o] w (StepP g b v F (stepL l o) w) := by
  obtain ⟨i0, hi0, hz0, hz1, hz2⟩ := info_parts Try.info23
  have h2 : (o.kind == 1) = true := by simpa using h1
  have H1 := Lib.hid h1
  have HT := Lib.hid ht
  have HR := Lib.hid hr
  have hgl := ht.1.lt
  clear h1 ht hr
  unfold oagg
  cases A with
  | none =>
    obtain ⟨e0, rfl⟩ := hnil rfl
    have e1 : l = [] := List.eq_nil_of_length_eq_zero e0
    subst e1
    have hs3 : w.heap.size ≤ (((w.alloc (.cells (ocells o).toArray 33)).alloc (.cells (icells { o.x with state := 1 }).toArray 23)).alloc (.cells (icells { o.x with state := 1 }).toArray 23)).heap.size := le_alloc (le_alloc (by simp) _) _
    have hsz : (((w.alloc (.cells (ocells o).toArray 33)).alloc (.cells (icells { o.x with state := 1 }).toArray 23)).alloc (.cells (icells { o.x with state := 1 }).toArray 23)).heap.size = w.heap.size + 1 + 1 + 1 := by simp
    have HS := Lib.hid hsz
    have hvl := own_lt HT.out.2
    have HV := Lib.hid hvl
    have bx : Blk (((w.alloc (.cells (ocells o).toArray 33)).alloc (.cells (icells { o.x with state := 1 }).toArray 23)).alloc (.cells (icells { o.x with state := 1 }).toArray 23)) w.heap.size 33 (ocells o).toArray := ((Blk.new w 33 (ocells o).toArray).alloc _).alloc _
    have BX := Lib.hid bx
    have hk3 : 0 + 1 ≤ maxLen := by decide
    clear hvl hsz hnil bx
    go_enter Try.func44, Try.ntmps44
    go_wp2_with (first
      | (at_builtin; refine wpList_append_lies _ rfl (.tmp 21) (.tmp 23) _ rfl w.heap.size 23 i0 _ 6 56 Try.underlying28 hi0 hz0 hz1 hz2 rfl (by decide) (.slice none 0 0) 0 [] rfl (World.ownsRow_nil ..) ⟨w.heap.size + 1 + 1, 0, none⟩ 1 1 (icells { o.x with state := 1 }) rfl rfl (news6c w { o.x with state := 1 } _ _) (icells_one1 _) (by omega) hk3 (by decide) hs3 (w.heap.size + 1 + 1 + 1) HS.out ?_; intro a2 c2 w2 hown2 hg2 hat2 hlt2; have by_ := blk_gr hg2 (by simp [Value.ownBlock]) BX.out; obtain ⟨y0, y1, y2, y3, y4, y5, y6, y7⟩ := cells8 by_; have t2 : Tch No w w2 := ((((Tch.refl No w).alloc _).alloc _).alloc _).and (Tch.of_grown hg2 (by simp [Value.ownBlock])); have hle2 := t2.size; have T2 := Lib.hid t2; have O2 := Lib.hid hown2; clear hown2 hat2 hg2 t2 by_)
      | (go_at_call 14; go_must (refine (add_c g b v [] o.x _ (tab_tch HT.out T2.out) (Nat.le_trans hb hle2) (by simp)).mono ?_); rintro e w3 ⟨rfl, a3, c3, ht3, t3, hat3⟩))
    go_returns
    have E1 : stepL [] o = [{ o.x with state := 1 }] := if_pos H1.out
    rw [E1]
    have O3 := O2.out
    exact step_fin (by simp) T2.out O3 t3 hgl hF HV.out (fun k hk => own_eq hk ▸ hat3) ht3
  | some ad =>
    have hbox : Blk (w.alloc (.cells (ocells o).toArray 33)) w.heap.size 33 (ocells o).toArray := Blk.new w 33 _
    have hcs : Hid (∀ j u, (rows l)[j]? = some u → (w.alloc (.cells (ocells o).toArray 33)).cell? (ad.add j) = some u) := rd_add (HR.out.tch ((Tch.refl _ w).alloc _))
    have hs1 : w.heap.size ≤ (w.alloc (.cells (ocells o).toArray 33)).heap.size := by simp
    have hone := icells_one l
    have hk1 : 0 + l.length ≤ maxLen := by unfold maxLen; omega
    have hk2 : (0 + l.length) * 56 ≤ 140737488355328 := by omega
    have HB := Lib.hid hbox
    clear hbox
    go_enter Try.func44, Try.ntmps44
    have hk3 : l.length + 1 ≤ maxLen := by unfold maxLen; omega
    have hk4 : (l.length + 1) * 56 ≤ 140737488355328 := by omega
    have hvl := own_lt HT.out.2
    have HV := Lib.hid hvl
    clear hvl
    go_wp2_with (first
      | (at_builtin; refine wpList_append_own_at _ rfl (.tmp 15) (.tmp 16) _ rfl w.heap.size 23 i0 _ 6 56 Try.underlying28 hi0 hz0 hz1 hz2 rfl (by decide) (.slice none 0 0) 0 [] rfl (World.ownsRow_nil ..) ad l.length c (rows l) rfl HR.out.1 hcs.out hone hk1 hk2 hs1 ?_; intro v1 w1 hown1 hg1 hnil1 hat1; have bx := blk_gr hg1 (by simp [Value.ownBlock]) HB.out; obtain ⟨x0, x1, x2, x3, x4, x5, x6, x7⟩ := cells8 bx; have BX := Lib.hid bx; clear bx; rw [Nat.zero_add, List.nil_append] at hown1; obtain ⟨A1, c1, rfl⟩ := own_slice hown1; have t1 : Tch No w w1 := ((Tch.refl No w).alloc _).and (Tch.of_grown hg1 (by simp [Value.ownBlock])); have hle1 := t1.size; have T1 := Lib.hid t1; have O1 := Lib.hid hown1; clear hown1 hnil1 hat1 hg1 t1; have hs3 : w.heap.size ≤ ((w1.alloc (.cells (icells { o.x with state := 1 }).toArray 23)).alloc (.cells (icells { o.x with state := 1 }).toArray 23)).heap.size := le_alloc (le_alloc hle1 _) _; have hsz : ((w1.alloc (.cells (icells { o.x with state := 1 }).toArray 23)).alloc (.cells (icells { o.x with state := 1 }).toArray 23)).heap.size = w1.heap.size + 1 + 1 := (World.size_alloc ..).trans (congrArg (· + 1) (World.size_alloc ..)); have HS := Lib.hid hsz; clear hsz)
      | (at_builtin; go_must (refine wpList_append_lies _ rfl (.tmp 21) (.tmp 23) _ rfl w.heap.size 23 i0 _ 6 56 Try.underlying28 hi0 hz0 hz1 hz2 rfl (by decide) (.slice A1 l.length c1) l.length (rows l) rfl ((O1.out.alloc _).alloc _) ⟨w1.heap.size + 1, 0, none⟩ 1 1 (icells { o.x with state := 1 }) rfl rfl (news6b w1 { o.x with state := 1 } _) (icells_one1 _) (by omega) hk3 hk4 hs3 (w1.heap.size + 1 + 1) HS.out ?_); intro a2 c2 w2 hown2 hg2 hat2 hlt2; have bx := blk_gr hg2 (own_blk_ne O1.out BX.out (by decide)) ((BX.out.alloc _).alloc _); obtain ⟨y0, y1, y2, y3, y4, y5, y6, y7⟩ := cells8 bx; have t2 : Tch No w w2 := ((T1.out.alloc _).alloc _).trans (Tch.of_grown (S := fun k => (Value.slice A1 l.length c1).ownBlock = some k) hg2 fun k hk => .inl hk) (fun k hk => .inr (own_base O1.out k hk)); have hle2 := t2.size; have T2 := Lib.hid t2; have O2 := Lib.hid hown2; clear hown2 hat2 hg2 t2 bx)
      | (go_at_call 14; go_must (refine (add_c g b v l o.x _ (tab_tch HT.out T2.out) (Nat.le_trans hb hle2) (by omega)).mono ?_); rintro e w3 ⟨rfl, a3, c3, ht3, t3, hat3⟩))
    go_returns
    have E1 : stepL l o = l ++ [{ o.x with state := 1 }] := if_pos H1.out
    rw [E1]
    have O3 := O2.out
    rw [rows_snoc] at O3
    exact step_fin (by simp) T2.out O3 t3 hgl hF HV.out (fun k hk => own_eq hk ▸ hat3) ht3
end Go.Proofs.Ytmfhilddemgabaa
