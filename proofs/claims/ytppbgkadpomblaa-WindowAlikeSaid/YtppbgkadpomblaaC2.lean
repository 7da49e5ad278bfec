/- A span of time: contracts of the rest. Conditions: the span is one block, its numbers are those of a span. -/
import Derived.Test.YtppbgkadpomblaaProg
import Derived.Test.YtppbgkadpomblaaC1
import Derived.Tactics
import Derived.Tactics2
import Derived.WalkKit
import Derived.WalkSpells
import Derived.WalkLawsBesides
import Derived.StillTactics
import Derived.StillTailTactics
import Derived.OwnWalk
import Derived.Laws.Pointers
import Derived.Laws.ResultCell
import Derived.Deep.RegionHeld3
import Derived.Deep.RegionWith
import Derived.Deep.RegionLaw
import Derived.Deep.AppendLies
import Derived.Deep.QuietTactic
import Derived.BigQuiet
import Derived.LoopTactic
import Derived.Deep.LoopGhost
import Derived.Deep.DeepCutAuto
import Derived.Deep.DeepFit
import Derived.Maps.AppendAt
import Derived.Below
import Derived.Lib.Hide
import Derived.Handy
import Derived.KernelRfl
import Derived.IntWalk
import Derived.Laws.AppendOwnNone
import Derived.Laws.IdiomStrings
namespace Go.Proofs.Ytppbgkadpomblaa
set_option linter.unusedVariables false
set_option linter.unusedSimpArgs false
open Go.RowKit

theorem wn_two {r r' : Value} {g b : Nat} {t : TypeId} {v v1 : Value} {s s' : Wn} {w w1 w2 : World} {e e' : Ending} (hs : w.heap.size ≤ w1.heap.size) (t1 : Tch (Foot g v) w w1) (hv : ∀ k, v1.ownBlock = some k → v.ownBlock = some k ∨ w.heap.size ≤ k)
    (h : WnP r g b t v1 s' w1 e' w2) : WnP r g b t v s' w e' w2 := by
  obtain ⟨v2, rfl, h1, h2, h3⟩ := h
  exact ⟨v2, rfl, h1, foot_two t1 hv h2, own_two hs hv h3⟩
theorem foot_self {g b : Nat} {t : TypeId} {v : Value} {s : Wn} {w w' : World} (h : Wl w g b t v s) (k : Tch No w w') {r : Value} : WnP r g b t v s w (.returned r) w' :=
  ⟨v, rfl, h.tch k, k.no, fun k hk => .inl hk⟩

def loW (lo : Int) : Int := max lo 0
def hiW (lo hi : Int) : Int := if hi = -1 then -1 else max hi (loW lo)
def newW (lo hi : Int) : Wn := ⟨loW lo, hiW lo hi, 0, []⟩
theorem new_ok (lo hi : Int) (h0 : lo ≤ 9223372036854775807) (h1 : hi ≤ 9223372036854775807) : (newW lo hi).Ok := by
  refine ⟨?_, ?_, ?_, ?_, ?_, ?_, (by intro x hx; cases hx), by simp [newW]⟩
  · show 0 ≤ max lo 0; omega
  · show max lo 0 ≤ _; omega
  · show -1 ≤ hiW lo hi; unfold hiW loW; split <;> omega
  · show hiW lo hi ≤ _; unfold hiW loW; split <;> omega
  · show (0 : Int) ≤ 0; omega
  · show (0 : Int) ≤ _; omega
set_option maxHeartbeats 1600000 in
theorem start_c (lo hi : Int) (w : World) : Calls Try.prog 51 #[.int .i64 lo, .int .i64 hi] w fun e w' => e = .returned (.agg (ncs (newW lo hi) (.slice none 0 0))) ∧ Tch No w w' := by
  obtain ⟨a, ha⟩ : ∃ a, a = loW lo := ⟨_, rfl⟩
  obtain ⟨z, hz⟩ : ∃ z, z = hiW lo hi := ⟨_, rfl⟩
  have hE : newW lo hi = ⟨a, z, 0, []⟩ := by rw [ha, hz]; rfl
  rw [hE]
  unfold hiW at hz
  rw [← ha] at hz
  unfold loW at ha
  clear hE
  rcases (by omega : hi = -1 ∨ hi ≠ -1) with hh | hh
  · have hb1 : (hi != -1) = false := by simpa using hh
    rw [if_pos hh] at hz
    subst hh
    subst hz
    rcases (by omega : (lo < 0 ∧ a = 0) ∨ (0 ≤ lo ∧ a = lo)) with ⟨h, rfl⟩ | ⟨h, rfl⟩
    all_goals
      clear ha
      go_enter Try.func51, Try.ntmps51
      go_wp2
      go_returns
      exact ⟨rfl, ((Tch.refl No w).alloc _)⟩
  · have hb1 : (hi != -1) = true := by simpa using hh
    rw [if_neg hh] at hz
    rcases (by omega : (lo < 0 ∧ a = 0) ∨ (0 ≤ lo ∧ a = lo)) with ⟨h, rfl⟩ | ⟨h, rfl⟩
    · rcases (by omega : (hi < 0 ∧ z = 0) ∨ (0 ≤ hi ∧ z = hi)) with ⟨h2, rfl⟩ | ⟨h2, rfl⟩
      all_goals
        clear ha hz hh
        go_enter Try.func51, Try.ntmps51
        go_wp2
        go_returns
        exact ⟨rfl, ((Tch.refl No w).alloc _)⟩
    · rcases (by omega : (hi < a ∧ z = a) ∨ (a ≤ hi ∧ z = hi)) with ⟨h2, rfl⟩ | ⟨h2, rfl⟩
      all_goals
        clear ha hz hh
        go_enter Try.func51, Try.ntmps51
        go_wp2
        go_returns
        exact ⟨rfl, ((Tch.refl No w).alloc _)⟩

set_option maxHeartbeats 3200000 in
set_option maxRecDepth 100000 in
theorem ostep_c (g b : Nat) (v : Value) (s : Wn) (m : Int) (f : Bool) (w : World) (h : Wl w g b 80 v s) (hb : b ≤ w.heap.size) (hs : s.Ok) (ht : m ≤ 9223372036854775807) (hn : s.l.length ≤ 700000) :
    Calls Try.prog 36 #[.pointer (some ⟨g, 0, none⟩), .int .i64 m, .bool f] w (WnP (.bool (wasW (stepW s m false f))) g b 80 v (stepW s m false f) w) := by
  have ok1 := come_ok hs ht
  have ln1 := come_len s m
  obtain ⟨c0, c1, c2, c3, c4⟩ := cells5 h.blk
  have H := Lib.hid h
  have HS := Lib.hid hs
  clear h hs
  cases f
  · show Calls _ _ _ _ (WnP (.bool (wasW (comeW s m))) g b 80 v (comeW s m) w)
    go_enter Try.func36, Try.ntmps36
    go_wp2_with fail
    refine (come_c g b 80 v s m _ H.out HS.out ht).mono ?_
    rintro e w1 ⟨v1, rfl, d1, t1, hv1⟩
    have D1 := Lib.hid d1
    have T1 := Lib.hid t1
    have HV1 := Lib.hid hv1
    have hs1 := t1.size
    clear d1 t1 hv1 c0 c1 c2 c3 c4
    generalize comeW s m = a at *
    have OK1 := Lib.hid ok1
    clear ok1
    go_wp2_with fail
    refine (was_c g b 80 v1 a _ D1.out OK1.out).mono ?_
    rintro e w3 ⟨rfl, t3⟩
    go_wp2
    go_returns
    exact ⟨v1, rfl, D1.out.tch t3, T1.out.and t3.no, HV1.out⟩
  · show Calls _ _ _ _ (WnP (.bool (wasW (putW (comeW s m)))) g b 80 v (putW (comeW s m)) w)
    go_enter Try.func36, Try.ntmps36
    go_wp2_with fail
    refine (come_c g b 80 v s m _ H.out HS.out ht).mono ?_
    rintro e w1 ⟨v1, rfl, d1, t1, hv1⟩
    have D1 := Lib.hid d1
    have T1 := Lib.hid t1
    have HV1 := Lib.hid hv1
    have hs1 := t1.size
    clear d1 t1 hv1 c0 c1 c2 c3 c4
    generalize comeW s m = a at *
    have OK1 := Lib.hid ok1
    clear ok1
    go_wp2_with fail
    refine (put_c g b 80 v1 a _ D1.out (Nat.le_trans hb hs1) OK1.out).mono ?_
    rintro e w2 ⟨v2, rfl, d2, t2, hv2⟩
    have D2 := Lib.hid d2
    have T2 := Lib.hid (foot_two T1.out HV1.out t2)
    have HV2 := Lib.hid (own_two hs1 HV1.out hv2)
    have OK2 := Lib.hid (put_ok OK1.out (by omega))
    clear d2 t2 hv2
    go_wp2_with fail
    refine (was_c g b 80 v2 _ _ D2.out OK2.out).mono ?_
    rintro e w3 ⟨rfl, t3⟩
    go_wp2
    go_returns
    exact ⟨v2, rfl, D2.out.tch t3, T2.out.and t3.no, HV2.out⟩

set_option maxHeartbeats 3200000 in
set_option maxRecDepth 100000 in
theorem sstep_c (g b : Nat) (v : Value) (s : Wn) (m : Int) (f q : Bool) (w : World) (h : Wl w g b 81 v s) (hb : b ≤ w.heap.size) (hs : s.Ok) (ht : m ≤ 9223372036854775807) (hn : s.l.length ≤ 700000) :
    Calls Try.prog 39 #[.pointer (some ⟨g, 0, none⟩), .int .i64 m, .bool f, .bool q] w (WnP (.bool (wasW (stepW s m (!f) q))) g b 81 v (stepW s m (!f) q) w) := by
  have ok1 := come_ok hs ht
  have ln1 := come_len s m
  obtain ⟨c0, c1, c2, c3, c4⟩ := cells5 h.blk
  have H := Lib.hid h
  have HS := Lib.hid hs
  clear h hs
  cases f
  · cases q
    · show Calls _ _ _ _ (WnP (.bool (wasW (clrW (comeW s m) true))) g b 81 v (clrW (comeW s m) true) w)
      go_enter Try.func39, Try.ntmps39
      go_wp2_with fail
      refine (come_c g b 81 v s m _ H.out HS.out ht).mono ?_
      rintro e w1 ⟨v1, rfl, d1, t1, hv1⟩
      have D1 := Lib.hid d1
      have T1 := Lib.hid t1
      have HV1 := Lib.hid hv1
      have hs1 := t1.size
      clear d1 t1 hv1 c0 c1 c2 c3 c4
      generalize comeW s m = a at *
      have OK1 := Lib.hid ok1
      clear ok1
      go_wp2_with fail
      refine (clear_c g 4 b 81 _ v1 _ _ D1.out).mono ?_
      rintro e w9 ⟨rfl, d9, t9⟩
      have D9 : Hid (Wl w9 g b 81 (.slice none 0 0) (clrW a true)) := d9
      have T9 := Lib.hid (T1.out.trans t9 (fun k hk => .inl (.inl hk)))
      have HV9 : Hid (∀ k, (Value.slice none 0 0).ownBlock = some k → v.ownBlock = some k ∨ w.heap.size ≤ k) := fun k hk => by cases hk
      have hs9 : w.heap.size ≤ w9.heap.size := Nat.le_trans hs1 t9.size
      have OK9 := Lib.hid (clr_ok OK1.out true)
      have ln9 : (clrW a true).l.length ≤ s.l.length := Nat.le_trans (clr_len a true) ln1
      clear d9 t9
      go_wp2_with fail
      refine (was_c g b 81 (.slice none 0 0) (clrW a true) _ D9.out OK9.out).mono ?_
      rintro e w3 ⟨rfl, t3⟩
      go_wp2
      go_returns
      exact ⟨(.slice none 0 0), rfl, D9.out.tch t3, T9.out.and t3.no, HV9.out⟩
    · show Calls _ _ _ _ (WnP (.bool (wasW (putW (clrW (comeW s m) true)))) g b 81 v (putW (clrW (comeW s m) true)) w)
      go_enter Try.func39, Try.ntmps39
      go_wp2_with fail
      refine (come_c g b 81 v s m _ H.out HS.out ht).mono ?_
      rintro e w1 ⟨v1, rfl, d1, t1, hv1⟩
      have D1 := Lib.hid d1
      have T1 := Lib.hid t1
      have HV1 := Lib.hid hv1
      have hs1 := t1.size
      clear d1 t1 hv1 c0 c1 c2 c3 c4
      generalize comeW s m = a at *
      have OK1 := Lib.hid ok1
      clear ok1
      go_wp2_with fail
      refine (clear_c g 4 b 81 _ v1 _ _ D1.out).mono ?_
      rintro e w9 ⟨rfl, d9, t9⟩
      have D9 : Hid (Wl w9 g b 81 (.slice none 0 0) (clrW a true)) := d9
      have T9 := Lib.hid (T1.out.trans t9 (fun k hk => .inl (.inl hk)))
      have HV9 : Hid (∀ k, (Value.slice none 0 0).ownBlock = some k → v.ownBlock = some k ∨ w.heap.size ≤ k) := fun k hk => by cases hk
      have hs9 : w.heap.size ≤ w9.heap.size := Nat.le_trans hs1 t9.size
      have OK9 := Lib.hid (clr_ok OK1.out true)
      have ln9 : (clrW a true).l.length ≤ s.l.length := Nat.le_trans (clr_len a true) ln1
      clear d9 t9
      go_wp2_with fail
      refine (put_c g b 81 (.slice none 0 0) (clrW a true) _ D9.out (Nat.le_trans hb hs9) OK9.out).mono ?_
      rintro e w2 ⟨v2, rfl, d2, t2, hv2⟩
      have D2 := Lib.hid d2
      have T2 := Lib.hid (foot_two T9.out HV9.out t2)
      have HV2 := Lib.hid (own_two hs9 HV9.out hv2)
      have OK2 := Lib.hid (put_ok OK9.out (by omega))
      clear d2 t2 hv2
      go_wp2_with fail
      refine (was_c g b 81 v2 _ _ D2.out OK2.out).mono ?_
      rintro e w3 ⟨rfl, t3⟩
      go_wp2
      go_returns
      exact ⟨v2, rfl, D2.out.tch t3, T2.out.and t3.no, HV2.out⟩
  · cases q
    · show Calls _ _ _ _ (WnP (.bool (wasW (comeW s m))) g b 81 v (comeW s m) w)
      go_enter Try.func39, Try.ntmps39
      go_wp2_with fail
      refine (come_c g b 81 v s m _ H.out HS.out ht).mono ?_
      rintro e w1 ⟨v1, rfl, d1, t1, hv1⟩
      have D1 := Lib.hid d1
      have T1 := Lib.hid t1
      have HV1 := Lib.hid hv1
      have hs1 := t1.size
      clear d1 t1 hv1 c0 c1 c2 c3 c4
      generalize comeW s m = a at *
      have OK1 := Lib.hid ok1
      clear ok1
      go_wp2_with fail
      refine (was_c g b 81 v1 a _ D1.out OK1.out).mono ?_
      rintro e w3 ⟨rfl, t3⟩
      go_wp2
      go_returns
      exact ⟨v1, rfl, D1.out.tch t3, T1.out.and t3.no, HV1.out⟩
    · show Calls _ _ _ _ (WnP (.bool (wasW (putW (comeW s m)))) g b 81 v (putW (comeW s m)) w)
      go_enter Try.func39, Try.ntmps39
      go_wp2_with fail
      refine (come_c g b 81 v s m _ H.out HS.out ht).mono ?_
      rintro e w1 ⟨v1, rfl, d1, t1, hv1⟩
      have D1 := Lib.hid d1
      have T1 := Lib.hid t1
      have HV1 := Lib.hid hv1
      have hs1 := t1.size
      clear d1 t1 hv1 c0 c1 c2 c3 c4
      generalize comeW s m = a at *
      have OK1 := Lib.hid ok1
      clear ok1
      go_wp2_with fail
      refine (put_c g b 81 v1 a _ D1.out (Nat.le_trans hb hs1) OK1.out).mono ?_
      rintro e w2 ⟨v2, rfl, d2, t2, hv2⟩
      have D2 := Lib.hid d2
      have T2 := Lib.hid (foot_two T1.out HV1.out t2)
      have HV2 := Lib.hid (own_two hs1 HV1.out hv2)
      have OK2 := Lib.hid (put_ok OK1.out (by omega))
      clear d2 t2 hv2
      go_wp2_with fail
      refine (was_c g b 81 v2 _ _ D2.out OK2.out).mono ?_
      rintro e w3 ⟨rfl, t3⟩
      go_wp2
      go_returns
      exact ⟨v2, rfl, D2.out.tch t3, T2.out.and t3.no, HV2.out⟩
theorem ocells_c (g b : Nat) (v : Value) (s : Wn) (w : World) (h : Wl w g b 80 v s) : Calls Try.prog 37 #[.pointer (some ⟨g, 0, none⟩)] w fun e w' => e = .returned (.int .i64 s.l.length) ∧ w = w' := by
  obtain ⟨A, c, rfl⟩ := h.form
  have c0 := h.at_
  have H := Lib.hid h
  clear h
  go_enter Try.func37, Try.ntmps37
  go_wp2_with fail
  refine (len_c g 4 A _ c _ c0).mono ?_
  rintro e w1 ⟨rfl, rfl⟩
  go_wp2
  go_returns
  exact ⟨rfl, rfl⟩
theorem ocells_nil (w : World) : Calls Try.prog 37 #[.pointer none] w fun e w' => e = .returned (.int .i64 0) ∧ w = w' := by
  go_enter Try.func37, Try.ntmps37
  go_wp2
  go_returns
  exact ⟨rfl, rfl⟩
theorem scells_c (g b : Nat) (v : Value) (s : Wn) (w : World) (h : Wl w g b 81 v s) : Calls Try.prog 40 #[.pointer (some ⟨g, 0, none⟩)] w fun e w' => e = .returned (.int .i64 s.l.length) ∧ w = w' := by
  obtain ⟨A, c, rfl⟩ := h.form
  have c0 := h.at_
  have H := Lib.hid h
  clear h
  go_enter Try.func40, Try.ntmps40
  go_wp2_with fail
  refine (len_c g 4 A _ c _ c0).mono ?_
  rintro e w1 ⟨rfl, rfl⟩
  go_wp2
  go_returns
  exact ⟨rfl, rfl⟩
theorem scells_nil (w : World) : Calls Try.prog 40 #[.pointer none] w fun e w' => e = .returned (.int .i64 0) ∧ w = w' := by
  go_enter Try.func40, Try.ntmps40
  go_wp2
  go_returns
  exact ⟨rfl, rfl⟩
theorem ostep_nil (t : Int) (f : Bool) (w : World) : Calls Try.prog 36 #[.pointer none, .int .i64 t, .bool f] w fun e w' => e = .returned (.bool false) ∧ w = w' := by
  go_enter Try.func36, Try.ntmps36
  go_wp2
  go_returns
  exact ⟨rfl, rfl⟩
theorem sstep_nil (t : Int) (f q : Bool) (w : World) : Calls Try.prog 39 #[.pointer none, .int .i64 t, .bool f, .bool q] w fun e w' => e = .returned (.bool false) ∧ w = w' := by
  go_enter Try.func39, Try.ntmps39
  go_wp2
  go_returns
  exact ⟨rfl, rfl⟩
/-- One that nobody made. -/
def OddW (w : World) (g : Nat) (t : TypeId) : Prop := Blk w g t #[.bool false, .int .i64 0, .int .i64 0, .int .i64 0, .slice none 0 0]
theorem ostep_odd (g : Nat) (t : Int) (f : Bool) (w : World) (h : OddW w g 80) : Calls Try.prog 36 #[.pointer (some ⟨g, 0, none⟩), .int .i64 t, .bool f] w fun e w' => e = .returned (.bool false) ∧ w = w' := by
  obtain ⟨c0, c1, c2, c3, c4⟩ := cells5 h
  clear h
  go_enter Try.func36, Try.ntmps36
  go_wp2
  go_returns
  exact ⟨rfl, rfl⟩
theorem sstep_odd (g : Nat) (t : Int) (f q : Bool) (w : World) (h : OddW w g 81) : Calls Try.prog 39 #[.pointer (some ⟨g, 0, none⟩), .int .i64 t, .bool f, .bool q] w fun e w' => e = .returned (.bool false) ∧ w = w' := by
  obtain ⟨c0, c1, c2, c3, c4⟩ := cells5 h
  clear h
  go_enter Try.func39, Try.ntmps39
  go_wp2
  go_returns
  exact ⟨rfl, rfl⟩
theorem ocells_odd (g : Nat) (w : World) (h : OddW w g 80) : Calls Try.prog 37 #[.pointer (some ⟨g, 0, none⟩)] w fun e w' => e = .returned (.int .i64 0) ∧ w = w' := by
  obtain ⟨c0, c1, c2, c3, c4⟩ := cells5 h
  clear h
  go_enter Try.func37, Try.ntmps37
  go_wp2_with fail
  refine (len_c g 4 none 0 0 _ c4).mono ?_
  rintro e w1 ⟨rfl, rfl⟩
  go_wp2
  go_returns
  exact ⟨rfl, rfl⟩
theorem oclone_nil (w : World) : Calls Try.prog 41 #[.pointer none] w fun e w' => e = .returned (.pointer none) ∧ w = w' := by
  go_enter Try.func41, Try.ntmps41
  go_wp2
  go_returns
  exact ⟨rfl, rfl⟩
theorem oclone_odd (g : Nat) (w : World) (h : OddW w g 80) : Calls Try.prog 41 #[.pointer (some ⟨g, 0, none⟩)] w fun e w' => e = .returned (.pointer none) ∧ w = w' := by
  obtain ⟨c0, c1, c2, c3, c4⟩ := cells5 h
  clear h
  go_enter Try.func41, Try.ntmps41
  go_wp2
  go_returns
  exact ⟨rfl, rfl⟩
theorem scells_odd (g : Nat) (w : World) (h : OddW w g 81) : Calls Try.prog 40 #[.pointer (some ⟨g, 0, none⟩)] w fun e w' => e = .returned (.int .i64 0) ∧ w = w' := by
  obtain ⟨c0, c1, c2, c3, c4⟩ := cells5 h
  clear h
  go_enter Try.func40, Try.ntmps40
  go_wp2_with fail
  refine (len_c g 4 none 0 0 _ c4).mono ?_
  rintro e w1 ⟨rfl, rfl⟩
  go_wp2
  go_returns
  exact ⟨rfl, rfl⟩
theorem sclone_nil (w : World) : Calls Try.prog 42 #[.pointer none] w fun e w' => e = .returned (.pointer none) ∧ w = w' := by
  go_enter Try.func42, Try.ntmps42
  go_wp2
  go_returns
  exact ⟨rfl, rfl⟩
theorem sclone_odd (g : Nat) (w : World) (h : OddW w g 81) : Calls Try.prog 42 #[.pointer (some ⟨g, 0, none⟩)] w fun e w' => e = .returned (.pointer none) ∧ w = w' := by
  obtain ⟨c0, c1, c2, c3, c4⟩ := cells5 h
  clear h
  go_enter Try.func42, Try.ntmps42
  go_wp2
  go_returns
  exact ⟨rfl, rfl⟩
end Go.Proofs.Ytppbgkadpomblaa
