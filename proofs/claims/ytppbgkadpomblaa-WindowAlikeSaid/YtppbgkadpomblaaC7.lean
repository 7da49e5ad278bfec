/- What the window law reckons by itself: ends, times, counts. Conditions: the moments read as a list. -/
import Derived.Test.YtppbgkadpomblaaProg
import Derived.Test.YtppbgkadpomblaaC6
import Derived.Test.YtppbgkadpomblaaB3
import Derived.Tactics
import Derived.Tactics2
import Derived.WalkKit
import Derived.WalkSpells
import Derived.WalkLawsBesides
import Derived.StillTactics
import Derived.StillTailTactics
import Derived.OwnWalk
import Derived.Laws.Pointers
import Derived.Laws.ResultCell
import Derived.Deep.RegionHeld3
import Derived.Deep.RegionWith
import Derived.Deep.RegionLaw
import Derived.Deep.AppendLies
import Derived.Deep.QuietTactic
import Derived.BigQuiet
import Derived.LoopTactic
import Derived.Deep.LoopGhost
import Derived.Deep.DeepCutAuto
import Derived.Deep.DeepFit
import Derived.Maps.AppendAt
import Derived.Below
import Derived.Lib.Hide
import Derived.Handy
import Derived.KernelRfl
import Derived.IntWalk
import Derived.Laws.AppendOwnNone
import Derived.Laws.IdiomStrings
namespace Go.Proofs.Ytppbgkadpomblaa
set_option linter.unusedVariables false
set_option linter.unusedSimpArgs false
open Go.RowKit

set_option maxHeartbeats 1600000 in
theorem ends_c (lo hi : Int) (w : World) : Calls Try.prog 33 #[.int .i64 lo, .int .i64 hi] w fun e w' => e = .returned (.tuple #[.int .i64 (loW lo), .int .i64 (hiW lo hi)]) ∧ w = w' := by
  obtain ⟨a, ha⟩ : ∃ a, a = loW lo := ⟨_, rfl⟩
  obtain ⟨z, hz⟩ : ∃ z, z = hiW lo hi := ⟨_, rfl⟩
  rw [← ha, ← hz]
  unfold hiW at hz
  rw [← ha] at hz
  unfold loW at ha
  rcases (by omega : hi = -1 ∨ hi ≠ -1) with hh | hh
  · have hb1 : (hi != -1) = false := by simpa using hh
    rw [if_pos hh] at hz
    subst hh
    subst hz
    rcases (by omega : (lo < 0 ∧ a = 0) ∨ (0 ≤ lo ∧ a = lo)) with ⟨h, rfl⟩ | ⟨h, rfl⟩
    all_goals
      clear ha
      go_enter Try.func33, Try.ntmps33
      go_wp2
      go_returns
      exact ⟨rfl, rfl⟩
  · have hb1 : (hi != -1) = true := by simpa using hh
    rw [if_neg hh] at hz
    rcases (by omega : (lo < 0 ∧ a = 0) ∨ (0 ≤ lo ∧ a = lo)) with ⟨h, rfl⟩ | ⟨h, rfl⟩
    · rcases (by omega : (hi < 0 ∧ z = 0) ∨ (0 ≤ hi ∧ z = hi)) with ⟨h2, rfl⟩ | ⟨h2, rfl⟩
      all_goals
        clear ha hz hh
        go_enter Try.func33, Try.ntmps33
        go_wp2
        go_returns
        exact ⟨rfl, rfl⟩
    · rcases (by omega : (hi < a ∧ z = a) ∨ (a ≤ hi ∧ z = hi)) with ⟨h2, rfl⟩ | ⟨h2, rfl⟩
      all_goals
        clear ha hz hh
        go_enter Try.func33, Try.ntmps33
        go_wp2
        go_returns
        exact ⟨rfl, rfl⟩

def atsW (xs : List WSt) (j : Nat) : List Value := (List.range j).map (fun k => Value.int .i64 (timeAt xs k))
theorem atsW_succ (xs : List WSt) (j : Nat) : atsW xs (j + 1) = atsW xs j ++ [.int .i64 (timeAt xs j)] := by unfold atsW; rw [List.range_succ, List.map_append]; rfl
theorem atsW_get (xs : List WSt) (j k : Nat) (h : k < j) : (atsW xs j)[k]? = some (.int .i64 (timeAt xs k)) := by unfold atsW; rw [List.getElem?_map, List.getElem?_range h]; rfl
def TimesP (xs : List WSt) (n : Nat) (w : World) (e : Ending) (w' : World) : Prop := ∃ v, e = .returned v ∧ w'.ownsRow w.heap.size 2 1 v n (atsW xs n) ∧ Tch No w w'
set_option maxHeartbeats 3200000 in
set_option maxRecDepth 100000 in
theorem times_c (A : Option Addr) (n c : Nat) (xs : List WSt) (w : World) (hr : Rd w No 3 A n (xs.flatMap wcells)) (hn : n ≤ 1000) :
    Calls Try.prog 32 #[.slice A n c] w (TimesP xs n w) := by
  obtain ⟨i0, hi0, hz0, hz1, hz2⟩ := info_parts Try.info2
  have HR := Lib.hid hr
  clear hr
  go_enter Try.func32, Try.ntmps32
  go_wp2_with fail
  go_loopw [3, 4, 5] (fun av lv jv wr => ∃ j : Nat, j ≤ n ∧ jv = .int .i64 j ∧ lv = .int .i64 (lastW (xs.take j)) ∧ wr.ownsRow w.heap.size 2 1 av j (atsW xs j) ∧ Tch No w wr) (fun _ _ jv _ => n - (intOf jv).toNat)
  case atStart => exact ⟨0, by omega, rfl, rfl, World.ownsRow_nil .., Tch.refl _ _⟩
  case round =>
    obtain ⟨j, hj, rfl, rfl, ho, ht⟩ := hrel
    by_cases hlt : j < n
    · obtain ⟨q, off, x, hA, hxj, d0, d1, d2⟩ := rd_ws (HR.out.tch ht) j (by omega)
      subst hA
      have hmk : lastW (xs.take (j + 1)) = max (lastW (xs.take j)) x.at_ := by rw [take_succ_of hxj, lastW_snoc]
      have hav := atsW_succ xs j
      unfold timeAt at hav
      rw [hmk] at hav
      have HMK := Lib.hid (And.intro hmk hav)
      have HO := Lib.hid ho
      have HT := Lib.hid ht
      have hsz := ht.size
      clear hmk hav ho ht hxj
      generalize lastW (xs.take j) = la at *
      have hk1 : j + 1 ≤ maxLen := by unfold maxLen; omega
      have hk2 : (j + 1) * 8 ≤ 140737488355328 := by omega
      rcases (by omega : (la < x.at_ ∧ max la x.at_ = x.at_) ∨ (x.at_ ≤ la ∧ max la x.at_ = la)) with ⟨hm, hmm⟩ | ⟨hm, hmm⟩
      all_goals
        have HMM := Lib.hid hmm
        clear hmm
        go_wp2_with (at_builtin; go_must (refine wpList_append_lies _ rfl (.tmp 19) (.tmp 21) _ rfl w.heap.size 2 i0 _ 1 8 Try.underlying58 hi0 hz0 hz1 hz2 rfl (by decide) _ j (atsW xs j) rfl (HO.out.alloc _) ⟨wr.heap.size, 0, none⟩ 1 1 [_] rfl rfl (news1 wr _) (by simp [Value.oneCell']) (by omega) hk1 hk2 (le_alloc hsz _) (wr.heap.size + 1) (by simp) ?_); intro a2 c2 w2 hown2 hg2 hat2 hlt2)
        refine ⟨⟨j + 1, by omega, by simp, by rw [HMK.out.1, HMM.out], ?_, ?_⟩, by simp [intOf]; omega⟩
        · rw [HMK.out.2, HMM.out]; exact hown2
        · exact (HT.out.alloc _).trans (Tch.of_grown (S := fun k => w.heap.size ≤ k) hg2 (fun k hk => .inl (own_base HO.out k hk))) (fun k hk => .inr hk)
    · have hji : j = n := by omega
      subst hji
      have HO := Lib.hid ho
      have HT := Lib.hid ht
      obtain ⟨a, ca, hA⟩ := own_slice ho
      subst hA
      clear ho ht
      go_wp2
      go_returns
      exact ⟨_, rfl, HO.out, HT.out⟩

theorem fAt_of {l : List WSt} {k : Nat} {x : WSt} (h : l[k]? = some x) : fAt l k = x.f ∧ gAt l k = x.g := by unfold fAt gAt; rw [h]; exact ⟨rfl, rfl⟩
set_option maxHeartbeats 3200000 in
set_option maxRecDepth 100000 in
theorem counts_c (A : Option Addr) (n c : Nat) (xs : List WSt) (i j : Nat) (since : Bool) (w : World) (hr : Rd w No 3 A n (xs.flatMap wcells)) (hin : i < n) (hji : j ≤ i) (hn : n ≤ 1000) :
    Calls Try.prog 52 #[.slice A n c, .int .i64 i, .int .i64 j, .bool since] w fun e w' => e = .returned (.bool (cnt since xs i j)) ∧ Tch No w w' := by
  obtain ⟨q, off, x, hA, hxj, d0, d1, d2⟩ := rd_ws hr j (by omega)
  subst hA
  have HR := Lib.hid hr
  have hfg := fAt_of hxj
  clear hr hxj
  have hj1 : (j : Int) < (n : Int) := by omega
  cases since
  · have hE : cnt false xs i j = x.f := hfg.1
    rw [hE]
    clear hE hfg
    go_enter Try.func52, Try.ntmps52
    go_wp2
    go_returns
    exact ⟨rfl, Tch.refl _ _⟩
  · have HG := Lib.hid hfg.2
    clear hfg
    go_enter Try.func52, Try.ntmps52
    go_wp2_with fail
    go_loop [9] (fun kv => ∃ k : Nat, j + 1 ≤ k ∧ k ≤ i + 1 ∧ kv = .int .i64 k ∧ ∀ m, j < m → m < k → fAt xs m = true) (fun kv => i + 1 - (intOf kv).toNat)
    case atStart => exact ⟨j + 1, by omega, by omega, by simp, fun m h1 h2 => by omega⟩
    case round =>
      obtain ⟨k, hk0, hk1, rfl, hall⟩ := hrel
      have HALL := Lib.hid hall
      clear hall
      by_cases hlt : k < i + 1
      · obtain ⟨q', off', y, hA, hyk, e0, e1, e2⟩ := rd_ws HR.out k (by omega)
        obtain ⟨rfl, rfl⟩ : q = q' ∧ off = off' := by simpa using hA
        have hfg := (fAt_of hyk).1
        clear hA hyk
        have hk2 : (k : Int) ≤ (i : Int) := by omega
        have hk3 : (k : Int) < (n : Int) := by omega
        cases hy : y.f
        · rw [hy] at e1 hfg
          have hE := cnt_no xs i j k (by omega) (by omega) hfg
          have HE := Lib.hid hE
          clear hE hfg
          go_wp2_with fail
          go_returns
          rw [HE.out]
          exact ⟨rfl, Tch.refl _ _⟩
        · rw [hy] at e1 hfg
          have HF := Lib.hid hfg
          clear hfg
          go_wp2_with fail
          exact ⟨⟨k + 1, by omega, by omega, by simp, fun m h1 h2 => by
            rcases (by omega : m = k ∨ m < k) with h | h
            · rw [h]; exact HF.out
            · exact HALL.out m h1 h⟩, by simp [intOf]; omega⟩
      · have hE := cnt_yes xs i j (fun m h1 h2 => HALL.out m h1 (by omega))
        rw [HG.out] at hE
        have HE := Lib.hid hE
        clear hE
        have hk2 : ¬ ((k : Int) ≤ (i : Int)) := by omega
        go_wp2_with fail
        go_returns
        rw [HE.out]
        exact ⟨rfl, Tch.refl _ _⟩
end Go.Proofs.Ytppbgkadpomblaa
