/- Of spans that nobody made nothing is told; the first fifty. Conditions: none. -/
import Derived.Test.YtppbgkadpomblaaProg
import Derived.Test.YtppbgkadpomblaaC3
import Derived.Tactics
import Derived.Tactics2
import Derived.WalkKit
import Derived.WalkSpells
import Derived.WalkLawsBesides
import Derived.StillTactics
import Derived.StillTailTactics
import Derived.OwnWalk
import Derived.Laws.Pointers
import Derived.Laws.ResultCell
import Derived.Deep.RegionHeld3
import Derived.Deep.RegionWith
import Derived.Deep.RegionLaw
import Derived.Deep.AppendLies
import Derived.Deep.QuietTactic
import Derived.BigQuiet
import Derived.LoopTactic
import Derived.Deep.LoopGhost
import Derived.Deep.DeepCutAuto
import Derived.Deep.DeepFit
import Derived.Maps.AppendAt
import Derived.Below
import Derived.Lib.Hide
import Derived.Handy
import Derived.KernelRfl
import Derived.IntWalk
import Derived.Laws.AppendOwnNone
import Derived.Laws.IdiomStrings
namespace Go.Proofs.Ytppbgkadpomblaa
set_option linter.unusedVariables false
set_option linter.unusedSimpArgs false
open Go.RowKit

set_option maxHeartbeats 3200000 in
theorem wnobody_walk (at_ : Int) (f : Bool) (w : World) (b0 : -9223372036854775808 ≤ at_) (b1 : at_ ≤ 9223372036854775807) :
    Calls Try.prog 14 #[.int .i64 at_, .bool f] w fun e w' => e = .returned (.bool true) ∧ Below w.heap.size w w' := by
  go_enter Try.func14, Try.ntmps14
  go_wp2_with fail
  refine (walive_c _).mono ?_
  rintro e w1 ⟨rfl, t1⟩
  have T1 := Lib.hid t1
  clear t1
  go_wp2_with fail
  have O1 : Hid (OddW ((w1.alloc (.cells #[.bool false, .int .i64 0, .int .i64 0, .int .i64 0, .slice none 0 0] 80)).alloc (.cells #[.bool false, .int .i64 0, .int .i64 0, .int .i64 0, .slice none 0 0] 81)) w1.heap.size 80) := (Blk.new w1 80 _).alloc _
  have O2 : Hid (OddW ((w1.alloc (.cells #[.bool false, .int .i64 0, .int .i64 0, .int .i64 0, .slice none 0 0] 80)).alloc (.cells #[.bool false, .int .i64 0, .int .i64 0, .int .i64 0, .slice none 0 0] 81)) (w1.heap.size + 1) 81) := by
    have := Blk.new (w1.alloc (.cells #[.bool false, .int .i64 0, .int .i64 0, .int .i64 0, .slice none 0 0] 80)) 81 #[.bool false, .int .i64 0, .int .i64 0, .int .i64 0, .slice none 0 0]
    rw [World.size_alloc] at this
    exact this
  have T2 : Hid (Tch No w ((w1.alloc (.cells #[.bool false, .int .i64 0, .int .i64 0, .int .i64 0, .slice none 0 0] 80)).alloc (.cells #[.bool false, .int .i64 0, .int .i64 0, .int .i64 0, .slice none 0 0] 81))) := (T1.out.alloc _).alloc _
  generalize (w1.alloc (.cells #[.bool false, .int .i64 0, .int .i64 0, .int .i64 0, .slice none 0 0] 80)).alloc (.cells #[.bool false, .int .i64 0, .int .i64 0, .int .i64 0, .slice none 0 0] 81) = w2 at *
  refine (ostep_nil at_ f _).mono ?_
  rintro e w3 ⟨rfl, rfl⟩
  go_wp2_with fail
  refine (sstep_nil at_ f f _).mono ?_
  rintro e w3 ⟨rfl, rfl⟩
  go_wp2_with fail
  refine (ostep_odd _ at_ f _ O1.out).mono ?_
  rintro e w3 ⟨rfl, rfl⟩
  go_wp2_with fail
  refine (sstep_odd _ at_ f f _ O2.out).mono ?_
  rintro e w3 ⟨rfl, rfl⟩
  go_wp2_with fail
  refine (ocells_nil _).mono ?_
  rintro e w3 ⟨rfl, rfl⟩
  go_wp2_with fail
  refine (scells_nil _).mono ?_
  rintro e w3 ⟨rfl, rfl⟩
  go_wp2_with fail
  refine (ocells_odd _ _ O1.out).mono ?_
  rintro e w3 ⟨rfl, rfl⟩
  go_wp2_with fail
  refine (scells_odd _ _ O2.out).mono ?_
  rintro e w3 ⟨rfl, rfl⟩
  go_wp2_with fail
  refine (oclone_nil _).mono ?_
  rintro e w3 ⟨rfl, rfl⟩
  go_wp2_with fail
  refine (sclone_nil _).mono ?_
  rintro e w3 ⟨rfl, rfl⟩
  go_wp2_with fail
  refine (oclone_odd _ _ O1.out).mono ?_
  rintro e w3 ⟨rfl, rfl⟩
  go_wp2_with fail
  refine (sclone_odd _ _ O2.out).mono ?_
  rintro e w3 ⟨rfl, rfl⟩
  go_wp2
  go_returns
  exact ⟨rfl, T2.out.noBelow⟩
def few50 (n : Nat) : Nat := if 50 < n then 50 else n
theorem few50_le (n : Nat) : few50 n ≤ 50 ∧ few50 n ≤ n := by unfold few50; split <;> omega
theorem few31_c (S : Nat → Prop) (A : Option Addr) (n c : Nat) (l : List WSt) (w : World) (h : n ≤ c) (hm : c ≤ 9223372036854775807) (hr : Rd w S 3 A n (l.flatMap wcells)) :
    Calls Try.prog 31 #[.slice A n c] w fun e w' => e = .returned (.slice A (few50 n) c) ∧ w = w' := by
  by_cases h5 : 50 < n
  · obtain ⟨g, off, hA, _⟩ := hr.2 (by omega)
    subst hA
    clear hr
    go_enter Try.func31, Try.ntmps31
    go_wp2
    go_returns
    rw [show few50 n = 50 from if_pos h5]
    exact ⟨rfl, rfl⟩
  · clear hr
    go_enter Try.func31, Try.ntmps31
    go_wp2
    go_returns
    rw [show few50 n = n from if_neg h5]
    exact ⟨rfl, rfl⟩
theorem few31_rd {S : Nat → Prop} {A : Option Addr} {n : Nat} {l : List WSt} {w : World} (hr : Rd w S 3 A n (l.flatMap wcells)) : Rd w S 3 A (few50 n) ((l.take (few50 n)).flatMap wcells) := by
  have hl : l.length = n := by have := hr.1; rw [flat_length wcells_length] at this; omega
  have := hr.take (few50_le n).2
  rw [flat_take wcells_length l _ (by rw [hl]; exact (few50_le n).2)] at this
  exact this
theorem rd_ws {w : World} {S : Nat → Prop} {A : Option Addr} {n : Nat} {l : List WSt} (hr : Rd w S 3 A n (l.flatMap wcells)) (i : Nat) (hi : i < n) :
    ∃ g off x, A = some ⟨g, off, none⟩ ∧ l[i]? = some x ∧ w.cell? ⟨g, off + i * 3, none⟩ = some (.int .i64 x.at_) ∧ w.cell? ⟨g, off + i * 3 + 1, none⟩ = some (.bool x.f) ∧ w.cell? ⟨g, off + i * 3 + 2, none⟩ = some (.bool x.g) := by
  have hn : l.length = n := by have := hr.1; rw [flat_length wcells_length] at this; omega
  obtain ⟨g, off, x, hA, hS, hg, hx, hc⟩ := rd_at wcells_length hr i hi hn
  refine ⟨g, off, x, hA, hx, hc 0 (by omega) _ rfl, ?_, ?_⟩
  · rw [Nat.add_assoc]; exact hc 1 (by omega) _ rfl
  · rw [Nat.add_assoc]; exact hc 2 (by omega) _ rfl
theorem rd_ws2 {w : World} {q off n : Nat} {l : List WSt} (hr : Rd w No 3 (some ⟨q, off, none⟩) n (l.flatMap wcells)) (i : Nat) (hi : i < n) {x : WSt} (hx : l[i]? = some x) :
    ∀ w9, Tch No w w9 → w9.cell? ⟨q, off + i * 3, none⟩ = some (.int .i64 x.at_) ∧ w9.cell? ⟨q, off + i * 3 + 1, none⟩ = some (.bool x.f) ∧ w9.cell? ⟨q, off + i * 3 + 2, none⟩ = some (.bool x.g) := by
  intro w9 t9
  obtain ⟨q', off', y, hA, hy, d0, d1⟩ := rd_ws (hr.tch t9) i hi
  obtain ⟨rfl, rfl⟩ : q = q' ∧ off = off' := by simpa using hA
  have : y = x := by rw [hx] at hy; injection hy with e; exact e.symm
  subst this
  exact ⟨d0, d1⟩
theorem ws_len {w : World} {S : Nat → Prop} {A : Option Addr} {n : Nat} {l : List WSt} (hr : Rd w S 3 A n (l.flatMap wcells)) : l.length = n := by have := hr.1; rw [flat_length wcells_length] at this; omega
end Go.Proofs.Ytppbgkadpomblaa
