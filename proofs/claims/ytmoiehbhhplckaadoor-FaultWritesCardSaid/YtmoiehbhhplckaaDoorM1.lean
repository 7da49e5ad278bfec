/- Decimals. Conditions: the number fits. -/
import Derived.Test.YtmoiehbhhplckaaDoorProg
import Derived.Test.YtmoiehbhhplckaaDoorG11
import Derived.Tactics
import Derived.Tactics2
import Derived.WalkKit
import Derived.WalkSpells
import Derived.WalkLawsBesides
import Derived.StillTactics
import Derived.StillTailTactics
import Derived.OwnWalk
import Derived.Laws.Pointers
import Derived.Laws.ResultCell
import Derived.Deep.RegionHeld3
import Derived.Deep.RegionWith
import Derived.Deep.RegionLaw
import Derived.Deep.AppendLies
import Derived.Deep.QuietTactic
import Derived.BigQuiet
import Derived.LoopTactic
import Derived.Deep.LoopGhost
import Derived.Deep.DeepCutAuto
import Derived.Deep.DeepFit
import Derived.Maps.AppendAt
import Derived.Below
import Derived.Lib.Hide
import Derived.Handy
import Derived.KernelRfl
import Derived.IntWalk
import Derived.Laws.AppendOwnNone
import Derived.Laws.IdiomStrings
namespace Go.Proofs.YtmoiehbhhplckaaDoor
set_option linter.unusedVariables false
set_option linter.unusedSimpArgs false
open Go.RowKit

theorem natAbs_le {a : Int} (h : Fit a) : a.natAbs ≤ 9223372036854775808 := by unfold Fit at h; omega
/-! ## decimals -/
/-- The digit d. -/
def dgt (d : Nat) : UInt8 := (48 + d).toUInt8
def digs (n : Nat) : List UInt8 := if n < 10 then [dgt n] else digs (n / 10) ++ [dgt (n % 10)]
decreasing_by omega
theorem digs_lt {n : Nat} (h : n < 10) : digs n = [dgt n] := by rw [digs, if_pos h]
theorem digs_ge {n : Nat} (h : ¬ n < 10) : digs n = digs (n / 10) ++ [dgt (n % 10)] := by rw [digs, if_neg h]
/-- digits of a number, none of 0. -/
def digs0 (n : Nat) : List UInt8 := if n = 0 then [] else digs n
theorem digs0_step {n : Nat} (h : n ≠ 0) (r : List UInt8) : digs0 (n / 10) ++ (dgt (n % 10) :: r) = digs0 n ++ r := by
  unfold digs0
  rw [if_neg h]
  by_cases h1 : n < 10
  · rw [if_pos (by omega), digs_lt h1, show n % 10 = n by omega]; rfl
  · rw [if_neg (by omega), digs_ge h1, List.append_assoc]; rfl
def decL (n : Int) : List UInt8 := if n < 0 then 45 :: digs n.natAbs else digs n.natAbs
theorem digs_len (n : Nat) (k : Nat) (h : n < 10 ^ (k + 1)) : (digs n).length ≤ k + 1 := by
  induction k generalizing n with
  | zero => rw [digs_lt (by omega)]; simp
  | succ k ih =>
    by_cases h1 : n < 10
    · rw [digs_lt h1]; simp
    · rw [digs_ge h1]
      have := ih (n / 10) (by rw [Nat.pow_succ] at h; omega)
      simp; omega
theorem u64_neg {a : Int} (h0 : -9223372036854775808 ≤ a) (h : a < 0) : IntKind.u64.wrap (-IntKind.u64.wrap a) = (a.natAbs : Nat) := by
  have e : ∀ x : Int, IntKind.u64.wrap x = x % 18446744073709551616 := fun x => rfl
  rw [e, e]
  omega
theorem ret_u64 {a b : Int} (h : a = b) : Ending.returned (.int .u64 a) = .returned (.int .u64 b) := by rw [h]
set_option maxHeartbeats 400000 in
theorem size_c (a : Int) (w : World) (ha : Fit a) : Calls Tryd.prog 30 #[.int .i64 a] w fun e w' => e = .returned (.int .u64 (a.natAbs : Nat)) ∧ w = w' := by
  obtain ⟨ha, ha'⟩ := ha
  rcases (by omega : a < 0 ∨ 0 ≤ a) with h | h
  · have E := Lib.hid (u64_neg ha h)
    go_enter Tryd.func30, Tryd.ntmps30
    go_wp2
    go_returns
    exact ⟨ret_u64 E.out, rfl⟩
  · go_enter Tryd.func30, Tryd.ntmps30
    go_wp2
    go_returns
    exact ⟨ret_u64 (by omega), rfl⟩


def bts (l : List UInt8) : List Value := l.map fun b => Value.int .u8 (b.toNat : Int)
theorem bts_length (l : List UInt8) : (bts l).length = l.length := by simp [bts]
theorem bts_one (l : List UInt8) : ∀ u ∈ bts l, u.oneCell' = true := by
  intro u hu
  unfold bts at hu
  obtain ⟨x, _, rfl⟩ := List.mem_map.1 hu
  rfl
theorem Tryd.info5 : (Tryd.prog.info? 5).map (fun i => (i.zero, i.size, i.bytes)) = some (some (.int .u8 0), 1, 1) := by kernel_rfl
theorem own_one (w : World) (B : Nat) (hB : B ≤ w.heap.size) (u : Value) : (w.alloc (.cells #[u] 5)).ownsRow B 5 1 (.slice (some ⟨w.heap.size, 0, none⟩) 1 1) 1 [u] :=
  ⟨rfl, .inr ⟨w.heap.size, 1, #[u], rfl, hB, Blk.new w 5 #[u], by omega, by unfold maxLen; omega, rfl, rfl⟩⟩
theorem conv_own {w : World} {B g L c : Nat} {l : List UInt8} (h : w.ownsRow B 5 1 (.slice (some ⟨g, 0, none⟩) L c) L (bts l)) :
    (convert 50 9 (.slice (some ⟨g, 0, none⟩) L c)).run Tryd.prog w = .ok (.string ⟨l.toArray⟩) w := by
  have hl : l.length = L := by have := h.1; rw [bts_length] at this; omega
  subst hl
  exact run_convert_bytes_back w 50 9 5 ⟨g, 0, none⟩ c l Tryd.underlying50 Tryd.underlying5 Tryd.underlying9 (fun j hj => by
    rw [addr_add]
    exact own_cell h j _ (by unfold bts; rw [List.getElem?_map, List.getElem?_eq_getElem hj]; rfl))
theorem u8_of (d : Nat) (h : d < 10) : ((dgt d).toNat : Int) = 48 + (d : Int) := by
  unfold dgt
  have : (48 + d).toUInt8.toNat = 48 + d := by
    show (48 + d) % 256 = 48 + d
    omega
  rw [this]; simp

/-- What stands in a slice of the call's own, or in none. -/
def Held (B : Nat) (w : World) (v : Value) (l : List UInt8) : Prop := w.ownsRow B 5 1 v l.length (bts l) ∧ (l = [] → v = .slice none 0 0)
def Str1 (l : List UInt8) (w : World) (e : Ending) (w' : World) : Prop := e = .returned (.string ⟨l.toArray⟩) ∧ Tch No w w'

theorem held_cons {B g c : Nat} {w : World} {d : Nat} {l : List UInt8} (hd : d < 10) (h : w.ownsRow B 5 1 (.slice (some ⟨g, 0, none⟩) (1 + l.length) c) (1 + l.length) ([.int .u8 (48 + (d : Int))] ++ bts l)) :
    Held B w (.slice (some ⟨g, 0, none⟩) (1 + l.length) c) (dgt d :: l) := by
  refine ⟨?_, fun e => by cases e⟩
  rw [show (dgt d :: l).length = 1 + l.length by simp; omega]
  have e : bts (dgt d :: l) = [.int .u8 (48 + (d : Int))] ++ bts l := by
    unfold bts
    rw [List.map_cons, u8_of d hd]
    rfl
  rw [e]
  exact h

theorem ret_str {a b : ByteArray} (h : a = b) : Ending.returned (.string a) = .returned (.string b) := by rw [h]
theorem bapp (a b : List UInt8) : (⟨a.toArray⟩ : ByteArray) ++ ⟨b.toArray⟩ = ⟨(a ++ b).toArray⟩ := by
  apply ByteArray.ext
  rw [ByteArray.data_append]
  simp
theorem dec_neg {d l : List UInt8} {k : List UInt8} (h : d = 45 :: k) (h2 : k = l) : (⟨#[45]⟩ : ByteArray) ++ ⟨l.toArray⟩ = ⟨d.toArray⟩ := by
  subst h2; subst h
  exact bapp [45] k
theorem dec_pos {d l : List UInt8} {k : List UInt8} (h : d = k) (h2 : k = l) : (⟨l.toArray⟩ : ByteArray) = ⟨d.toArray⟩ := by
  subst h2; subst h; rfl
theorem own_digit (w : World) (B : Nat) (hB : B ≤ w.heap.size) (d : Nat) (hd : d < 10) : (w.alloc (.cells #[.int .u8 (48 + (d : Int))] 5)).ownsRow B 5 1 (.slice (some ⟨w.heap.size, 0, none⟩) 1 1) 1 (bts [dgt d]) := by
  have h := own_one w B hB (.int .u8 (48 + (d : Int)))
  unfold bts
  rw [List.map_cons, u8_of d hd]
  exact h
theorem held_one (w : World) (B : Nat) (hB : B ≤ w.heap.size) (d : Nat) (hd : d < 10) : Held B (w.alloc (.cells #[.int .u8 (48 + (d : Int))] 5)) (.slice (some ⟨w.heap.size, 0, none⟩) 1 1) [dgt d] := ⟨own_digit w B hB d hd, fun e => by cases e⟩
theorem len_own {w : World} {B g c L : Nat} {l : List UInt8} (h : w.ownsRow B 5 1 (.slice (some ⟨g, 0, none⟩) L c) l.length (bts l)) : w.ownsRow B 5 1 (.slice (some ⟨g, 0, none⟩) L c) L (bts l) := by
  rcases h.2 with ⟨h0, _⟩ | ⟨g', cap, cur, h0, r⟩
  · cases h0
  · injection h0 with h1 h2 h3
    subst h2
    exact h
theorem dec_tch {w wr w2 : World} {o : Obj} {m c : Nat} (hg : (wr.alloc o).grownBy w2 (Value.slice (some ⟨wr.heap.size, 0, none⟩) m c).ownBlock) (ht : Tch No w wr) : Tch No w w2 :=
  (ht.alloc o).trans (Tch.of_grown (S := fun k => k = wr.heap.size) hg (fun k hk => .inl (by simp [Value.ownBlock] at hk; omega))) (fun i hi => .inr (by have := ht.size; omega))

set_option maxHeartbeats 1600000 in
set_option maxRecDepth 100000 in
theorem decimal_c (n : Int) (w : World) (hn : Fit n) : Calls Tryd.prog 22 #[.int .i64 n] w (Str1 (decL n) w) := by
  obtain ⟨i0, hi0, hz0, hz1, hz2⟩ := info_parts Tryd.info5
  have HN := Lib.hid hn
  have hab := natAbs_le hn
  go_enter Tryd.func22, Tryd.ntmps22
  go_wp2_with fail
  refine (size_c n _ HN.out).mono ?_
  rintro e w' ⟨rfl, rfl⟩
  obtain ⟨u0, hu0⟩ : ∃ u0, u0 = n.natAbs := ⟨_, rfl⟩
  rw [← hu0]
  rw [← hu0] at hab
  have HU := Lib.hid hu0
  clear hu0 hn
  go_wp2_with fail
  go_loopw [3, 4] (fun uv bv wr => ∃ (u : Nat) (l : List UInt8), u ≤ u0 ∧ uv = .int .u64 u ∧ Held w.heap.size wr bv l ∧ digs u ++ l = digs u0 ∧ Tch No w wr) (fun uv _ _ => (intOf uv).toNat)
  case atStart => exact ⟨u0, [], by omega, rfl, ⟨World.ownsRow_nil .., fun _ => rfl⟩, by simp, Tch.refl _ _⟩
  case round =>
    obtain ⟨u, l, hu, rfl, hh, hd, ht⟩ := hrel
    have hll : l.length ≤ 19 := by
      have h1 := digs_len u0 18 (by omega)
      have h2 := congrArg List.length hd
      rw [List.length_append] at h2
      omega
    have HH := Lib.hid hh
    have HD := Lib.hid hd
    have HT := Lib.hid ht
    have hsz := ht.size
    clear hh hd ht
    by_cases hlt : u < 10
    · have hu10 : (u : Int) < 10 := by omega
      have hsg : (n < 0 ∧ decL n = 45 :: digs u0) ∨ (0 ≤ n ∧ decL n = digs u0) := by
        unfold decL
        rw [← HU.out]
        rcases (by omega : n < 0 ∨ 0 ≤ n) with h | h
        · exact .inl ⟨h, if_pos h⟩
        · exact .inr ⟨h, if_neg (by omega)⟩
      have hdd : digs u0 = dgt u :: l := by rw [← HD.out, digs_lt hlt]; rfl
      have HDD := Lib.hid hdd
      clear hdd
      rcases Nat.eq_zero_or_pos l.length with hl0 | hne0
      · have hl0 : l = [] := List.eq_nil_of_length_eq_zero hl0
        subst hl0
        have hb := HH.out.2 rfl
        subst hb
        rcases hsg with ⟨hs, hdl⟩ | ⟨hs, hdl⟩
        all_goals
          have HDL := Lib.hid hdl
          clear hdl
          go_wp2_with (at_builtin; go_must (refine wpList_append_own_none rfl (.tmp 22) (.tmp 23) _ rfl w.heap.size 5 i0 1 Tryd.underlying50 hi0 _ 1 _ rfl (own_one wr w.heap.size hsz _) rfl ?_); have hcv := conv_own (l := [dgt u]) (own_digit wr w.heap.size hsz u hlt))
          go_returns
          first
            | exact ⟨ret_str (dec_neg HDL.out HDD.out), HT.out.alloc _⟩
            | exact ⟨ret_str (dec_pos HDL.out HDD.out), HT.out.alloc _⟩
      · skip
        rcases hsg with ⟨hs, hdl⟩ | ⟨hs, hdl⟩
        all_goals
          have HDL := Lib.hid hdl
          clear hdl
          obtain ⟨g, c, hb, _, hglt⟩ := HH.out.1.form hne0
          subst hb
          have hcells : Hid (∀ o, ∀ j u', (bts l)[j]? = some u' → (wr.alloc o).cell? ((⟨g, 0, none⟩ : Addr).add j) = some u') := fun o j u' hu' => by rw [addr_add]; exact own_cell (HH.out.1.alloc o) j u' hu'
          have hl1 := bts_length l
          have HL1 : Hid ((bts l).length = l.length * 1) := by show (bts l).length = l.length * 1; omega
          have hk1 : 1 + l.length ≤ maxLen := by unfold maxLen; omega
          have hk2 : (1 + l.length) * 1 ≤ 140737488355328 := by omega
          have hk3 := bts_one l
          have HK3 := Lib.hid hk3
          skip
          clear hl1 hk3
          go_wp2_with (at_builtin; go_must (refine wpList_append_lies _ rfl (.tmp 22) (.tmp 23) _ rfl w.heap.size 5 i0 _ 1 1 Tryd.underlying50 hi0 hz0 hz1 hz2 rfl (by omega) _ 1 _ rfl (own_one wr w.heap.size hsz _) ⟨g, 0, none⟩ l.length c (bts l) rfl HL1.out (hcells.out _) HK3.out hne0 hk1 hk2 (le_alloc hsz _) (wr.heap.size + 1) (by simp) ?_); intro g2 c2 w2 hown2 hgrow hat hlt2; have hh2 := held_cons hlt hown2; have hcv := conv_own (L := 1 + l.length) (l := dgt u :: l) (len_own hh2.1); clear hh2)
          go_returns
          first
            | exact ⟨ret_str (dec_neg HDL.out HDD.out), dec_tch hgrow HT.out⟩
            | exact ⟨ret_str (dec_pos HDL.out HDD.out), dec_tch hgrow HT.out⟩
    · have hg10 : ¬ ((u : Int) < 10) := by omega
      have hd10 := digs_ge hlt
      have HD10 : Hid (∀ r, digs (u / 10) ++ (dgt (u % 10) :: r) = digs u ++ r) := fun r => by rw [hd10, List.append_assoc]; rfl
      have hmod : u % 10 < 10 := Nat.mod_lt _ (by omega)
      clear hd10
      rcases Nat.eq_zero_or_pos l.length with hl0 | hne0
      · have hl0 : l = [] := List.eq_nil_of_length_eq_zero hl0
        subst hl0
        have hb := HH.out.2 rfl
        subst hb
        go_wp2_with (at_builtin; go_must (refine wpList_append_own_none rfl (.tmp 16) (.tmp 17) _ rfl w.heap.size 5 i0 1 Tryd.underlying50 hi0 _ 1 _ rfl (own_one wr w.heap.size hsz _) rfl ?_))
        exact ⟨⟨u / 10, [dgt (u % 10)], by omega, by simp, held_one wr w.heap.size hsz (u % 10) hmod, (HD10.out []).trans HD.out, HT.out.alloc _⟩, by simp [intOf]; omega⟩
      · skip
        obtain ⟨g, c, hb, _, hglt⟩ := HH.out.1.form hne0
        subst hb
        have hcells : Hid (∀ o, ∀ j u', (bts l)[j]? = some u' → (wr.alloc o).cell? ((⟨g, 0, none⟩ : Addr).add j) = some u') := fun o j u' hu' => by rw [addr_add]; exact own_cell (HH.out.1.alloc o) j u' hu'
        have hl1 := bts_length l
        have HL1 : Hid ((bts l).length = l.length * 1) := by show (bts l).length = l.length * 1; omega
        have hk1 : 1 + l.length ≤ maxLen := by unfold maxLen; omega
        have hk2 : (1 + l.length) * 1 ≤ 140737488355328 := by omega
        have hk3 := bts_one l
        have HK3 := Lib.hid hk3
        skip
        clear hl1 hk3
        go_wp2_with (at_builtin; go_must (refine wpList_append_lies _ rfl (.tmp 16) (.tmp 17) _ rfl w.heap.size 5 i0 _ 1 1 Tryd.underlying50 hi0 hz0 hz1 hz2 rfl (by omega) _ 1 _ rfl (own_one wr w.heap.size hsz _) ⟨g, 0, none⟩ l.length c (bts l) rfl HL1.out (hcells.out _) HK3.out hne0 hk1 hk2 (le_alloc hsz _) (wr.heap.size + 1) (by simp) ?_); intro g2 c2 w2 hown2 hgrow hat hlt2)
        exact ⟨⟨u / 10, dgt (u % 10) :: l, by omega, by simp, held_cons hmod hown2, (HD10.out l).trans HD.out, dec_tch hgrow HT.out⟩, by simp [intOf]; omega⟩

theorem tdiv_neg10 (k : Nat) : Int.tdiv (-(k : Int)) 10 = -((k / 10 : Nat) : Int) := by
  rw [Int.neg_tdiv]
  rfl
theorem tmod_neg10 (k : Nat) : Int.tmod (-(k : Int)) 10 = -((k % 10 : Nat) : Int) := by
  rw [Int.neg_tmod]
  rfl
theorem digs0_app {k u0 : Nat} {l : List UInt8} (hk : k ≠ 0) (h : digs0 k ++ l = digs0 u0) : digs0 (k / 10) ++ (dgt (k % 10) :: l) = digs0 u0 := (digs0_step hk l).trans h

theorem digs0_bd {k u0 : Nat} {l : List UInt8} (h : u0 ≤ 9223372036854775808) (hd : digs0 k ++ l = digs0 u0) : l.length ≤ 19 := by
  have h1 := digs_len u0 18 (by omega)
  have h2 := congrArg List.length hd
  rw [List.length_append] at h2
  have h3 : (digs0 u0).length ≤ 19 := by
    unfold digs0
    split
    · simp
    · omega
  omega
theorem str_cons (d : UInt8) (l : List UInt8) : Value.string ((⟨#[d]⟩ : ByteArray) ++ ⟨l.toArray⟩) = .string ⟨(d :: l).toArray⟩ := congrArg Value.string (bapp [d] l)

set_option maxHeartbeats 1600000 in
set_option maxRecDepth 100000 in
theorem rdec_pos (n : Int) (w : World) (h0 : 0 < n) (h1 : n ≤ 9223372036854775807) : Calls Tryd.prog 17 #[.int .i64 n] w (Str1 (digs n.natAbs) w) := by
  obtain ⟨u0, rfl⟩ : ∃ u0 : Nat, n = u0 := ⟨n.natAbs, by omega⟩
  have hb : ((u0 : Int) == 0) = false := by simp; omega
  have hu0 : u0 ≠ 0 := by omega
  have HU := Lib.hid hu0
  clear hu0
  go_enter Tryd.func17, Tryd.ntmps17
  go_wp2_with fail
  go_loopw [3, 4] (fun sv mv wr => ∃ (k : Nat) (l : List UInt8), k ≤ u0 ∧ mv = .int .i64 k ∧ sv = .string ⟨l.toArray⟩ ∧ digs0 k ++ l = digs0 u0 ∧ Tch No w wr) (fun _ mv _ => (intOf mv).toNat)
  case atStart => exact ⟨u0, [], by omega, rfl, rfl, by simp, Tch.refl _ _⟩
  case round =>
    obtain ⟨k, l, hk, rfl, rfl, hd, ht⟩ := hrel
    have HD := Lib.hid hd
    have HT := Lib.hid ht
    have hsz := ht.size
    have hll : l.length ≤ 19 := digs0_bd (by omega) hd
    clear hd ht
    by_cases hlt : k = 0
    · subst hlt
      have hl : l = digs (u0 : Int).natAbs := by
        have := HD.out
        unfold digs0 at this
        rw [if_pos rfl, if_neg HU.out] at this
        simpa using this
      have HL := Lib.hid hl
      clear hl
      go_wp2
      go_returns
      exact ⟨ret_str (by rw [HL.out]), HT.out⟩
    · have hkb : ((k : Int) != 0) = true := by simp; omega
      have hkb2 : ((k : Int) == 0) = false := by simp; omega
      have hmod : k % 10 < 10 := Nat.mod_lt _ (by omega)
      have hk0 : 0 < k := by omega
      have hcv : (convert 50 9 (.slice (some ⟨wr.heap.size, 0, none⟩) 1 1)).run Tryd.prog (wr.alloc (.cells #[.int .u8 (48 + (k : Int) % 10)] 5)) = .ok (.string ⟨#[dgt (k % 10)]⟩) (wr.alloc (.cells #[.int .u8 (48 + (k : Int) % 10)] 5)) := conv_own (own_digit wr wr.heap.size (Nat.le_refl _) (k % 10) hmod)
      have HS := digs0_app hlt HD.out
      have HSS := Lib.hid HS
      clear HS hlt
      go_wp2
      exact ⟨⟨k / 10, dgt (k % 10) :: l, by omega, by simp, str_cons _ l, HSS.out, HT.out.alloc _⟩, by simp [intOf]; omega⟩
set_option maxHeartbeats 1600000 in
set_option maxRecDepth 100000 in
theorem rdec_neg (n : Int) (w : World) (h0 : n < 0) (h1 : -9223372036854775808 ≤ n) : Calls Tryd.prog 17 #[.int .i64 n] w (Str1 (45 :: digs n.natAbs) w) := by
  obtain ⟨u0, rfl⟩ : ∃ u0 : Nat, n = -(u0 : Int) := ⟨n.natAbs, by omega⟩
  have hneg : -(u0 : Int) < 0 := by omega
  have hu9 : (u0 : Int) ≤ 9223372036854775808 := by omega
  have hb : (-(u0 : Int) == 0) = false := by simp; omega
  have hu0 : u0 ≠ 0 := by omega
  have HU := Lib.hid hu0
  clear hu0
  go_enter Tryd.func17, Tryd.ntmps17
  go_wp2_with fail
  go_loopw [3, 4] (fun sv mv wr => ∃ (k : Nat) (l : List UInt8), k ≤ u0 ∧ mv = .int .i64 (-(k : Int)) ∧ sv = .string ⟨l.toArray⟩ ∧ digs0 k ++ l = digs0 u0 ∧ Tch No w wr) (fun _ mv _ => (-(intOf mv)).toNat)
  case atStart => exact ⟨u0, [], by omega, rfl, rfl, by simp, Tch.refl _ _⟩
  case round =>
    obtain ⟨k, l, hk, rfl, rfl, hd, ht⟩ := hrel
    have HD := Lib.hid hd
    have HT := Lib.hid ht
    have hsz := ht.size
    have hll : l.length ≤ 19 := digs0_bd (by omega) hd
    clear hd ht
    by_cases hlt : k = 0
    · subst hlt
      have hl : l = digs (-(u0 : Int)).natAbs := by
        have := HD.out
        unfold digs0 at this
        rw [if_pos rfl, if_neg HU.out] at this
        have e : (-(u0 : Int)).natAbs = u0 := by omega
        rw [e]
        simpa using this
      have HL := Lib.hid hl
      clear hl
      go_wp2
      go_returns
      exact ⟨ret_str (by rw [HL.out]; exact bapp [45] _), HT.out⟩
    · have hkb : (-(k : Int) != 0) = true := by simp; omega
      have hkb2 : (-(k : Int) == 0) = false := by simp; omega
      have hmod : k % 10 < 10 := Nat.mod_lt _ (by omega)
      have hk0 : 0 < k := by omega
      have hcv : (convert 50 9 (.slice (some ⟨wr.heap.size, 0, none⟩) 1 1)).run Tryd.prog (wr.alloc (.cells #[.int .u8 (48 + (k : Int) % 10)] 5)) = .ok (.string ⟨#[dgt (k % 10)]⟩) (wr.alloc (.cells #[.int .u8 (48 + (k : Int) % 10)] 5)) := conv_own (own_digit wr wr.heap.size (Nat.le_refl _) (k % 10) hmod)
      have td := tdiv_neg10 k
      have tm := tmod_neg10 k
      have HS := digs0_app hlt HD.out
      have HSS := Lib.hid HS
      clear HS hlt
      rcases (by omega : ((k : Int) % 10 = 0) ∨ 0 < (k : Int) % 10) with hz | hz
      · have e : -((k : Int) % 10) = (k : Int) % 10 := by omega
        have hcv2 : (convert 50 9 (.slice (some ⟨wr.heap.size, 0, none⟩) 1 1)).run Tryd.prog (wr.alloc (.cells #[.int .u8 (48 + -((k : Int) % 10))] 5)) = .ok (.string ⟨#[dgt (k % 10)]⟩) (wr.alloc (.cells #[.int .u8 (48 + -((k : Int) % 10))] 5)) := by rw [e]; exact hcv
        have hz1 : (k : Int) % 10 ≤ 0 := by omega
        clear hz e hcv
        go_wp2
        all_goals exact ⟨⟨k / 10, dgt (k % 10) :: l, by omega, by simp <;> omega, str_cons _ l, HSS.out, HT.out.alloc _⟩, by simp [intOf]; omega⟩
      · go_wp2
        all_goals exact ⟨⟨k / 10, dgt (k % 10) :: l, by omega, by simp <;> omega, str_cons _ l, HSS.out, HT.out.alloc _⟩, by simp [intOf]; omega⟩

theorem dec0 : decL 0 = [48] := by unfold decL; rw [if_neg (by omega)]; exact digs_lt (by decide)
theorem rdecimal_c (n : Int) (w : World) (hn : Fit n) : Calls Tryd.prog 17 #[.int .i64 n] w (Str1 (decL n) w) := by
  obtain ⟨h1, h2⟩ := hn
  rcases (by omega : n < 0 ∨ n = 0 ∨ 0 < n) with h | h | h
  · have e : decL n = 45 :: digs n.natAbs := if_pos h
    rw [e]
    exact rdec_neg n w h h1
  · subst h
    go_enter Tryd.func17, Tryd.ntmps17
    go_wp2
    go_returns
    exact ⟨ret_str (by rw [dec0]), Tch.refl _ _⟩
  · have e : decL n = digs n.natAbs := if_neg (by omega)
    rw [e]
    exact rdec_pos n w h h2

end Go.Proofs.YtmoiehbhhplckaaDoor
