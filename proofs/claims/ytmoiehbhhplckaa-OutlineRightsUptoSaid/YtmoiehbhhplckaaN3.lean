/- Contracts. -/
import Derived.Test.YtmoiehbhhplckaaProg
import Derived.Test.YtmoiehbhhplckaaN2
import Derived.Tactics
import Derived.Tactics2
import Derived.WalkKit
import Derived.WalkSpells
import Derived.WalkLawsBesides
import Derived.StillTactics
import Derived.StillTailTactics
import Derived.OwnWalk
import Derived.Laws.Pointers
import Derived.Laws.ResultCell
import Derived.Deep.RegionHeld3
import Derived.Deep.RegionWith
import Derived.Deep.RegionLaw
import Derived.Deep.AppendLies
import Derived.Deep.QuietTactic
import Derived.BigQuiet
import Derived.LoopTactic
import Derived.Deep.LoopGhost
import Derived.Deep.DeepCutAuto
import Derived.Deep.DeepFit
import Derived.Maps.AppendAt
import Derived.Below
import Derived.Lib.Hide
import Derived.Handy
import Derived.KernelRfl
import Derived.IntWalk
import Derived.Laws.AppendOwnNone
import Derived.Laws.IdiomStrings
namespace Go.Proofs.Ytmoiehbhhplckaa
set_option linter.unusedVariables false
set_option linter.unusedSimpArgs false
open Go.RowKit

def bts (l : List UInt8) : List Value := l.map fun b => Value.int .u8 (b.toNat : Int)
theorem bts_length (l : List UInt8) : (bts l).length = l.length := by simp [bts]
theorem bts_one (l : List UInt8) : ∀ u ∈ bts l, u.oneCell' = true := by
  intro u hu
  unfold bts at hu
  obtain ⟨x, _, rfl⟩ := List.mem_map.1 hu
  rfl
theorem Try.info5 : (Try.prog.info? 5).map (fun i => (i.zero, i.size, i.bytes)) = some (some (.int .u8 0), 1, 1) := by kernel_rfl
theorem own_one (w : World) (B : Nat) (hB : B ≤ w.heap.size) (u : Value) : (w.alloc (.cells #[u] 5)).ownsRow B 5 1 (.slice (some ⟨w.heap.size, 0, none⟩) 1 1) 1 [u] :=
  ⟨rfl, .inr ⟨w.heap.size, 1, #[u], rfl, hB, Blk.new w 5 #[u], by omega, by unfold maxLen; omega, rfl, rfl⟩⟩
theorem conv_own {w : World} {B g L c : Nat} {l : List UInt8} (h : w.ownsRow B 5 1 (.slice (some ⟨g, 0, none⟩) L c) L (bts l)) :
    (convert 68 9 (.slice (some ⟨g, 0, none⟩) L c)).run Try.prog w = .ok (.string ⟨l.toArray⟩) w := by
  have hl : l.length = L := by have := h.1; rw [bts_length] at this; omega
  subst hl
  exact run_convert_bytes_back w 68 9 5 ⟨g, 0, none⟩ c l Try.underlying68 Try.underlying5 Try.underlying9 (fun j hj => by
    rw [addr_add]
    exact own_cell h j _ (by unfold bts; rw [List.getElem?_map, List.getElem?_eq_getElem hj]; rfl))
theorem u8_of (d : Nat) (h : d < 10) : ((dgt d).toNat : Int) = 48 + (d : Int) := by
  unfold dgt
  have : (48 + d).toUInt8.toNat = 48 + d := by
    show (48 + d) % 256 = 48 + d
    omega
  rw [this]; simp

/-- What stands in a slice of the call's own, or in none. -/
def Held (B : Nat) (w : World) (v : Value) (l : List UInt8) : Prop := w.ownsRow B 5 1 v l.length (bts l) ∧ (l = [] → v = .slice none 0 0)
def Str1 (l : List UInt8) (w : World) (e : Ending) (w' : World) : Prop := e = .returned (.string ⟨l.toArray⟩) ∧ Tch No w w'

theorem held_cons {B g c : Nat} {w : World} {d : Nat} {l : List UInt8} (hd : d < 10) (h : w.ownsRow B 5 1 (.slice (some ⟨g, 0, none⟩) (1 + l.length) c) (1 + l.length) ([.int .u8 (48 + (d : Int))] ++ bts l)) :
    Held B w (.slice (some ⟨g, 0, none⟩) (1 + l.length) c) (dgt d :: l) := by
  refine ⟨?_, fun e => by cases e⟩
  rw [show (dgt d :: l).length = 1 + l.length by simp; omega]
  have e : bts (dgt d :: l) = [.int .u8 (48 + (d : Int))] ++ bts l := by
    unfold bts
    rw [List.map_cons, u8_of d hd]
    rfl
  rw [e]
  exact h

theorem ret_str {a b : ByteArray} (h : a = b) : Ending.returned (.string a) = .returned (.string b) := by rw [h]
theorem bapp (a b : List UInt8) : (⟨a.toArray⟩ : ByteArray) ++ ⟨b.toArray⟩ = ⟨(a ++ b).toArray⟩ := by
  apply ByteArray.ext
  rw [ByteArray.data_append]
  simp
theorem dec_neg {d l : List UInt8} {k : List UInt8} (h : d = 45 :: k) (h2 : k = l) : (⟨#[45]⟩ : ByteArray) ++ ⟨l.toArray⟩ = ⟨d.toArray⟩ := by
  subst h2; subst h
  exact bapp [45] k
theorem dec_pos {d l : List UInt8} {k : List UInt8} (h : d = k) (h2 : k = l) : (⟨l.toArray⟩ : ByteArray) = ⟨d.toArray⟩ := by
  subst h2; subst h; rfl
theorem own_digit (w : World) (B : Nat) (hB : B ≤ w.heap.size) (d : Nat) (hd : d < 10) : (w.alloc (.cells #[.int .u8 (48 + (d : Int))] 5)).ownsRow B 5 1 (.slice (some ⟨w.heap.size, 0, none⟩) 1 1) 1 (bts [dgt d]) := by
  have h := own_one w B hB (.int .u8 (48 + (d : Int)))
  unfold bts
  rw [List.map_cons, u8_of d hd]
  exact h
theorem held_one (w : World) (B : Nat) (hB : B ≤ w.heap.size) (d : Nat) (hd : d < 10) : Held B (w.alloc (.cells #[.int .u8 (48 + (d : Int))] 5)) (.slice (some ⟨w.heap.size, 0, none⟩) 1 1) [dgt d] := ⟨own_digit w B hB d hd, fun e => by cases e⟩
theorem len_own {w : World} {B g c L : Nat} {l : List UInt8} (h : w.ownsRow B 5 1 (.slice (some ⟨g, 0, none⟩) L c) l.length (bts l)) : w.ownsRow B 5 1 (.slice (some ⟨g, 0, none⟩) L c) L (bts l) := by
  rcases h.2 with ⟨h0, _⟩ | ⟨g', cap, cur, h0, r⟩
  · cases h0
  · injection h0 with h1 h2 h3
    subst h2
    exact h
theorem dec_tch {w wr w2 : World} {o : Obj} {m c : Nat} (hg : (wr.alloc o).grownBy w2 (Value.slice (some ⟨wr.heap.size, 0, none⟩) m c).ownBlock) (ht : Tch No w wr) : Tch No w w2 :=
  (ht.alloc o).trans (Tch.of_grown (S := fun k => k = wr.heap.size) hg (fun k hk => .inl (by simp [Value.ownBlock] at hk; omega))) (fun i hi => .inr (by have := ht.size; omega))

set_option maxHeartbeats 1600000 in
set_option maxRecDepth 100000 in
theorem decimal_c (n : Int) (w : World) (hn : Fit n) : Calls Try.prog 22 #[.int .i64 n] w (Str1 (decL n) w) := by
  obtain ⟨i0, hi0, hz0, hz1, hz2⟩ := info_parts Try.info5
  have HN := Lib.hid hn
  have hab := natAbs_le hn
  go_enter Try.func22, Try.ntmps22
  go_wp2_with fail
  refine (size_c n _ HN.out).mono ?_
  rintro e w' ⟨rfl, rfl⟩
  obtain ⟨u0, hu0⟩ : ∃ u0, u0 = n.natAbs := ⟨_, rfl⟩
  rw [← hu0]
  rw [← hu0] at hab
  have HU := Lib.hid hu0
  clear hu0 hn
  go_wp2_with fail
  go_loopw [3, 4] (fun uv bv wr => ∃ (u : Nat) (l : List UInt8), u ≤ u0 ∧ uv = .int .u64 u ∧ Held w.heap.size wr bv l ∧ digs u ++ l = digs u0 ∧ Tch No w wr) (fun uv _ _ => (intOf uv).toNat)
  case atStart => exact ⟨u0, [], by omega, rfl, ⟨World.ownsRow_nil .., fun _ => rfl⟩, by simp, Tch.refl _ _⟩
  case round =>
    obtain ⟨u, l, hu, rfl, hh, hd, ht⟩ := hrel
    have hll : l.length ≤ 19 := by
      have h1 := digs_len u0 18 (by omega)
      have h2 := congrArg List.length hd
      rw [List.length_append] at h2
      omega
    have HH := Lib.hid hh
    have HD := Lib.hid hd
    have HT := Lib.hid ht
    have hsz := ht.size
    clear hh hd ht
    by_cases hlt : u < 10
    · have hu10 : (u : Int) < 10 := by omega
      have hsg : (n < 0 ∧ decL n = 45 :: digs u0) ∨ (0 ≤ n ∧ decL n = digs u0) := by
        unfold decL
        rw [← HU.out]
        rcases (by omega : n < 0 ∨ 0 ≤ n) with h | h
        · exact .inl ⟨h, if_pos h⟩
        · exact .inr ⟨h, if_neg (by omega)⟩
      have hdd : digs u0 = dgt u :: l := by rw [← HD.out, digs_lt hlt]; rfl
      have HDD := Lib.hid hdd
      clear hdd
      rcases Nat.eq_zero_or_pos l.length with hl0 | hne0
      · have hl0 : l = [] := List.eq_nil_of_length_eq_zero hl0
        subst hl0
        have hb := HH.out.2 rfl
        subst hb
        rcases hsg with ⟨hs, hdl⟩ | ⟨hs, hdl⟩
        all_goals
          have HDL := Lib.hid hdl
          clear hdl
          go_wp2_with (at_builtin; go_must (refine wpList_append_own_none rfl (.tmp 22) (.tmp 23) _ rfl w.heap.size 5 i0 1 Try.underlying68 hi0 _ 1 _ rfl (own_one wr w.heap.size hsz _) rfl ?_); have hcv := conv_own (l := [dgt u]) (own_digit wr w.heap.size hsz u hlt))
          go_returns
          first
            | exact ⟨ret_str (dec_neg HDL.out HDD.out), HT.out.alloc _⟩
            | exact ⟨ret_str (dec_pos HDL.out HDD.out), HT.out.alloc _⟩
      · skip
        rcases hsg with ⟨hs, hdl⟩ | ⟨hs, hdl⟩
        all_goals
          have HDL := Lib.hid hdl
          clear hdl
          obtain ⟨g, c, hb, _, hglt⟩ := HH.out.1.form hne0
          subst hb
          have hcells : Hid (∀ o, ∀ j u', (bts l)[j]? = some u' → (wr.alloc o).cell? ((⟨g, 0, none⟩ : Addr).add j) = some u') := fun o j u' hu' => by rw [addr_add]; exact own_cell (HH.out.1.alloc o) j u' hu'
          have hl1 := bts_length l
          have HL1 : Hid ((bts l).length = l.length * 1) := by show (bts l).length = l.length * 1; omega
          have hk1 : 1 + l.length ≤ maxLen := by unfold maxLen; omega
          have hk2 : (1 + l.length) * 1 ≤ 140737488355328 := by omega
          have hk3 := bts_one l
          have HK3 := Lib.hid hk3
          skip
          clear hl1 hk3
          go_wp2_with (at_builtin; go_must (refine wpList_append_lies _ rfl (.tmp 22) (.tmp 23) _ rfl w.heap.size 5 i0 _ 1 1 Try.underlying68 hi0 hz0 hz1 hz2 rfl (by omega) _ 1 _ rfl (own_one wr w.heap.size hsz _) ⟨g, 0, none⟩ l.length c (bts l) rfl HL1.out (hcells.out _) HK3.out hne0 hk1 hk2 (le_alloc hsz _) (wr.heap.size + 1) (by simp) ?_); intro g2 c2 w2 hown2 hgrow hat hlt2; have hh2 := held_cons hlt hown2; have hcv := conv_own (L := 1 + l.length) (l := dgt u :: l) (len_own hh2.1); clear hh2)
          go_returns
          first
            | exact ⟨ret_str (dec_neg HDL.out HDD.out), dec_tch hgrow HT.out⟩
            | exact ⟨ret_str (dec_pos HDL.out HDD.out), dec_tch hgrow HT.out⟩
    · have hg10 : ¬ ((u : Int) < 10) := by omega
      have hd10 := digs_ge hlt
      have HD10 : Hid (∀ r, digs (u / 10) ++ (dgt (u % 10) :: r) = digs u ++ r) := fun r => by rw [hd10, List.append_assoc]; rfl
      have hmod : u % 10 < 10 := Nat.mod_lt _ (by omega)
      clear hd10
      rcases Nat.eq_zero_or_pos l.length with hl0 | hne0
      · have hl0 : l = [] := List.eq_nil_of_length_eq_zero hl0
        subst hl0
        have hb := HH.out.2 rfl
        subst hb
        go_wp2_with (at_builtin; go_must (refine wpList_append_own_none rfl (.tmp 16) (.tmp 17) _ rfl w.heap.size 5 i0 1 Try.underlying68 hi0 _ 1 _ rfl (own_one wr w.heap.size hsz _) rfl ?_))
        exact ⟨⟨u / 10, [dgt (u % 10)], by omega, by simp, held_one wr w.heap.size hsz (u % 10) hmod, (HD10.out []).trans HD.out, HT.out.alloc _⟩, by simp [intOf]; omega⟩
      · skip
        obtain ⟨g, c, hb, _, hglt⟩ := HH.out.1.form hne0
        subst hb
        have hcells : Hid (∀ o, ∀ j u', (bts l)[j]? = some u' → (wr.alloc o).cell? ((⟨g, 0, none⟩ : Addr).add j) = some u') := fun o j u' hu' => by rw [addr_add]; exact own_cell (HH.out.1.alloc o) j u' hu'
        have hl1 := bts_length l
        have HL1 : Hid ((bts l).length = l.length * 1) := by show (bts l).length = l.length * 1; omega
        have hk1 : 1 + l.length ≤ maxLen := by unfold maxLen; omega
        have hk2 : (1 + l.length) * 1 ≤ 140737488355328 := by omega
        have hk3 := bts_one l
        have HK3 := Lib.hid hk3
        skip
        clear hl1 hk3
        go_wp2_with (at_builtin; go_must (refine wpList_append_lies _ rfl (.tmp 16) (.tmp 17) _ rfl w.heap.size 5 i0 _ 1 1 Try.underlying68 hi0 hz0 hz1 hz2 rfl (by omega) _ 1 _ rfl (own_one wr w.heap.size hsz _) ⟨g, 0, none⟩ l.length c (bts l) rfl HL1.out (hcells.out _) HK3.out hne0 hk1 hk2 (le_alloc hsz _) (wr.heap.size + 1) (by simp) ?_); intro g2 c2 w2 hown2 hgrow hat hlt2)
        exact ⟨⟨u / 10, dgt (u % 10) :: l, by omega, by simp, held_cons hmod hown2, (HD10.out l).trans HD.out, dec_tch hgrow HT.out⟩, by simp [intOf]; omega⟩
end Go.Proofs.Ytmoiehbhhplckaa
