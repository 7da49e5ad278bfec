/- The lexer: numbers, texts. Conditions: the lexer is one block. -/
import Derived.Test.YtmoiehbhhplckaaProg
import Derived.Test.YtmoiehbhhplckaaL4
import Derived.Lib.IndexBytes
import Derived.Tactics
import Derived.Tactics2
import Derived.WalkKit
import Derived.WalkSpells
import Derived.WalkLawsBesides
import Derived.StillTactics
import Derived.StillTailTactics
import Derived.OwnWalk
import Derived.Laws.Pointers
import Derived.Laws.ResultCell
import Derived.Deep.RegionHeld3
import Derived.Deep.RegionWith
import Derived.Deep.RegionLaw
import Derived.Deep.AppendLies
import Derived.Deep.QuietTactic
import Derived.BigQuiet
import Derived.LoopTactic
import Derived.Deep.LoopGhost
import Derived.Deep.DeepCutAuto
import Derived.Deep.DeepFit
import Derived.Maps.AppendAt
import Derived.Below
import Derived.Lib.Hide
import Derived.Handy
import Derived.KernelRfl
import Derived.IntWalk
import Derived.Laws.AppendOwnNone
import Derived.Laws.IdiomStrings
namespace Go.Proofs.Ytmoiehbhhplckaa
set_option linter.unusedVariables false
set_option linter.unusedSimpArgs false
open Go.RowKit

def numR (L : List UInt8) (p : Nat) : LexR := ⟨(parseV ((L.drop p).take (wend L p - p))).2, ⟨2, (L.drop p).take (wend L p - p), (parseV ((L.drop p).take (wend L p - p))).1, p⟩, wend L p⟩
set_option maxHeartbeats 1600000 in
set_option maxRecDepth 100000 in
theorem numbered_c (g b : Nat) (v : Value) (s : ByteArray) (p : Nat) (l : List Tk) (w : World) (h : Lx w g b s p v l) (hb : b ≤ w.heap.size) (hl : l.length ≤ 1000000) (hp : p ≤ s.size) (hs : s.size ≤ 4096) :
    Calls Try.prog 68 #[.pointer (some ⟨g, 0, none⟩)] w (NextP (numR s.data.toList p) g b v s p l w) := by
  obtain ⟨c0, c1, c2⟩ := cells3 h.blk
  have H := Lib.hid h
  obtain ⟨q0, q1⟩ := wend_le s p hp
  have HW : Hid (∀ w, Lx w g b s p v l → Calls Try.prog 81 #[.pointer (some ⟨g, 0, none⟩)] w fun e w' => e = .returned (.int .i64 (wend s.data.toList p)) ∧ w = w') := fun w h => word_c g b v s p l w h hp hs
  have HR : Hid (numR s.data.toList p = ⟨(parseV ((s.data.toList.drop p).take (wend s.data.toList p - p))).2, ⟨2, (s.data.toList.drop p).take (wend s.data.toList p - p), (parseV ((s.data.toList.drop p).take (wend s.data.toList p - p))).1, p⟩, wend s.data.toList p⟩) := rfl
  clear h
  generalize wend s.data.toList p = q at *
  generalize numR s.data.toList p = r at *
  have hsz : (s.extract p q).size ≤ 9223372036854775807 := by rw [ByteArray.size_extract]; omega
  have PC : Hid (∀ w, Calls Try.prog 20 #[.string (s.extract p q)] w (PairT (parseV ((s.data.toList.drop p).take (q - p))) w)) := fun w => by
    have := parse_c (s.extract p q) w hsz
    rw [ext_eq] at this
    exact this
  clear hsz
  have hq2 : (q : Int) ≤ (s.size : Int) := by omega
  have hpq : (p : Int) ≤ (q : Int) := by omega
  rcases hpv : parseV ((s.data.toList.drop p).take (q - p)) with ⟨n, ok⟩
  have HPV := Lib.hid hpv
  clear hpv
  cases ok
  · have HOK : Hid (r.ok = false) := by show _ = _; rw [HR.out, HPV.out]
    go_enter Try.func68, Try.ntmps68
    go_wp2_with fail
    refine (HW.out _ H.out).mono ?_
    rintro e w1 ⟨rfl, rfl⟩
    go_wp2_with fail
    go_region_held3 (fun w' => w'.cell? ⟨g, 0, none⟩ = some (.string s) ∧ w'.cell? ⟨g, 1, none⟩ = some (.int .i64 p)) (go_keep)
      (first
        | (go_at_call 20; refine (PC.out _).mono ?_; rintro e w2 ⟨rfl, t2⟩; rw [HPV.out]; have T2 : Hid (Tch No w w2) := ((Tch.refl No w).drewN 1).and t2; have x012 := cells3 (H.out.tch T2.out).blk; obtain ⟨x0, x1, x2⟩ := x012; clear t2))
    all_goals
      go_wp2_with fail
      refine (new_c _ _ _).mono ?_
      rintro e w3 ⟨u, rfl, hu, t3⟩
      have HU := Lib.hid (And.intro hu (T2.out.and t3))
      clear hu t3
      go_wp2
      go_returns
      exact ⟨fun h => (by rw [HOK.out] at h; cases h), fun _ => ⟨u, v, rfl, HU.out.1, lv_refl H.out HU.out.2⟩⟩
  · have HOK : Hid (r.ok = true) := by show _ = _; rw [HR.out, HPV.out]
    go_enter Try.func68, Try.ntmps68
    go_wp2_with fail
    refine (HW.out _ H.out).mono ?_
    rintro e w1 ⟨rfl, rfl⟩
    go_wp2_with fail
    go_region_held3 (fun w' => w'.cell? ⟨g, 0, none⟩ = some (.string s) ∧ w'.cell? ⟨g, 1, none⟩ = some (.int .i64 p)) (go_keep)
      (first
        | (go_at_call 20; refine (PC.out _).mono ?_; rintro e w2 ⟨rfl, t2⟩; rw [HPV.out]; have T2 : Hid (Tch No w w2) := ((Tch.refl No w).drewN 1).and t2; have x012 := cells3 (H.out.tch T2.out).blk; obtain ⟨x0, x1, x2⟩ := x012; clear t2))
    all_goals
      go_wp2_with fail
      go_still_tail 14, (by kernel_rfl)
      go_wp2_with fail
      refine (lput_s g b v s p q l 2 n 0 (s.extract p q) _ ((H.out.tch T2.out).tch ((Tch.refl No w2).drewN 1)) (Nat.le_trans hb T2.out.size) hl).mono ?_
      rintro e w3 ⟨v2, rfl, a2⟩
      have A2 := Lib.hid (a2.no (T2.out.drewN 1))
      clear a2
      go_wp2
      go_returns
      exact ⟨fun _ => ⟨v2, rfl, by rw [HR.out, HPV.out]; simp only; rw [← ext_eq]; exact A2.out⟩, fun h => (by rw [HOK.out] at h; cases h)⟩

def qIdx (L : List UInt8) (p : Nat) : Int := Lib.indexByte (L.drop (p + 1)) 34
def qBody (L : List UInt8) (p : Nat) : List UInt8 := (L.drop (p + 1)).take (qIdx L p).toNat
def quotR (L : List UInt8) (p : Nat) : LexR := ⟨decide (0 ≤ qIdx L p) && (decide (Lib.indexByte (qBody L p) 10 < 0) && plainB (qBody L p)), ⟨3, qBody L p, 0, p⟩, p + (qIdx L p).toNat + 2⟩
theorem idx_lt (l : List UInt8) (c : UInt8) : Lib.indexByte l c < l.length := by
  induction l with
  | nil => show (-1 : Int) < 0; decide
  | cons a l ih =>
    unfold Lib.indexByte
    split
    · simp
    · split
      · simp; omega
      · simp; omega
set_option maxHeartbeats 1600000 in
set_option maxRecDepth 100000 in
theorem quoted_c (g b : Nat) (v : Value) (s : ByteArray) (p : Nat) (l : List Tk) (w : World) (h : Lx w g b s p v l) (hb : b ≤ w.heap.size) (hl : l.length ≤ 1000000) (hp : p < s.size) (hs : s.size ≤ 4096) :
    Calls Try.prog 69 #[.pointer (some ⟨g, 0, none⟩)] w (NextP (quotR s.data.toList p) g b v s p l w) := by
  obtain ⟨c0, c1, c2⟩ := cells3 h.blk
  have H := Lib.hid h
  have hi1 : qIdx s.data.toList p < (s.size : Int) - (p + 1) := by
    have := idx_lt (s.data.toList.drop (p + 1)) 34
    rw [List.length_drop, Array.length_toList] at this
    have e : s.data.size = s.size := rfl
    unfold qIdx
    omega
  have hi0 : -1 ≤ qIdx s.data.toList p := Lib.indexByte_ge _ _
  have I1 : Hid (∀ w, Calls Try.prog 47 #[.string (s.extract (p + 1) s.size), .int .u8 34] w fun e w' => e = .returned (.int .i64 (qIdx s.data.toList p)) ∧ w' = w) := fun w => by
    have := Try.strings_IndexByte (s.extract (p + 1) s.size) 34 w
    rw [Lib.extract_to_end] at this
    exact this
  have HR : Hid (quotR s.data.toList p = ⟨decide (0 ≤ qIdx s.data.toList p) && (decide (Lib.indexByte (qBody s.data.toList p) 10 < 0) && plainB (qBody s.data.toList p)), ⟨3, qBody s.data.toList p, 0, p⟩, p + (qIdx s.data.toList p).toNat + 2⟩) := rfl
  have HBD : Hid (∀ n : Nat, qIdx s.data.toList p = n → qBody s.data.toList p = (s.extract (p + 1) (p + 1 + n)).data.toList) := fun n hn => by
    unfold qBody
    rw [hn, ext_eq]
    congr 1
    omega
  clear h
  generalize qIdx s.data.toList p = i at *
  generalize qBody s.data.toList p = B at *
  generalize quotR s.data.toList p = r at *
  have hwp : IntKind.i64.wrap ((p : Int) + 1) = (p : Int) + 1 := IntWalk.i64_in _ (by omega)
  have hp1 : (p : Int) + 1 ≤ (s.size : Int) := by omega
  have hp2 : (0 : Int) ≤ (p : Int) + 1 := by omega
  rcases (by omega : i < 0 ∨ 0 ≤ i) with hi | hi
  · have HOK : Hid (r.ok = false) := by show _ = _; rw [HR.out]; simp; omega
    go_enter Try.func69, Try.ntmps69
    go_wp2_with fail
    go_region_held3 (fun w' => w'.cell? ⟨g, 0, none⟩ = some (.string s) ∧ w'.cell? ⟨g, 1, none⟩ = some (.int .i64 p)) (go_keep)
      (first
        | (go_at_call 47; refine (I1.out _).mono ?_; rintro e w1 ⟨rfl, rfl⟩))
    all_goals
      go_wp2_with fail
      go_quiet (fail)
      go_wp2_with fail
      refine (new_c _ _ _).mono ?_
      rintro e w3 ⟨u, rfl, hu, t3⟩
      have HU := Lib.hid (And.intro hu (((Tch.refl No w).drewN _).and t3))
      clear hu t3
      go_wp2
      go_returns
      exact ⟨fun h => (by rw [HOK.out] at h; cases h), fun _ => ⟨u, v, rfl, HU.out.1, lv_refl H.out HU.out.2⟩⟩
  · obtain ⟨n, rfl⟩ : ∃ n : Nat, i = n := ⟨i.toNat, by omega⟩
    have hB := HBD.out n rfl
    have hn1 : (p : Int) + 1 + (n : Int) ≤ (s.size : Int) := by omega
    have hn2 : (p : Int) + 1 ≤ (p : Int) + 1 + (n : Int) := by omega
    have hn3 : (0 : Int) ≤ (p : Int) + 1 + (n : Int) := by omega
    have hwp2 : IntKind.i64.wrap ((p : Int) + 1 + (n : Int)) = (p : Int) + 1 + (n : Int) := IntWalk.i64_in _ (by omega)
    have hwp3 : IntKind.i64.wrap ((p : Int) + (n : Int)) = (p : Int) + (n : Int) := IntWalk.i64_in _ (by omega)
    have hwp4 : IntKind.i64.wrap ((p : Int) + (n : Int) + 2) = (p : Int) + (n : Int) + 2 := IntWalk.i64_in _ (by omega)
    have HB := Lib.hid hB
    clear hB
    have I2 : Hid (∀ w, Calls Try.prog 47 #[.string (s.extract (p + 1) (p + 1 + n)), .int .u8 10] w fun e w' => e = .returned (.int .i64 (Lib.indexByte B 10)) ∧ w' = w) := fun w => by
      have := Try.strings_IndexByte (s.extract (p + 1) (p + 1 + n)) 10 w
      rw [← HB.out] at this
      exact this
    have PL : Hid (∀ w, Calls Try.prog 27 #[.string (s.extract (p + 1) (p + 1 + n))] w (Same (plainB B) w)) := fun w => by
      have := plain_c (s.extract (p + 1) (p + 1 + n)) w (by rw [ByteArray.size_extract]; omega)
      rw [← HB.out] at this
      exact this
    have hnn : decide (0 ≤ (n : Int)) = true := by simp
    generalize Lib.indexByte B 10 = i2 at *
    generalize hpb : plainB B = pb at *
    have HPB := Lib.hid hpb
    clear hpb
    have HN := Lib.hid hnn
    clear hnn
    have HQ : Hid ((p : Int) + (n : Int) + 2 = ((p + n + 2 : Nat) : Int)) := by show _ = _; omega
    rcases (by omega : i2 < 0 ∨ 0 ≤ i2) with h2 | h2
    · have HOK1 : Hid (r.ok = pb) := by show _ = _; rw [HR.out]; simp only; rw [HN.out]; simp [h2]
      cases pb
      · have HOK : Hid (r.ok = false) := HOK1
        go_enter Try.func69, Try.ntmps69
        go_wp2_with fail
        go_region_held3 (fun w' => w'.cell? ⟨g, 0, none⟩ = some (.string s) ∧ w'.cell? ⟨g, 1, none⟩ = some (.int .i64 p)) (go_keep)
          (first
            | (go_at_call 47; refine (I1.out _).mono ?_; rintro e w1 ⟨rfl, rfl⟩))
        all_goals
          go_wp2_with fail
          go_region_held3 (fun w' => w'.cell? ⟨g, 0, none⟩ = some (.string s) ∧ w'.cell? ⟨g, 1, none⟩ = some (.int .i64 p)) (go_keep)
            (first
              | (go_at_call 47; refine (I2.out _).mono ?_; rintro e w1 ⟨rfl, rfl⟩))
          all_goals
            go_wp2_with fail
            go_quiet (fail)
            go_wp2_with fail
            refine (PL.out _).mono ?_
            rintro e w1 ⟨rfl, rfl⟩
            go_wp2_with fail
            refine (new_c _ _ _).mono ?_
            rintro e w3 ⟨u, rfl, hu, t3⟩
            have HU := Lib.hid (And.intro hu (((Tch.refl No w).drewN _).and t3))
            clear hu t3
            go_wp2
            go_returns
            exact ⟨fun h => (by rw [HOK.out] at h; cases h), fun _ => ⟨u, v, rfl, HU.out.1, lv_refl H.out HU.out.2⟩⟩
      · have HOK : Hid (r.ok = true) := HOK1
        go_enter Try.func69, Try.ntmps69
        go_wp2_with fail
        go_region_held3 (fun w' => w'.cell? ⟨g, 0, none⟩ = some (.string s) ∧ w'.cell? ⟨g, 1, none⟩ = some (.int .i64 p)) (go_keep)
          (first
            | (go_at_call 47; refine (I1.out _).mono ?_; rintro e w1 ⟨rfl, rfl⟩))
        all_goals
          go_wp2_with fail
          go_region_held3 (fun w' => w'.cell? ⟨g, 0, none⟩ = some (.string s) ∧ w'.cell? ⟨g, 1, none⟩ = some (.int .i64 p)) (go_keep)
            (first
              | (go_at_call 47; refine (I2.out _).mono ?_; rintro e w1 ⟨rfl, rfl⟩))
          all_goals
            go_wp2_with fail
            go_quiet (fail)
            go_wp2_with fail
            refine (PL.out _).mono ?_
            rintro e w1 ⟨rfl, rfl⟩
            go_wp2_with fail
            rw [HQ.out]
            refine (lput_s g b v s p (p + n + 2) l 3 0 0 (s.extract (p + 1) (p + 1 + n)) _ (H.out.tch ((Tch.refl No w).drewN _)) hb hl).mono ?_
            rintro e w2 ⟨v2, rfl, a2⟩
            have A2 := Lib.hid (a2.no ((Tch.refl No w).drewN _))
            clear a2
            go_wp2
            go_returns
            exact ⟨fun _ => ⟨v2, rfl, by rw [HR.out, HB.out]; exact A2.out⟩, fun h => (by rw [HOK.out] at h; cases h)⟩
    · have HOK : Hid (r.ok = false) := by show _ = _; rw [HR.out]; simp; omega
      go_enter Try.func69, Try.ntmps69
      go_wp2_with fail
      go_region_held3 (fun w' => w'.cell? ⟨g, 0, none⟩ = some (.string s) ∧ w'.cell? ⟨g, 1, none⟩ = some (.int .i64 p)) (go_keep)
        (first
          | (go_at_call 47; refine (I1.out _).mono ?_; rintro e w1 ⟨rfl, rfl⟩))
      all_goals
        go_wp2_with fail
        go_region_held3 (fun w' => w'.cell? ⟨g, 0, none⟩ = some (.string s) ∧ w'.cell? ⟨g, 1, none⟩ = some (.int .i64 p)) (go_keep)
          (first
            | (go_at_call 47; refine (I2.out _).mono ?_; rintro e w1 ⟨rfl, rfl⟩))
        all_goals
          go_wp2_with fail
          refine (new_c _ _ _).mono ?_
          rintro e w3 ⟨u, rfl, hu, t3⟩
          have HU := Lib.hid (And.intro hu ((((Tch.refl No w).drewN 1).drewN 1).and t3))
          clear hu t3
          go_wp2
          go_returns
          exact ⟨fun h => (by rw [HOK.out] at h; cases h), fun _ => ⟨u, v, rfl, HU.out.1, lv_refl H.out HU.out.2⟩⟩
end Go.Proofs.Ytmoiehbhhplckaa
