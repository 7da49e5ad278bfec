/- The duty law's package: the walk of DutyClones. Conditions: the slices read as lists of calls. -/
import Derived.Test.YtmfhilddemgabaaProg
import Derived.Test.YtmfhilddemgabaaE15
import Derived.Tactics
import Derived.Tactics2
import Derived.WalkKit
import Derived.WalkSpells
import Derived.WalkLawsBesides
import Derived.StillTactics
import Derived.StillTailTactics
import Derived.OwnWalk
import Derived.Laws.Pointers
import Derived.Laws.ResultCell
import Derived.Deep.RegionHeld3
import Derived.Deep.RegionWith
import Derived.Deep.RegionLaw
import Derived.Deep.AppendLies
import Derived.Deep.QuietTactic
import Derived.BigQuiet
import Derived.LoopTactic
import Derived.Deep.LoopGhost
import Derived.Deep.DeepCutAuto
import Derived.Deep.DeepFit
import Derived.Maps.AppendAt
import Derived.Below
import Derived.Lib.Hide
import Derived.Handy
import Derived.KernelRfl
namespace Go.Proofs.Ytmfhilddemgabaa
set_option linter.unusedVariables false
set_option linter.unusedSimpArgs false
open Go.RowKit

set_option maxHeartbeats 3200000 in
set_option maxRecDepth 100000 in
theorem clones_walk (A : Option Addr) (n c : Nat) (A' : Option Addr) (n' c' : Nat) (A'' : Option Addr) (n'' c'' : Nat) (w : World) (h : n ≤ c) (hm : c ≤ 9223372036854775807) (xs : List Opp) (hr : Rd w No 8 A n (orows xs))
    (h' : n' ≤ c') (hm' : c' ≤ 9223372036854775807) (xs' : List Opp) (hr' : Rd w No 8 A' n' (orows xs')) (h'' : n'' ≤ c'') (hm'' : c'' ≤ 9223372036854775807) (xs'' : List Opp) (hr'' : Rd w No 8 A'' n'' (orows xs'')) :
    Calls Try.prog 10 #[.slice A n c, .slice A' n' c', .slice A'' n'' c''] w fun e w' => e = .returned (.bool true) ∧ Below w.heap.size w w' := by
  have HR := Lib.hid hr
  have HR' := Lib.hid hr'
  have HR'' := Lib.hid hr''
  have hf := (few60_le n).1
  have hf' := (few60_le n').1
  have hf'' := (few60_le n'').1
  have hlx : ∀ (n : Nat) (xs : List Opp), (xs.take (few60 n)).length ≤ 60 := fun n xs => by have := (few60_le n).1; simp; omega
  have HLX := Lib.hid hlx
  clear hr hr' hr'' hlx
  go_enter Try.func10, Try.ntmps10
  go_wp2_with (go_at_call 12; refine (alive_c w).mono ?_; rintro e w1 ⟨rfl, t1⟩; have T1 := Lib.hid t1; clear t1)
  refine (few_c No A n c xs _ h hm (HR.out.tch (T1.out.and ((Tch.refl No w1).alloc _)))).mono ?_
  rintro e w2 ⟨rfl, rfl⟩
  have ho := ops_new (few_rd HR.out) T1.out
  have HO := Lib.hid ho
  have AL := Lib.hid (alike_new w1)
  clear ho
  go_wp2_with (go_at_call 29; go_must (refine (run_c No w1.heap.size w1.heap.size (.slice none 0 0) [] none 0 A (few60 n) c _ _ AL.out (fun _ f => f.elim) (by simp) HO.out (by simp; omega)).mono ?_); rintro e w2 ⟨A1, c1, v1, rfl, s1, s2, s3, s4, s5⟩; have RN := Lib.hid (ran_of T1.out s1 s2 s3 s4); clear s1 s2 s3 s4 s5; have k1 := runL_len [] (xs.take (few60 n)); have k2 := HLX.out n xs; simp only [List.length_nil] at k1)
  refine (tclone_c _ _ _ _ _ RN.out.tab (by omega)).mono ?_
  rintro e w3 ⟨gk, vk, rfl, hgk, hkt, tk⟩
  have TW := Lib.hid (two_of RN.out hgk hkt tk)
  have z3 := tk.size
  clear hgk hkt tk
  go_wp2_with fail
  refine (few_c No A' n' c' xs' _ h' hm' (HR'.out.tch TW.out.tch)).mono ?_
  rintro e w9 ⟨rfl, rfl⟩
  have ho := ops_at (few_rd HR'.out) TW.out.tch (tab_ge TW.out.tab TW.out.ge TW.out.ge)
  have al : Alike (Foot gk vk) w1.heap.size w1.heap.size v1 (runL [] (xs.take (few60 n))) w3 A1 c1 v1 w3 := ⟨TW.out.nil, TW.out.tab, TW.out.rd, Tch.refl _ _, fun k hk => .inl hk⟩
  have HO2 := Lib.hid ho
  have AL2 := Lib.hid al
  have hg3 : w1.heap.size ≤ w3.heap.size := Nat.le_of_lt (tab_lt TW.out.tab _ (.inl rfl))
  clear ho al
  go_wp2_with fail
  refine (run_c (Foot gk vk) w1.heap.size w1.heap.size v1 _ A1 c1 A' (few60 n') c' _ _ AL2.out (tab_lt TW.out.kab) hg3 HO2.out (by omega)).mono ?_
  rintro e w4 ⟨A2, c2, v2, rfl, s1, s2, s3, s4, s5⟩
  have TW2 := Lib.hid (two2_of TW.out s2 s3 s4 s5)
  have k3 := runL_len (runL [] (xs.take (few60 n))) (xs'.take (few60 n'))
  have k4 := HLX.out n' xs'
  have z4 := s4.size
  clear s1 s2 s3 s4 s5
  go_wp2_with fail
  refine (few_c No A'' n'' c'' xs'' _ h'' hm'' (HR''.out.tch TW2.out.tch)).mono ?_
  rintro e w9 ⟨rfl, rfl⟩
  have ho := ops_at (few_rd HR''.out) TW2.out.tch (tab_ge TW2.out.kab TW2.out.kge TW2.out.bge)
  have al : Alike No gk w2.heap.size vk (runL [] (xs.take (few60 n))) w4 A1 c1 vk w4 := ⟨TW2.out.nil, TW2.out.kab, TW2.out.rd, Tch.refl _ _, fun k hk => .inl hk⟩
  have HO3 := Lib.hid ho
  have AL3 := Lib.hid al
  clear ho al
  go_wp2_with fail
  refine (run_c No gk w2.heap.size vk _ A1 c1 A'' (few60 n'') c'' _ _ AL3.out (fun _ f => f.elim) (by omega) HO3.out (by omega)).mono ?_
  rintro e w5 ⟨A3, c3, v3, rfl, s1, s2, s3, s4, s5⟩
  have TW3 := Lib.hid (two3_of TW2.out s2 s3 s4)
  have k5 := runL_len (runL [] (xs.take (few60 n))) (xs''.take (few60 n''))
  have k6 := HLX.out n'' xs''
  clear s1 s2 s3 s4 s5
  go_wp2_with fail
  refine (all_c _ _ _ _ _ TW3.out.tab (by omega)).mono ?_
  rintro e w6 ⟨B1, d1, rfl, o1, t6⟩
  have rp := rd_pair TW3.out.rd2 o1 t6
  have RP := Lib.hid rp
  have T6 := Lib.hid t6
  clear rp o1 t6
  go_wp2_with fail
  refine (same_c No _ _ _ _ _ _ _ RP.out.1 RP.out.2 (by omega)).mono ?_
  rintro e w7 ⟨rfl, q7, rfl⟩
  go_wp2_with fail
  refine (all_c _ _ _ _ _ (tab_tch TW3.out.kab (T6.out.drewN q7)) (by omega)).mono ?_
  rintro e w8 ⟨B2, d2, rfl, o2, t8⟩
  have rp2 := rd_pair (TW3.out.rd3.tch (T6.out.drewN q7)) o2 t8
  have RP2 := Lib.hid rp2
  have T8 := Lib.hid ((T6.out.drewN q7).and t8)
  clear rp2 o2 t8
  go_wp2_with fail
  refine (same_c No _ _ _ _ _ _ _ RP2.out.1 RP2.out.2 (by omega)).mono ?_
  rintro e w9 ⟨rfl, q9, rfl⟩
  have U0 : Hid (Tch No w (w8.drewN q9)) := (TW3.out.tch.and T8.out).drewN q9
  go_wp2_with fail
  refine (add_nil ⟨0, 0, ⟨#[]⟩, 0, false, 0⟩ _).mono ?_
  rintro e y1 ⟨rfl, u1⟩
  have U1 := Lib.hid (U0.out.and u1)
  clear u1
  go_wp2_with fail
  refine (fulfil_nil 0 ⟨#[]⟩ 0 _).mono ?_
  rintro e y2 ⟨rfl, u2⟩
  have U2 := Lib.hid (U1.out.and u2)
  clear u2
  go_wp2_with fail
  refine (expire_nil 1 _).mono ?_
  rintro e y3 ⟨rfl, u3⟩
  have U3 := Lib.hid (U2.out.and u3)
  clear u3
  go_wp2_with fail
  refine (void_nil 0 _).mono ?_
  rintro e y4 ⟨rfl, u4⟩
  have U4 := Lib.hid (U3.out.and u4)
  clear u4
  go_wp2_with fail
  refine (all_nil _).mono ?_
  rintro e y5 ⟨rfl, rfl⟩
  go_wp2_with fail
  refine (pending_nil 0 _).mono ?_
  rintro e y6 ⟨rfl, rfl⟩
  go_wp2_with fail
  refine (tclone_nil _).mono ?_
  rintro e y7 ⟨rfl, rfl⟩
  go_wp2
  go_returns
  exact ⟨rfl, U4.out.noBelow⟩
end Go.Proofs.Ytmfhilddemgabaa
