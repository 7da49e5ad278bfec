/- The duty law's package: two tables side by side. Conditions: none. -/
import Derived.Test.YtmfhilddemgabaaProg
import Derived.Test.YtmfhilddemgabaaE13
import Derived.Tactics
import Derived.Tactics2
import Derived.WalkKit
import Derived.WalkSpells
import Derived.WalkLawsBesides
import Derived.StillTactics
import Derived.StillTailTactics
import Derived.OwnWalk
import Derived.Laws.Pointers
import Derived.Laws.ResultCell
import Derived.Deep.RegionHeld3
import Derived.Deep.RegionWith
import Derived.Deep.RegionLaw
import Derived.Deep.AppendLies
import Derived.Deep.QuietTactic
import Derived.BigQuiet
import Derived.LoopTactic
import Derived.Deep.LoopGhost
import Derived.Deep.DeepCutAuto
import Derived.Deep.DeepFit
import Derived.Maps.AppendAt
import Derived.Below
import Derived.Lib.Hide
import Derived.Handy
import Derived.KernelRfl
namespace Go.Proofs.Ytmfhilddemgabaa
set_option linter.unusedVariables false
set_option linter.unusedSimpArgs false
open Go.RowKit

theorem rd_pair {S : Nat → Prop} {B n c1 : Nat} {A A1 : Option Addr} {xs : List Value} {wr w2 : World} (hr : Rd wr S 6 A n xs) (ho : w2.ownsRow B 23 6 (.slice A1 n c1) n xs) (t : Tch No wr w2) : Rd w2 No 6 A1 n xs ∧ Rd w2 No 6 A n xs := by
  obtain ⟨A4, c4, e4, hr4⟩ := Rd.of_own (S := No) ho (fun _ _ f => f)
  injection e4 with e4 _ e5
  subst e4
  exact ⟨hr4, (hr.tch t.no).mono (fun _ _ f => f.elim)⟩
theorem tch_up {S : Nat → Prop} {w0 a b : World} (h0 : Tch No w0 a) (t : Tch S a b) (hS : ∀ k, S k → w0.heap.size ≤ k) : Tch No w0 b := h0.trans t fun k hk => .inr (hS k hk)
theorem tab_far {S : Nat → Prop} {w w' : World} {g b : Nat} {v : Value} {l : List Ins} (h : Tab w g b v l) (t : Tch S w w') (hg : ¬ S g) (hv : ∀ k, v.ownBlock = some k → ¬ S k) : Tab w' g b v l := ⟨t.blk h.1 hg, t.own h.2 hv⟩
theorem tab_lt {w : World} {g b : Nat} {v : Value} {l : List Ins} (h : Tab w g b v l) : ∀ k, Foot g v k → k < w.heap.size := by
  rintro k (f | f)
  · rw [f]; exact h.1.lt
  · exact own_lt h.2 k f
theorem tab_ge {w : World} {g b m : Nat} {v : Value} {l : List Ins} (h : Tab w g b v l) (hg : m ≤ g) (hb : m ≤ b) : ∀ k, Foot g v k → m ≤ k := by
  rintro k (f | f)
  · omega
  · have := own_base h.2 k f; omega
/-- The list of calls reads anywhere behind, whatever may turn that was not there. -/
theorem ops_at {w w1 : World} {S : Nat → Prop} {A : Option Addr} {n : Nat} {xs : List Opp} (h : Rd w No 8 A n (orows xs)) (t : Tch No w w1) (hS : ∀ k, S k → w.heap.size ≤ k) : Rd w1 S 8 A n (orows xs) := by
  obtain ⟨hl, hc⟩ := h
  refine ⟨hl, fun hp => ?_⟩
  obtain ⟨g, off, hA, _, hlt, hcell⟩ := hc hp
  exact ⟨g, off, hA, fun f => by have := hS g f; omega, Nat.lt_of_lt_of_le hlt t.size, fun j u hu => t.cell (fun f => f) (hcell j u hu)⟩

/-- Behind a run on a new table. -/
structure Ran (w : World) (g : Nat) (l : List Ins) (A : Option Addr) (c : Nat) (v : Value) (w2 : World) : Prop where
  nil : SNil A l.length c
  tab : Tab w2 g g v l
  rd : Rd w2 (FF g v No) 6 A l.length (rows l)
  tch : Tch No w w2
  ge : w.heap.size ≤ g
theorem ran_of {w w1 w2 : World} {l : List Ins} {A : Option Addr} {c : Nat} {v : Value} (t1 : Tch No w w1) (h1 : SNil A l.length c) (h2 : Tab w2 w1.heap.size w1.heap.size v l) (h3 : Rd w2 (FF w1.heap.size v No) 6 A l.length (rows l))
    (h4 : Tch (Foot w1.heap.size (.slice none 0 0)) (w1.alloc (.cells #[.slice none 0 0] 30)) w2) : Ran w w1.heap.size l A c v w2 :=
  ⟨h1, h2, h3, tch_up (t1.alloc _) h4 (by
    rintro k (f | f)
    · have := t1.size; omega
    · simp [Value.ownBlock] at f), t1.size⟩

/-- Two tables and their lists. -/
structure Two (w : World) (g : Nat) (l : List Ins) (A : Option Addr) (c : Nat) (v : Value) (gk bk : Nat) (vk : Value) (w3 : World) : Prop where
  nil : SNil A l.length c
  tab : Tab w3 g g v l
  kab : Tab w3 gk bk vk l
  rd : Rd w3 (FF g v (Foot gk vk)) 6 A l.length (rows l)
  tch : Tch No w w3
  ge : w.heap.size ≤ g
  kge : w.heap.size ≤ gk
  bge : w.heap.size ≤ bk
  far : ∀ k, Foot g v k → ¬ Foot gk vk k
theorem two_of {w w2 w3 : World} {g gk c : Nat} {l : List Ins} {A : Option Addr} {v vk : Value} (h : Ran w g l A c v w2) (hg : w2.heap.size ≤ gk) (hk : Tab w3 gk w2.heap.size vk l) (t : Tch No w2 w3) : Two w g l A c v gk w2.heap.size vk w3 := by
  have hs := h.tch.size
  have hlt := tab_lt h.tab
  have hge := tab_ge hk hg (Nat.le_refl _)
  refine ⟨h.nil, tab_tch h.tab t, hk, ?_, h.tch.and t, h.ge, by omega, hs, fun k f f' => by have := hlt k f; have := hge k f'; omega⟩
  refine Rd.tch (h.rd.mono ?_) t.no
  rintro k hk (f | f)
  · exact .inl f
  · have := hge k f; omega

/-- Behind the run on the first of them. -/
structure Two2 (w : World) (g : Nat) (l l2 : List Ins) (A A2 : Option Addr) (c : Nat) (v2 : Value) (gk bk : Nat) (vk : Value) (w4 : World) : Prop where
  nil : SNil A l.length c
  tab : Tab w4 g g v2 l2
  kab : Tab w4 gk bk vk l
  rd : Rd w4 (FF gk vk No) 6 A l.length (rows l)
  rd2 : Rd w4 (FF g v2 (Foot gk vk)) 6 A2 l2.length (rows l2)
  tch : Tch No w w4
  kge : w.heap.size ≤ gk
  bge : w.heap.size ≤ bk
  far : ∀ k, Foot g v2 k → ¬ Foot gk vk k
theorem two2_of {w w3 w4 : World} {g gk bk c : Nat} {l l2 : List Ins} {A A2 : Option Addr} {v vk v2 : Value} (h : Two w g l A c v gk bk vk w3) (ht : Tab w4 g g v2 l2) (hr : Rd w4 (FF g v2 (Foot gk vk)) 6 A2 l2.length (rows l2)) (t : Tch (Foot g v) w3 w4)
    (hv : ∀ k, v2.ownBlock = some k → v.ownBlock = some k ∨ w3.heap.size ≤ k) : Two2 w g l l2 A A2 c v2 gk bk vk w4 := by
  have hge := tab_ge h.tab h.ge h.ge
  have hlt := tab_lt h.kab
  refine ⟨h.nil, ht, tab_far h.kab t (fun f => h.far _ f (.inl rfl)) (fun k hk f => h.far _ f (.inr hk)), ?_, hr, tch_up h.tch t hge, h.kge, h.bge, ?_⟩
  · refine Rd.mono (S := FF g v (Foot gk vk)) ?_ ?_
    · refine ⟨h.rd.1, fun hp => ?_⟩
      obtain ⟨p, off, hA, hn, hl, hc⟩ := h.rd.2 hp
      exact ⟨p, off, hA, hn, Nat.lt_of_lt_of_le hl t.size, fun j u hu => t.cell (fun f => hn (.inl f)) (hc j u hu)⟩
    · rintro k _ (f | f)
      · exact .inr f
      · exact f.elim
  · rintro k (f | f) f'
    · exact h.far k (.inl f) f'
    · rcases hv k f with f2 | f2
      · exact h.far k (.inr f2) f'
      · have := hlt k f'; omega

/-- Behind the run on the second. -/
structure Two3 (w : World) (g : Nat) (l2 l3 : List Ins) (A2 A3 : Option Addr) (v2 : Value) (gk bk : Nat) (v3 : Value) (w5 : World) : Prop where
  tab : Tab w5 g g v2 l2
  kab : Tab w5 gk bk v3 l3
  rd2 : Rd w5 No 6 A2 l2.length (rows l2)
  rd3 : Rd w5 No 6 A3 l3.length (rows l3)
  tch : Tch No w w5
theorem two3_of {w w4 w5 : World} {g gk bk c : Nat} {l l2 l3 : List Ins} {A A2 A3 : Option Addr} {v2 vk v3 : Value} (h : Two2 w g l l2 A A2 c v2 gk bk vk w4) (hk : Tab w5 gk bk v3 l3) (hr : Rd w5 (FF gk v3 No) 6 A3 l3.length (rows l3)) (t : Tch (Foot gk vk) w4 w5) :
    Two3 w g l2 l3 A2 A3 v2 gk bk v3 w5 := by
  refine ⟨tab_far h.tab t (fun f => h.far _ (.inl rfl) f) (fun k hk f => h.far _ (.inr hk) f), hk, ?_, hr.mono (fun _ _ f => f.elim), tch_up h.tch t (tab_ge h.kab h.kge h.bge)⟩
  refine ⟨h.rd2.1, fun hp => ?_⟩
  obtain ⟨p, off, hA, hn, hl, hc⟩ := h.rd2.2 hp
  exact ⟨p, off, hA, fun f => f, Nat.lt_of_lt_of_le hl t.size, fun j u hu => t.cell (fun f => hn (.inr f)) (hc j u hu)⟩
end Go.Proofs.Ytmfhilddemgabaa
