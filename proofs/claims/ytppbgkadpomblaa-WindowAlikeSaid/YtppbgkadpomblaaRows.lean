/-
  No cell of these rows narrows 'for every input' (looked for: loops, veiled, ifaces, maps, wideKeys, modest, calm, conditions, laid).
  DERIVED. THE GIVEN ROWS OF THIS SEAT. 12 by the template 'for every input the law returns true; each argument reads behind the call as it read before'; 0 by the template 'total and deterministic' (their statements: YtppbgkadpomblaaTotals.lean).
  GIVEN WITH THE SEED: the statements are not yours to turn. If you find one false, say at which input.
  Laid BY PROGRAM, IN A SANDBOX (cutbox-rows.mjs): the forced cells as the released guide's own fill.sh prints them over the translation 4402640c59d27283… (all of the seat's roots in one cut). By AI agents, Wed Nov 11 2026. No macro, syntax, notation, axiom, sorry.
-/
import Derived.Test.YtppbgkadpomblaaChecked
import GoSem.Claim
import GoSem.ClaimJoined
import GoSem.ClaimMapViews
import Derived.JoinedTies
import Derived.KernelRfl
namespace Go.Proofs.Ytppbgkadpomblaa
/- THE CELL 'sum', in the pinned program and in every row, IS THE sha256 OF THE DUMP (.gsa) THAT YtppbgkadpomblaaProg.lean LOADS. Nothing in Lean hashes anything: it is a label: what it is worth is what the hold of that sum in a sandbox is worth. -/
noncomputable def Try.pinned : Pinned := { name := "ytppbgkadpomblaa", sum := "4402640c59d272839d10d544a42c31c0d1f59727dca6128a3806c47dd179e02e", checked := Try.checked }
namespace Rows
def none {H : Type} : Left H := { results := [], args := [] }

/-- 'beadlelaw15.DequeCounts': WHATEVER THE INPUT: true; the input reads as it did. -/
def dequeCountsSpec : ChangeSpec := { name := "dequeCounts", fn := fun _ => fun
  | [d1, d2] => { results := [.lit (.bool true)], args := [d1, d2] }
  | _ => none }
def dequeCountsRow : OpenClaim := { program := "ytppbgkadpomblaa", sum := "4402640c59d272839d10d544a42c31c0d1f59727dca6128a3806c47dd179e02e", func := "beadle/beadlelaw15.DequeCounts", spec := "dequeCounts", apart := false }
def DequeCountsSaid : Prop := dequeCountsRow.holds Try.pinned (OpenSpec.ofChange dequeCountsSpec)

/-- ITS FALSE NEIGHBOUR: 'it returns false'. Refute it at one input. -/
def dequeCountsWrong : ChangeSpec := { name := "dequeCounts", fn := fun _ => fun
  | [d1, d2] => { results := [.lit (.bool false)], args := [d1, d2] }
  | _ => none }
def DequeCountsWrongFalsely : Prop := dequeCountsRow.holds Try.pinned (OpenSpec.ofChange dequeCountsWrong)

/-- 'beadlelaw15.DequeRuns': WHATEVER THE INPUT: true; the input reads as it did. -/
def dequeRunsSpec : ChangeSpec := { name := "dequeRuns", fn := fun _ => fun
  | [d] => { results := [.lit (.bool true)], args := [d] }
  | _ => none }
def dequeRunsRow : OpenClaim := { program := "ytppbgkadpomblaa", sum := "4402640c59d272839d10d544a42c31c0d1f59727dca6128a3806c47dd179e02e", func := "beadle/beadlelaw15.DequeRuns", spec := "dequeRuns", apart := false }
def DequeRunsSaid : Prop := dequeRunsRow.holds Try.pinned (OpenSpec.ofChange dequeRunsSpec)

/-- ITS FALSE NEIGHBOUR: 'it returns false'. Refute it at one input. -/
def dequeRunsWrong : ChangeSpec := { name := "dequeRuns", fn := fun _ => fun
  | [d] => { results := [.lit (.bool false)], args := [d] }
  | _ => none }
def DequeRunsWrongFalsely : Prop := dequeRunsRow.holds Try.pinned (OpenSpec.ofChange dequeRunsWrong)

/-- 'beadlelaw15.DequeClones': WHATEVER THE INPUT: true; the input reads as it did. -/
def dequeClonesSpec : ChangeSpec := { name := "dequeClones", fn := fun _ => fun
  | [d1, d2, d3] => { results := [.lit (.bool true)], args := [d1, d2, d3] }
  | _ => none }
def dequeClonesRow : OpenClaim := { program := "ytppbgkadpomblaa", sum := "4402640c59d272839d10d544a42c31c0d1f59727dca6128a3806c47dd179e02e", func := "beadle/beadlelaw15.DequeClones", spec := "dequeClones", apart := false }
def DequeClonesSaid : Prop := dequeClonesRow.holds Try.pinned (OpenSpec.ofChange dequeClonesSpec)

/-- ITS FALSE NEIGHBOUR: 'it returns false'. Refute it at one input. -/
def dequeClonesWrong : ChangeSpec := { name := "dequeClones", fn := fun _ => fun
  | [d1, d2, d3] => { results := [.lit (.bool false)], args := [d1, d2, d3] }
  | _ => none }
def DequeClonesWrongFalsely : Prop := dequeClonesRow.holds Try.pinned (OpenSpec.ofChange dequeClonesWrong)

/-- 'beadlelaw15.DequeNobody': WHATEVER THE INPUT: true; the input reads as it did. -/
def dequeNobodySpec : ChangeSpec := { name := "dequeNobody", fn := fun _ => fun
  | [d] => { results := [.lit (.bool true)], args := [d] }
  | _ => none }
def dequeNobodyRow : OpenClaim := { program := "ytppbgkadpomblaa", sum := "4402640c59d272839d10d544a42c31c0d1f59727dca6128a3806c47dd179e02e", func := "beadle/beadlelaw15.DequeNobody", spec := "dequeNobody", apart := false }
def DequeNobodySaid : Prop := dequeNobodyRow.holds Try.pinned (OpenSpec.ofChange dequeNobodySpec)

/-- ITS FALSE NEIGHBOUR: 'it returns false'. Refute it at one input. -/
def dequeNobodyWrong : ChangeSpec := { name := "dequeNobody", fn := fun _ => fun
  | [d] => { results := [.lit (.bool false)], args := [d] }
  | _ => none }
def DequeNobodyWrongFalsely : Prop := dequeNobodyRow.holds Try.pinned (OpenSpec.ofChange dequeNobodyWrong)

/-- 'beadlelaw17.TallyTells': WHATEVER THE INPUT: true; the input reads as it did. -/
def tallyTellsSpec : ChangeSpec := { name := "tallyTells", fn := fun _ => fun
  | [d1, d2] => { results := [.lit (.bool true)], args := [d1, d2] }
  | _ => none }
def tallyTellsRow : OpenClaim := { program := "ytppbgkadpomblaa", sum := "4402640c59d272839d10d544a42c31c0d1f59727dca6128a3806c47dd179e02e", func := "beadle/beadlelaw17.TallyTells", spec := "tallyTells", apart := false }
def TallyTellsSaid : Prop := tallyTellsRow.holds Try.pinned (OpenSpec.ofChange tallyTellsSpec)

/-- ITS FALSE NEIGHBOUR: 'it returns false'. Refute it at one input. -/
def tallyTellsWrong : ChangeSpec := { name := "tallyTells", fn := fun _ => fun
  | [d1, d2] => { results := [.lit (.bool false)], args := [d1, d2] }
  | _ => none }
def TallyTellsWrongFalsely : Prop := tallyTellsRow.holds Try.pinned (OpenSpec.ofChange tallyTellsWrong)

/-- 'beadlelaw17.TallyMost': WHATEVER THE INPUT: true; the input reads as it did. -/
def tallyMostSpec : ChangeSpec := { name := "tallyMost", fn := fun _ => fun
  | [d1, d2] => { results := [.lit (.bool true)], args := [d1, d2] }
  | _ => none }
def tallyMostRow : OpenClaim := { program := "ytppbgkadpomblaa", sum := "4402640c59d272839d10d544a42c31c0d1f59727dca6128a3806c47dd179e02e", func := "beadle/beadlelaw17.TallyMost", spec := "tallyMost", apart := false }
def TallyMostSaid : Prop := tallyMostRow.holds Try.pinned (OpenSpec.ofChange tallyMostSpec)

/-- ITS FALSE NEIGHBOUR: 'it returns false'. Refute it at one input. -/
def tallyMostWrong : ChangeSpec := { name := "tallyMost", fn := fun _ => fun
  | [d1, d2] => { results := [.lit (.bool false)], args := [d1, d2] }
  | _ => none }
def TallyMostWrongFalsely : Prop := tallyMostRow.holds Try.pinned (OpenSpec.ofChange tallyMostWrong)

/-- 'beadlelaw17.TallyClones': WHATEVER THE INPUT: true; the input reads as it did. -/
def tallyClonesSpec : ChangeSpec := { name := "tallyClones", fn := fun _ => fun
  | [d1, d2, d3, d4] => { results := [.lit (.bool true)], args := [d1, d2, d3, d4] }
  | _ => none }
def tallyClonesRow : OpenClaim := { program := "ytppbgkadpomblaa", sum := "4402640c59d272839d10d544a42c31c0d1f59727dca6128a3806c47dd179e02e", func := "beadle/beadlelaw17.TallyClones", spec := "tallyClones", apart := false }
def TallyClonesSaid : Prop := tallyClonesRow.holds Try.pinned (OpenSpec.ofChange tallyClonesSpec)

/-- ITS FALSE NEIGHBOUR: 'it returns false'. Refute it at one input. -/
def tallyClonesWrong : ChangeSpec := { name := "tallyClones", fn := fun _ => fun
  | [d1, d2, d3, d4] => { results := [.lit (.bool false)], args := [d1, d2, d3, d4] }
  | _ => none }
def TallyClonesWrongFalsely : Prop := tallyClonesRow.holds Try.pinned (OpenSpec.ofChange tallyClonesWrong)

/-- 'beadlelaw16.WindowOnce': WHATEVER THE INPUT: true; the input reads as it did. -/
def windowOnceSpec : ChangeSpec := { name := "windowOnce", fn := fun _ => fun
  | [d1, d2, d3] => { results := [.lit (.bool true)], args := [d1, d2, d3] }
  | _ => none }
def windowOnceRow : OpenClaim := { program := "ytppbgkadpomblaa", sum := "4402640c59d272839d10d544a42c31c0d1f59727dca6128a3806c47dd179e02e", func := "beadle/beadlelaw16.WindowOnce", spec := "windowOnce", apart := false }
def WindowOnceSaid : Prop := windowOnceRow.holds Try.pinned (OpenSpec.ofChange windowOnceSpec)

/-- ITS FALSE NEIGHBOUR: 'it returns false'. Refute it at one input. -/
def windowOnceWrong : ChangeSpec := { name := "windowOnce", fn := fun _ => fun
  | [d1, d2, d3] => { results := [.lit (.bool false)], args := [d1, d2, d3] }
  | _ => none }
def WindowOnceWrongFalsely : Prop := windowOnceRow.holds Try.pinned (OpenSpec.ofChange windowOnceWrong)

/-- 'beadlelaw16.WindowSince': WHATEVER THE INPUT: true; the input reads as it did. -/
def windowSinceSpec : ChangeSpec := { name := "windowSince", fn := fun _ => fun
  | [d1, d2, d3] => { results := [.lit (.bool true)], args := [d1, d2, d3] }
  | _ => none }
def windowSinceRow : OpenClaim := { program := "ytppbgkadpomblaa", sum := "4402640c59d272839d10d544a42c31c0d1f59727dca6128a3806c47dd179e02e", func := "beadle/beadlelaw16.WindowSince", spec := "windowSince", apart := false }
def WindowSinceSaid : Prop := windowSinceRow.holds Try.pinned (OpenSpec.ofChange windowSinceSpec)

/-- ITS FALSE NEIGHBOUR: 'it returns false'. Refute it at one input. -/
def windowSinceWrong : ChangeSpec := { name := "windowSince", fn := fun _ => fun
  | [d1, d2, d3] => { results := [.lit (.bool false)], args := [d1, d2, d3] }
  | _ => none }
def WindowSinceWrongFalsely : Prop := windowSinceRow.holds Try.pinned (OpenSpec.ofChange windowSinceWrong)

/-- 'beadlelaw16.WindowAlike': WHATEVER THE INPUT: true; the input reads as it did. -/
def windowAlikeSpec : ChangeSpec := { name := "windowAlike", fn := fun _ => fun
  | [d1, d2, d3, d4] => { results := [.lit (.bool true)], args := [d1, d2, d3, d4] }
  | _ => none }
def windowAlikeRow : OpenClaim := { program := "ytppbgkadpomblaa", sum := "4402640c59d272839d10d544a42c31c0d1f59727dca6128a3806c47dd179e02e", func := "beadle/beadlelaw16.WindowAlike", spec := "windowAlike", apart := false }
def WindowAlikeSaid : Prop := windowAlikeRow.holds Try.pinned (OpenSpec.ofChange windowAlikeSpec)

/-- ITS FALSE NEIGHBOUR: 'it returns false'. Refute it at one input. -/
def windowAlikeWrong : ChangeSpec := { name := "windowAlike", fn := fun _ => fun
  | [d1, d2, d3, d4] => { results := [.lit (.bool false)], args := [d1, d2, d3, d4] }
  | _ => none }
def WindowAlikeWrongFalsely : Prop := windowAlikeRow.holds Try.pinned (OpenSpec.ofChange windowAlikeWrong)

/-- 'beadlelaw16.WindowClones': WHATEVER THE INPUT: true; the input reads as it did. -/
def windowClonesSpec : ChangeSpec := { name := "windowClones", fn := fun _ => fun
  | [d1, d2, d3, d4] => { results := [.lit (.bool true)], args := [d1, d2, d3, d4] }
  | _ => none }
def windowClonesRow : OpenClaim := { program := "ytppbgkadpomblaa", sum := "4402640c59d272839d10d544a42c31c0d1f59727dca6128a3806c47dd179e02e", func := "beadle/beadlelaw16.WindowClones", spec := "windowClones", apart := false }
def WindowClonesSaid : Prop := windowClonesRow.holds Try.pinned (OpenSpec.ofChange windowClonesSpec)

/-- ITS FALSE NEIGHBOUR: 'it returns false'. Refute it at one input. -/
def windowClonesWrong : ChangeSpec := { name := "windowClones", fn := fun _ => fun
  | [d1, d2, d3, d4] => { results := [.lit (.bool false)], args := [d1, d2, d3, d4] }
  | _ => none }
def WindowClonesWrongFalsely : Prop := windowClonesRow.holds Try.pinned (OpenSpec.ofChange windowClonesWrong)

/-- 'beadlelaw16.WindowNobody': WHATEVER THE INPUT: true; the input reads as it did. -/
def windowNobodySpec : ChangeSpec := { name := "windowNobody", fn := fun _ => fun
  | [d1, d2] => { results := [.lit (.bool true)], args := [d1, d2] }
  | _ => none }
def windowNobodyRow : OpenClaim := { program := "ytppbgkadpomblaa", sum := "4402640c59d272839d10d544a42c31c0d1f59727dca6128a3806c47dd179e02e", func := "beadle/beadlelaw16.WindowNobody", spec := "windowNobody", apart := false }
def WindowNobodySaid : Prop := windowNobodyRow.holds Try.pinned (OpenSpec.ofChange windowNobodySpec)

/-- ITS FALSE NEIGHBOUR: 'it returns false'. Refute it at one input. -/
def windowNobodyWrong : ChangeSpec := { name := "windowNobody", fn := fun _ => fun
  | [d1, d2] => { results := [.lit (.bool false)], args := [d1, d2] }
  | _ => none }
def WindowNobodyWrongFalsely : Prop := windowNobodyRow.holds Try.pinned (OpenSpec.ofChange windowNobodyWrong)

/- THE SECOND FORM. 'bulk': how many values and letters a reading holds, each counted each time it is reached (what is shared counts as often as it is met; a slice's spare places count too). A statement '..UptoSaid' is the law's where the arguments, and the package variables that the reading takes, are together of bulk at most 1048576: NARROWER than '..Said'. Prove '..Said' where nothing that the law and all that it calls make is longer than what came in: it says more and counts as full. Else prove '..UptoSaid'. A law counts once. -/
mutual
def uptoBulk {H : Type} : DataW H → Nat
  | .lit (.string bytes) => bytes.length + 1
  | .lit _ => 1
  | .nil => 1
  | .ptr d => uptoBulk d + 1
  | .slice elems spare => uptoBulkAll elems + uptoBulkAll spare + 1
  | .agg parts => uptoBulkAll parts + 1
  | .iface _ d => uptoBulk d + 1
  | .map entries => uptoBulkEntries entries + 1
  | .held _ => 1
def uptoBulkAll {H : Type} : List (DataW H) → Nat
  | [] => 0
  | d :: r => uptoBulk d + uptoBulkAll r
def uptoBulkEntries {H : Type} : List (Lit × DataW H) → Nat
  | [] => 0
  | x :: r => uptoBulkEntry x + uptoBulkEntries r
def uptoBulkEntry {H : Type} : Lit × DataW H → Nat
  | (.string bytes, d) => bytes.length + uptoBulk d + 1
  | (_, d) => uptoBulk d + 1
 end
def uptoSmall : (H : Type) → List (DataW H) → Bool := fun _ ds => decide (uptoBulkAll ds ≤ 1048576)
def OpenSpec.upto (s : _root_.Go.ChangeSpec) : _root_.Go.OpenSpec := { _root_.Go.OpenSpec.ofChange s with cond := some uptoSmall }

/-- 'beadlelaw15.DequeCounts', WHERE WHAT IT READS IS OF BULK AT MOST 1048576: true; the input reads as it did. -/
def dequeCountsUptoRow : OpenClaim := { program := "ytppbgkadpomblaa", sum := "4402640c59d272839d10d544a42c31c0d1f59727dca6128a3806c47dd179e02e", func := "beadle/beadlelaw15.DequeCounts", spec := "dequeCounts", apart := false, narrowed := true }
def DequeCountsUptoSaid : Prop := dequeCountsUptoRow.holds Try.pinned (OpenSpec.upto dequeCountsSpec)

/-- 'beadlelaw15.DequeRuns', WHERE WHAT IT READS IS OF BULK AT MOST 1048576: true; the input reads as it did. -/
def dequeRunsUptoRow : OpenClaim := { program := "ytppbgkadpomblaa", sum := "4402640c59d272839d10d544a42c31c0d1f59727dca6128a3806c47dd179e02e", func := "beadle/beadlelaw15.DequeRuns", spec := "dequeRuns", apart := false, narrowed := true }
def DequeRunsUptoSaid : Prop := dequeRunsUptoRow.holds Try.pinned (OpenSpec.upto dequeRunsSpec)

/-- 'beadlelaw15.DequeClones', WHERE WHAT IT READS IS OF BULK AT MOST 1048576: true; the input reads as it did. -/
def dequeClonesUptoRow : OpenClaim := { program := "ytppbgkadpomblaa", sum := "4402640c59d272839d10d544a42c31c0d1f59727dca6128a3806c47dd179e02e", func := "beadle/beadlelaw15.DequeClones", spec := "dequeClones", apart := false, narrowed := true }
def DequeClonesUptoSaid : Prop := dequeClonesUptoRow.holds Try.pinned (OpenSpec.upto dequeClonesSpec)

/-- 'beadlelaw15.DequeNobody', WHERE WHAT IT READS IS OF BULK AT MOST 1048576: true; the input reads as it did. -/
def dequeNobodyUptoRow : OpenClaim := { program := "ytppbgkadpomblaa", sum := "4402640c59d272839d10d544a42c31c0d1f59727dca6128a3806c47dd179e02e", func := "beadle/beadlelaw15.DequeNobody", spec := "dequeNobody", apart := false, narrowed := true }
def DequeNobodyUptoSaid : Prop := dequeNobodyUptoRow.holds Try.pinned (OpenSpec.upto dequeNobodySpec)

/-- 'beadlelaw17.TallyTells', WHERE WHAT IT READS IS OF BULK AT MOST 1048576: true; the input reads as it did. -/
def tallyTellsUptoRow : OpenClaim := { program := "ytppbgkadpomblaa", sum := "4402640c59d272839d10d544a42c31c0d1f59727dca6128a3806c47dd179e02e", func := "beadle/beadlelaw17.TallyTells", spec := "tallyTells", apart := false, narrowed := true }
def TallyTellsUptoSaid : Prop := tallyTellsUptoRow.holds Try.pinned (OpenSpec.upto tallyTellsSpec)

/-- 'beadlelaw17.TallyMost', WHERE WHAT IT READS IS OF BULK AT MOST 1048576: true; the input reads as it did. -/
def tallyMostUptoRow : OpenClaim := { program := "ytppbgkadpomblaa", sum := "4402640c59d272839d10d544a42c31c0d1f59727dca6128a3806c47dd179e02e", func := "beadle/beadlelaw17.TallyMost", spec := "tallyMost", apart := false, narrowed := true }
def TallyMostUptoSaid : Prop := tallyMostUptoRow.holds Try.pinned (OpenSpec.upto tallyMostSpec)

/-- 'beadlelaw17.TallyClones', WHERE WHAT IT READS IS OF BULK AT MOST 1048576: true; the input reads as it did. -/
def tallyClonesUptoRow : OpenClaim := { program := "ytppbgkadpomblaa", sum := "4402640c59d272839d10d544a42c31c0d1f59727dca6128a3806c47dd179e02e", func := "beadle/beadlelaw17.TallyClones", spec := "tallyClones", apart := false, narrowed := true }
def TallyClonesUptoSaid : Prop := tallyClonesUptoRow.holds Try.pinned (OpenSpec.upto tallyClonesSpec)

/-- 'beadlelaw16.WindowOnce', WHERE WHAT IT READS IS OF BULK AT MOST 1048576: true; the input reads as it did. -/
def windowOnceUptoRow : OpenClaim := { program := "ytppbgkadpomblaa", sum := "4402640c59d272839d10d544a42c31c0d1f59727dca6128a3806c47dd179e02e", func := "beadle/beadlelaw16.WindowOnce", spec := "windowOnce", apart := false, narrowed := true }
def WindowOnceUptoSaid : Prop := windowOnceUptoRow.holds Try.pinned (OpenSpec.upto windowOnceSpec)

/-- 'beadlelaw16.WindowSince', WHERE WHAT IT READS IS OF BULK AT MOST 1048576: true; the input reads as it did. -/
def windowSinceUptoRow : OpenClaim := { program := "ytppbgkadpomblaa", sum := "4402640c59d272839d10d544a42c31c0d1f59727dca6128a3806c47dd179e02e", func := "beadle/beadlelaw16.WindowSince", spec := "windowSince", apart := false, narrowed := true }
def WindowSinceUptoSaid : Prop := windowSinceUptoRow.holds Try.pinned (OpenSpec.upto windowSinceSpec)

/-- 'beadlelaw16.WindowAlike', WHERE WHAT IT READS IS OF BULK AT MOST 1048576: true; the input reads as it did. -/
def windowAlikeUptoRow : OpenClaim := { program := "ytppbgkadpomblaa", sum := "4402640c59d272839d10d544a42c31c0d1f59727dca6128a3806c47dd179e02e", func := "beadle/beadlelaw16.WindowAlike", spec := "windowAlike", apart := false, narrowed := true }
def WindowAlikeUptoSaid : Prop := windowAlikeUptoRow.holds Try.pinned (OpenSpec.upto windowAlikeSpec)

/-- 'beadlelaw16.WindowClones', WHERE WHAT IT READS IS OF BULK AT MOST 1048576: true; the input reads as it did. -/
def windowClonesUptoRow : OpenClaim := { program := "ytppbgkadpomblaa", sum := "4402640c59d272839d10d544a42c31c0d1f59727dca6128a3806c47dd179e02e", func := "beadle/beadlelaw16.WindowClones", spec := "windowClones", apart := false, narrowed := true }
def WindowClonesUptoSaid : Prop := windowClonesUptoRow.holds Try.pinned (OpenSpec.upto windowClonesSpec)

/-- 'beadlelaw16.WindowNobody', WHERE WHAT IT READS IS OF BULK AT MOST 1048576: true; the input reads as it did. -/
def windowNobodyUptoRow : OpenClaim := { program := "ytppbgkadpomblaa", sum := "4402640c59d272839d10d544a42c31c0d1f59727dca6128a3806c47dd179e02e", func := "beadle/beadlelaw16.WindowNobody", spec := "windowNobody", apart := false, narrowed := true }
def WindowNobodyUptoSaid : Prop := windowNobodyUptoRow.holds Try.pinned (OpenSpec.upto windowNobodySpec)

end Rows
end Go.Proofs.Ytppbgkadpomblaa
