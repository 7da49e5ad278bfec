/-
  NARROWER THAN 'FOR EVERY INPUT', by the rows' own cells (each row's printed sentence says how): OutlineRights: loops.
  DERIVED. THE GIVEN ROWS OF THIS SEAT. 8 by the template 'for every input the law returns true; each argument reads behind the call as it read before'; 0 by the template 'total and deterministic' (their statements: YtmoiehbhhplckaaTotals.lean).
  GIVEN WITH THE SEED: the statements are not yours to turn. If you find one false, say at which input.
  Laid BY PROGRAM, IN A SANDBOX (cutbox-rows.mjs): the forced cells as the released guide's own fill.sh prints them over the translation bb196a82e24ca278… (all of the seat's roots in one cut). By AI agents, Wed Nov 11 2026. No macro, syntax, notation, axiom, sorry.
-/
import Derived.Test.YtmoiehbhhplckaaChecked
import GoSem.Claim
import GoSem.ClaimJoined
import GoSem.ClaimMapViews
import Derived.JoinedTies
import Derived.KernelRfl
namespace Go.Proofs.Ytmoiehbhhplckaa
/- THE CELL 'sum', in the pinned program and in every row, IS THE sha256 OF THE DUMP (.gsa) THAT YtmoiehbhhplckaaProg.lean LOADS. Nothing in Lean hashes anything: it is a label: what it is worth is what the hold of that sum in a sandbox is worth. -/
noncomputable def Try.pinned : Pinned := { name := "ytmoiehbhhplckaa", sum := "bb196a82e24ca278084dc4800b22aba4a95355cca84d1cfb255dcd901bad0441", checked := Try.checked }
namespace Rows
def none {H : Type} : Left H := { results := [], args := [] }

/-- 'beadlelaw01.NumTells': WHATEVER THE INPUT: true; the input reads as it did. -/
def numTellsSpec : ChangeSpec := { name := "numTells", fn := fun _ => fun
  | [d1, d2] => { results := [.lit (.bool true)], args := [d1, d2] }
  | _ => none }
def numTellsRow : OpenClaim := { program := "ytmoiehbhhplckaa", sum := "bb196a82e24ca278084dc4800b22aba4a95355cca84d1cfb255dcd901bad0441", func := "beadle/beadlelaw01.NumTells", spec := "numTells", apart := false }
def NumTellsSaid : Prop := numTellsRow.holds Try.pinned (OpenSpec.ofChange numTellsSpec)

/-- ITS FALSE NEIGHBOUR: 'it returns false'. Refute it at one input. -/
def numTellsWrong : ChangeSpec := { name := "numTells", fn := fun _ => fun
  | [d1, d2] => { results := [.lit (.bool false)], args := [d1, d2] }
  | _ => none }
def NumTellsWrongFalsely : Prop := numTellsRow.holds Try.pinned (OpenSpec.ofChange numTellsWrong)

/-- 'beadlelaw01.NumUndoes': WHATEVER THE INPUT: true; the input reads as it did. -/
def numUndoesSpec : ChangeSpec := { name := "numUndoes", fn := fun _ => fun
  | [d1, d2, d3] => { results := [.lit (.bool true)], args := [d1, d2, d3] }
  | _ => none }
def numUndoesRow : OpenClaim := { program := "ytmoiehbhhplckaa", sum := "bb196a82e24ca278084dc4800b22aba4a95355cca84d1cfb255dcd901bad0441", func := "beadle/beadlelaw01.NumUndoes", spec := "numUndoes", apart := false }
def NumUndoesSaid : Prop := numUndoesRow.holds Try.pinned (OpenSpec.ofChange numUndoesSpec)

/-- ITS FALSE NEIGHBOUR: 'it returns false'. Refute it at one input. -/
def numUndoesWrong : ChangeSpec := { name := "numUndoes", fn := fun _ => fun
  | [d1, d2, d3] => { results := [.lit (.bool false)], args := [d1, d2, d3] }
  | _ => none }
def NumUndoesWrongFalsely : Prop := numUndoesRow.holds Try.pinned (OpenSpec.ofChange numUndoesWrong)

/-- 'beadlelaw01.NumReads': WHATEVER THE INPUT: true; the input reads as it did. -/
def numReadsSpec : ChangeSpec := { name := "numReads", fn := fun _ => fun
  | [d1, d2] => { results := [.lit (.bool true)], args := [d1, d2] }
  | _ => none }
def numReadsRow : OpenClaim := { program := "ytmoiehbhhplckaa", sum := "bb196a82e24ca278084dc4800b22aba4a95355cca84d1cfb255dcd901bad0441", func := "beadle/beadlelaw01.NumReads", spec := "numReads", apart := false }
def NumReadsSaid : Prop := numReadsRow.holds Try.pinned (OpenSpec.ofChange numReadsSpec)

/-- ITS FALSE NEIGHBOUR: 'it returns false'. Refute it at one input. -/
def numReadsWrong : ChangeSpec := { name := "numReads", fn := fun _ => fun
  | [d1, d2] => { results := [.lit (.bool false)], args := [d1, d2] }
  | _ => none }
def NumReadsWrongFalsely : Prop := numReadsRow.holds Try.pinned (OpenSpec.ofChange numReadsWrong)

/-- 'beadlelaw01.NumBack': WHATEVER THE INPUT: true; the input reads as it did. -/
def numBackSpec : ChangeSpec := { name := "numBack", fn := fun _ => fun
  | [d1, d2] => { results := [.lit (.bool true)], args := [d1, d2] }
  | _ => none }
def numBackRow : OpenClaim := { program := "ytmoiehbhhplckaa", sum := "bb196a82e24ca278084dc4800b22aba4a95355cca84d1cfb255dcd901bad0441", func := "beadle/beadlelaw01.NumBack", spec := "numBack", apart := false }
def NumBackSaid : Prop := numBackRow.holds Try.pinned (OpenSpec.ofChange numBackSpec)

/-- ITS FALSE NEIGHBOUR: 'it returns false'. Refute it at one input. -/
def numBackWrong : ChangeSpec := { name := "numBack", fn := fun _ => fun
  | [d1, d2] => { results := [.lit (.bool false)], args := [d1, d2] }
  | _ => none }
def NumBackWrongFalsely : Prop := numBackRow.holds Try.pinned (OpenSpec.ofChange numBackWrong)

/-- 'beadlelaw06.LexNames': WHATEVER THE INPUT: true; the input reads as it did. -/
def lexNamesSpec : ChangeSpec := { name := "lexNames", fn := fun _ => fun
  | [d] => { results := [.lit (.bool true)], args := [d] }
  | _ => none }
def lexNamesRow : OpenClaim := { program := "ytmoiehbhhplckaa", sum := "bb196a82e24ca278084dc4800b22aba4a95355cca84d1cfb255dcd901bad0441", func := "beadle/beadlelaw06.LexNames", spec := "lexNames", inPlace := ["internal/bytealg.IndexByteString"], apart := false }
def LexNamesSaid : Prop := lexNamesRow.holds Try.pinned (OpenSpec.ofChange lexNamesSpec)

/-- ITS FALSE NEIGHBOUR: 'it returns false'. Refute it at one input. -/
def lexNamesWrong : ChangeSpec := { name := "lexNames", fn := fun _ => fun
  | [d] => { results := [.lit (.bool false)], args := [d] }
  | _ => none }
def LexNamesWrongFalsely : Prop := lexNamesRow.holds Try.pinned (OpenSpec.ofChange lexNamesWrong)

/-- 'beadlelaw06.LexJoins': WHATEVER THE INPUT: true; the input reads as it did. -/
def lexJoinsSpec : ChangeSpec := { name := "lexJoins", fn := fun _ => fun
  | [d1, d2] => { results := [.lit (.bool true)], args := [d1, d2] }
  | _ => none }
def lexJoinsRow : OpenClaim := { program := "ytmoiehbhhplckaa", sum := "bb196a82e24ca278084dc4800b22aba4a95355cca84d1cfb255dcd901bad0441", func := "beadle/beadlelaw06.LexJoins", spec := "lexJoins", inPlace := ["internal/bytealg.IndexByteString"], apart := false }
def LexJoinsSaid : Prop := lexJoinsRow.holds Try.pinned (OpenSpec.ofChange lexJoinsSpec)

/-- ITS FALSE NEIGHBOUR: 'it returns false'. Refute it at one input. -/
def lexJoinsWrong : ChangeSpec := { name := "lexJoins", fn := fun _ => fun
  | [d1, d2] => { results := [.lit (.bool false)], args := [d1, d2] }
  | _ => none }
def LexJoinsWrongFalsely : Prop := lexJoinsRow.holds Try.pinned (OpenSpec.ofChange lexJoinsWrong)

/-- 'beadlelaw37.OutlineVerdicts': WHATEVER THE INPUT: true; the input reads as it did. -/
def outlineVerdictsSpec : ChangeSpec := { name := "outlineVerdicts", fn := fun _ => fun
  | [d1, d2] => { results := [.lit (.bool true)], args := [d1, d2] }
  | _ => none }
def outlineVerdictsRow : OpenClaim := { program := "ytmoiehbhhplckaa", sum := "bb196a82e24ca278084dc4800b22aba4a95355cca84d1cfb255dcd901bad0441", func := "beadle/beadlelaw37.OutlineVerdicts", spec := "outlineVerdicts", inPlace := ["internal/abi.NoEscape", "internal/bytealg.MakeNoZero"], unfollowed := true, recurses := true, apart := false }
def OutlineVerdictsSaid : Prop := outlineVerdictsRow.holds Try.pinned (OpenSpec.ofChange outlineVerdictsSpec)

/-- ITS FALSE NEIGHBOUR: 'it returns false'. Refute it at one input. -/
def outlineVerdictsWrong : ChangeSpec := { name := "outlineVerdicts", fn := fun _ => fun
  | [d1, d2] => { results := [.lit (.bool false)], args := [d1, d2] }
  | _ => none }
def OutlineVerdictsWrongFalsely : Prop := outlineVerdictsRow.holds Try.pinned (OpenSpec.ofChange outlineVerdictsWrong)

/-- 'beadlelaw37.OutlineRights': WHATEVER THE INPUT: true; the input reads as it did. -/
def outlineRightsSpec : ChangeSpec := { name := "outlineRights", fn := fun _ => fun
  | [d] => { results := [.lit (.bool true)], args := [d] }
  | _ => none }
def outlineRightsRow : OpenClaim := { program := "ytmoiehbhhplckaa", sum := "bb196a82e24ca278084dc4800b22aba4a95355cca84d1cfb255dcd901bad0441", func := "beadle/beadlelaw37.OutlineRights", spec := "outlineRights", inPlace := ["internal/abi.NoEscape", "internal/bytealg.MakeNoZero"], unfollowed := true, recurses := true, loops := true, apart := false }
def OutlineRightsSaid : Prop := outlineRightsRow.holds Try.pinned (OpenSpec.ofChange outlineRightsSpec)

/-- ITS FALSE NEIGHBOUR: 'it returns false'. Refute it at one input. -/
def outlineRightsWrong : ChangeSpec := { name := "outlineRights", fn := fun _ => fun
  | [d] => { results := [.lit (.bool false)], args := [d] }
  | _ => none }
def OutlineRightsWrongFalsely : Prop := outlineRightsRow.holds Try.pinned (OpenSpec.ofChange outlineRightsWrong)

/- THE SECOND FORM. 'bulk': how many values and letters a reading holds, each counted each time it is reached (what is shared counts as often as it is met; a slice's spare places count too). A statement '..UptoSaid' is the law's where the arguments, and the package variables that the reading takes, are together of bulk at most 1048576: NARROWER than '..Said'. Prove '..Said' where nothing that the law and all that it calls make is longer than what came in: it says more and counts as full. Else prove '..UptoSaid'. A law counts once. -/
mutual
def uptoBulk {H : Type} : DataW H → Nat
  | .lit (.string bytes) => bytes.length + 1
  | .lit _ => 1
  | .nil => 1
  | .ptr d => uptoBulk d + 1
  | .slice elems spare => uptoBulkAll elems + uptoBulkAll spare + 1
  | .agg parts => uptoBulkAll parts + 1
  | .iface _ d => uptoBulk d + 1
  | .map entries => uptoBulkEntries entries + 1
  | .held _ => 1
def uptoBulkAll {H : Type} : List (DataW H) → Nat
  | [] => 0
  | d :: r => uptoBulk d + uptoBulkAll r
def uptoBulkEntries {H : Type} : List (Lit × DataW H) → Nat
  | [] => 0
  | x :: r => uptoBulkEntry x + uptoBulkEntries r
def uptoBulkEntry {H : Type} : Lit × DataW H → Nat
  | (.string bytes, d) => bytes.length + uptoBulk d + 1
  | (_, d) => uptoBulk d + 1
 end
def uptoSmall : (H : Type) → List (DataW H) → Bool := fun _ ds => decide (uptoBulkAll ds ≤ 1048576)
def OpenSpec.upto (s : _root_.Go.ChangeSpec) : _root_.Go.OpenSpec := { _root_.Go.OpenSpec.ofChange s with cond := some uptoSmall }

/-- 'beadlelaw01.NumTells', WHERE WHAT IT READS IS OF BULK AT MOST 1048576: true; the input reads as it did. -/
def numTellsUptoRow : OpenClaim := { program := "ytmoiehbhhplckaa", sum := "bb196a82e24ca278084dc4800b22aba4a95355cca84d1cfb255dcd901bad0441", func := "beadle/beadlelaw01.NumTells", spec := "numTells", apart := false, narrowed := true }
def NumTellsUptoSaid : Prop := numTellsUptoRow.holds Try.pinned (OpenSpec.upto numTellsSpec)

/-- 'beadlelaw01.NumUndoes', WHERE WHAT IT READS IS OF BULK AT MOST 1048576: true; the input reads as it did. -/
def numUndoesUptoRow : OpenClaim := { program := "ytmoiehbhhplckaa", sum := "bb196a82e24ca278084dc4800b22aba4a95355cca84d1cfb255dcd901bad0441", func := "beadle/beadlelaw01.NumUndoes", spec := "numUndoes", apart := false, narrowed := true }
def NumUndoesUptoSaid : Prop := numUndoesUptoRow.holds Try.pinned (OpenSpec.upto numUndoesSpec)

/-- 'beadlelaw01.NumReads', WHERE WHAT IT READS IS OF BULK AT MOST 1048576: true; the input reads as it did. -/
def numReadsUptoRow : OpenClaim := { program := "ytmoiehbhhplckaa", sum := "bb196a82e24ca278084dc4800b22aba4a95355cca84d1cfb255dcd901bad0441", func := "beadle/beadlelaw01.NumReads", spec := "numReads", apart := false, narrowed := true }
def NumReadsUptoSaid : Prop := numReadsUptoRow.holds Try.pinned (OpenSpec.upto numReadsSpec)

/-- 'beadlelaw01.NumBack', WHERE WHAT IT READS IS OF BULK AT MOST 1048576: true; the input reads as it did. -/
def numBackUptoRow : OpenClaim := { program := "ytmoiehbhhplckaa", sum := "bb196a82e24ca278084dc4800b22aba4a95355cca84d1cfb255dcd901bad0441", func := "beadle/beadlelaw01.NumBack", spec := "numBack", apart := false, narrowed := true }
def NumBackUptoSaid : Prop := numBackUptoRow.holds Try.pinned (OpenSpec.upto numBackSpec)

/-- 'beadlelaw06.LexNames', WHERE WHAT IT READS IS OF BULK AT MOST 1048576: true; the input reads as it did. -/
def lexNamesUptoRow : OpenClaim := { program := "ytmoiehbhhplckaa", sum := "bb196a82e24ca278084dc4800b22aba4a95355cca84d1cfb255dcd901bad0441", func := "beadle/beadlelaw06.LexNames", spec := "lexNames", inPlace := ["internal/bytealg.IndexByteString"], apart := false, narrowed := true }
def LexNamesUptoSaid : Prop := lexNamesUptoRow.holds Try.pinned (OpenSpec.upto lexNamesSpec)

/-- 'beadlelaw06.LexJoins', WHERE WHAT IT READS IS OF BULK AT MOST 1048576: true; the input reads as it did. -/
def lexJoinsUptoRow : OpenClaim := { program := "ytmoiehbhhplckaa", sum := "bb196a82e24ca278084dc4800b22aba4a95355cca84d1cfb255dcd901bad0441", func := "beadle/beadlelaw06.LexJoins", spec := "lexJoins", inPlace := ["internal/bytealg.IndexByteString"], apart := false, narrowed := true }
def LexJoinsUptoSaid : Prop := lexJoinsUptoRow.holds Try.pinned (OpenSpec.upto lexJoinsSpec)

/-- 'beadlelaw37.OutlineVerdicts', WHERE WHAT IT READS IS OF BULK AT MOST 1048576: true; the input reads as it did. -/
def outlineVerdictsUptoRow : OpenClaim := { program := "ytmoiehbhhplckaa", sum := "bb196a82e24ca278084dc4800b22aba4a95355cca84d1cfb255dcd901bad0441", func := "beadle/beadlelaw37.OutlineVerdicts", spec := "outlineVerdicts", inPlace := ["internal/abi.NoEscape", "internal/bytealg.MakeNoZero"], unfollowed := true, recurses := true, apart := false, narrowed := true }
def OutlineVerdictsUptoSaid : Prop := outlineVerdictsUptoRow.holds Try.pinned (OpenSpec.upto outlineVerdictsSpec)

/-- 'beadlelaw37.OutlineRights', WHERE WHAT IT READS IS OF BULK AT MOST 1048576: true; the input reads as it did. -/
def outlineRightsUptoRow : OpenClaim := { program := "ytmoiehbhhplckaa", sum := "bb196a82e24ca278084dc4800b22aba4a95355cca84d1cfb255dcd901bad0441", func := "beadle/beadlelaw37.OutlineRights", spec := "outlineRights", inPlace := ["internal/abi.NoEscape", "internal/bytealg.MakeNoZero"], unfollowed := true, recurses := true, loops := true, apart := false, narrowed := true }
def OutlineRightsUptoSaid : Prop := outlineRightsUptoRow.holds Try.pinned (OpenSpec.upto outlineRightsSpec)

end Rows
end Go.Proofs.Ytmoiehbhhplckaa
