/-
  No cell of these rows narrows 'for every input' (looked for: loops, veiled, ifaces, maps, wideKeys, modest, calm, conditions, laid).
  DERIVED. THE GIVEN ROWS OF THIS SEAT. 9 by the template 'for every input the law returns true; each argument reads behind the call as it read before'; 0 by the template 'total and deterministic' (their statements: YtmfhilddemgabaaTotals.lean).
  GIVEN WITH THE SEED: the statements are not yours to turn. If you find one false, say at which input.
  Laid BY PROGRAM, IN A SANDBOX (cutbox-rows.mjs): the forced cells as the released guide's own fill.sh prints them over the translation 406ff3a5d1b54b32… (all of the seat's roots in one cut). By AI agents, Wed Nov 11 2026. No macro, syntax, notation, axiom, sorry.
-/
import Derived.Test.YtmfhilddemgabaaChecked
import GoSem.Claim
import GoSem.ClaimJoined
import GoSem.ClaimMapViews
import Derived.JoinedTies
import Derived.KernelRfl
namespace Go.Proofs.Ytmfhilddemgabaa
/- THE CELL 'sum', in the pinned program and in every row, IS THE sha256 OF THE DUMP (.gsa) THAT YtmfhilddemgabaaProg.lean LOADS. Nothing in Lean hashes anything: it is a label: what it is worth is what the hold of that sum in a sandbox is worth. -/
noncomputable def Try.pinned : Pinned := { name := "ytmfhilddemgabaa", sum := "406ff3a5d1b54b32d534f4599805f34c7797fdec432e97b3f1ab6a0d0fe1769a", checked := Try.checked }
namespace Rows
def none {H : Type} : Left H := { results := [], args := [] }

/-- 'beadlelaw21.DutyFate': WHATEVER THE INPUT: true; the input reads as it did. -/
def dutyFateSpec : ChangeSpec := { name := "dutyFate", fn := fun _ => fun
  | [d1, d2] => { results := [.lit (.bool true)], args := [d1, d2] }
  | _ => none }
def dutyFateRow : OpenClaim := { program := "ytmfhilddemgabaa", sum := "406ff3a5d1b54b32d534f4599805f34c7797fdec432e97b3f1ab6a0d0fe1769a", func := "beadle/beadlelaw21.DutyFate", spec := "dutyFate", unfollowed := true, recurses := true, apart := false }
def DutyFateSaid : Prop := dutyFateRow.holds Try.pinned (OpenSpec.ofChange dutyFateSpec)

/-- ITS FALSE NEIGHBOUR: 'it returns false'. Refute it at one input. -/
def dutyFateWrong : ChangeSpec := { name := "dutyFate", fn := fun _ => fun
  | [d1, d2] => { results := [.lit (.bool false)], args := [d1, d2] }
  | _ => none }
def DutyFateWrongFalsely : Prop := dutyFateRow.holds Try.pinned (OpenSpec.ofChange dutyFateWrong)

/-- 'beadlelaw34.QuotaRuns': WHATEVER THE INPUT: true; the input reads as it did. -/
def quotaRunsSpec : ChangeSpec := { name := "quotaRuns", fn := fun _ => fun
  | [d1, d2, d3] => { results := [.lit (.bool true)], args := [d1, d2, d3] }
  | _ => none }
def quotaRunsRow : OpenClaim := { program := "ytmfhilddemgabaa", sum := "406ff3a5d1b54b32d534f4599805f34c7797fdec432e97b3f1ab6a0d0fe1769a", func := "beadle/beadlelaw34.QuotaRuns", spec := "quotaRuns", apart := false }
def QuotaRunsSaid : Prop := quotaRunsRow.holds Try.pinned (OpenSpec.ofChange quotaRunsSpec)

/-- ITS FALSE NEIGHBOUR: 'it returns false'. Refute it at one input. -/
def quotaRunsWrong : ChangeSpec := { name := "quotaRuns", fn := fun _ => fun
  | [d1, d2, d3] => { results := [.lit (.bool false)], args := [d1, d2, d3] }
  | _ => none }
def QuotaRunsWrongFalsely : Prop := quotaRunsRow.holds Try.pinned (OpenSpec.ofChange quotaRunsWrong)

/-- 'beadlelaw34.QuotaBound': WHATEVER THE INPUT: true; the input reads as it did. -/
def quotaBoundSpec : ChangeSpec := { name := "quotaBound", fn := fun _ => fun
  | [d1, d2, d3] => { results := [.lit (.bool true)], args := [d1, d2, d3] }
  | _ => none }
def quotaBoundRow : OpenClaim := { program := "ytmfhilddemgabaa", sum := "406ff3a5d1b54b32d534f4599805f34c7797fdec432e97b3f1ab6a0d0fe1769a", func := "beadle/beadlelaw34.QuotaBound", spec := "quotaBound", apart := false }
def QuotaBoundSaid : Prop := quotaBoundRow.holds Try.pinned (OpenSpec.ofChange quotaBoundSpec)

/-- ITS FALSE NEIGHBOUR: 'it returns false'. Refute it at one input. -/
def quotaBoundWrong : ChangeSpec := { name := "quotaBound", fn := fun _ => fun
  | [d1, d2, d3] => { results := [.lit (.bool false)], args := [d1, d2, d3] }
  | _ => none }
def QuotaBoundWrongFalsely : Prop := quotaBoundRow.holds Try.pinned (OpenSpec.ofChange quotaBoundWrong)

/-- 'beadlelaw34.QuotaWaits': WHATEVER THE INPUT: true; the input reads as it did. -/
def quotaWaitsSpec : ChangeSpec := { name := "quotaWaits", fn := fun _ => fun
  | [d1, d2, d3, d4, d5, d6] => { results := [.lit (.bool true)], args := [d1, d2, d3, d4, d5, d6] }
  | _ => none }
def quotaWaitsRow : OpenClaim := { program := "ytmfhilddemgabaa", sum := "406ff3a5d1b54b32d534f4599805f34c7797fdec432e97b3f1ab6a0d0fe1769a", func := "beadle/beadlelaw34.QuotaWaits", spec := "quotaWaits", apart := false }
def QuotaWaitsSaid : Prop := quotaWaitsRow.holds Try.pinned (OpenSpec.ofChange quotaWaitsSpec)

/-- ITS FALSE NEIGHBOUR: 'it returns false'. Refute it at one input. -/
def quotaWaitsWrong : ChangeSpec := { name := "quotaWaits", fn := fun _ => fun
  | [d1, d2, d3, d4, d5, d6] => { results := [.lit (.bool false)], args := [d1, d2, d3, d4, d5, d6] }
  | _ => none }
def QuotaWaitsWrongFalsely : Prop := quotaWaitsRow.holds Try.pinned (OpenSpec.ofChange quotaWaitsWrong)

/-- 'beadlelaw34.QuotaClones': WHATEVER THE INPUT: true; the input reads as it did. -/
def quotaClonesSpec : ChangeSpec := { name := "quotaClones", fn := fun _ => fun
  | [d1, d2, d3, d4] => { results := [.lit (.bool true)], args := [d1, d2, d3, d4] }
  | _ => none }
def quotaClonesRow : OpenClaim := { program := "ytmfhilddemgabaa", sum := "406ff3a5d1b54b32d534f4599805f34c7797fdec432e97b3f1ab6a0d0fe1769a", func := "beadle/beadlelaw34.QuotaClones", spec := "quotaClones", apart := false }
def QuotaClonesSaid : Prop := quotaClonesRow.holds Try.pinned (OpenSpec.ofChange quotaClonesSpec)

/-- ITS FALSE NEIGHBOUR: 'it returns false'. Refute it at one input. -/
def quotaClonesWrong : ChangeSpec := { name := "quotaClones", fn := fun _ => fun
  | [d1, d2, d3, d4] => { results := [.lit (.bool false)], args := [d1, d2, d3, d4] }
  | _ => none }
def QuotaClonesWrongFalsely : Prop := quotaClonesRow.holds Try.pinned (OpenSpec.ofChange quotaClonesWrong)

/-- 'beadlelaw21.DutyRuns': WHATEVER THE INPUT: true; the input reads as it did. -/
def dutyRunsSpec : ChangeSpec := { name := "dutyRuns", fn := fun _ => fun
  | [d] => { results := [.lit (.bool true)], args := [d] }
  | _ => none }
def dutyRunsRow : OpenClaim := { program := "ytmfhilddemgabaa", sum := "406ff3a5d1b54b32d534f4599805f34c7797fdec432e97b3f1ab6a0d0fe1769a", func := "beadle/beadlelaw21.DutyRuns", spec := "dutyRuns", unfollowed := true, recurses := true, apart := false }
def DutyRunsSaid : Prop := dutyRunsRow.holds Try.pinned (OpenSpec.ofChange dutyRunsSpec)

/-- ITS FALSE NEIGHBOUR: 'it returns false'. Refute it at one input. -/
def dutyRunsWrong : ChangeSpec := { name := "dutyRuns", fn := fun _ => fun
  | [d] => { results := [.lit (.bool false)], args := [d] }
  | _ => none }
def DutyRunsWrongFalsely : Prop := dutyRunsRow.holds Try.pinned (OpenSpec.ofChange dutyRunsWrong)

/-- 'beadlelaw21.DutyStays': WHATEVER THE INPUT: true; the input reads as it did. -/
def dutyStaysSpec : ChangeSpec := { name := "dutyStays", fn := fun _ => fun
  | [d1, d2] => { results := [.lit (.bool true)], args := [d1, d2] }
  | _ => none }
def dutyStaysRow : OpenClaim := { program := "ytmfhilddemgabaa", sum := "406ff3a5d1b54b32d534f4599805f34c7797fdec432e97b3f1ab6a0d0fe1769a", func := "beadle/beadlelaw21.DutyStays", spec := "dutyStays", unfollowed := true, recurses := true, apart := false }
def DutyStaysSaid : Prop := dutyStaysRow.holds Try.pinned (OpenSpec.ofChange dutyStaysSpec)

/-- ITS FALSE NEIGHBOUR: 'it returns false'. Refute it at one input. -/
def dutyStaysWrong : ChangeSpec := { name := "dutyStays", fn := fun _ => fun
  | [d1, d2] => { results := [.lit (.bool false)], args := [d1, d2] }
  | _ => none }
def DutyStaysWrongFalsely : Prop := dutyStaysRow.holds Try.pinned (OpenSpec.ofChange dutyStaysWrong)

/-- 'beadlelaw21.DutyClones': WHATEVER THE INPUT: true; the input reads as it did. -/
def dutyClonesSpec : ChangeSpec := { name := "dutyClones", fn := fun _ => fun
  | [d1, d2, d3] => { results := [.lit (.bool true)], args := [d1, d2, d3] }
  | _ => none }
def dutyClonesRow : OpenClaim := { program := "ytmfhilddemgabaa", sum := "406ff3a5d1b54b32d534f4599805f34c7797fdec432e97b3f1ab6a0d0fe1769a", func := "beadle/beadlelaw21.DutyClones", spec := "dutyClones", unfollowed := true, recurses := true, apart := false }
def DutyClonesSaid : Prop := dutyClonesRow.holds Try.pinned (OpenSpec.ofChange dutyClonesSpec)

/-- ITS FALSE NEIGHBOUR: 'it returns false'. Refute it at one input. -/
def dutyClonesWrong : ChangeSpec := { name := "dutyClones", fn := fun _ => fun
  | [d1, d2, d3] => { results := [.lit (.bool false)], args := [d1, d2, d3] }
  | _ => none }
def DutyClonesWrongFalsely : Prop := dutyClonesRow.holds Try.pinned (OpenSpec.ofChange dutyClonesWrong)

/-- 'beadlelaw21.DutyDue': WHATEVER THE INPUT: true; the input reads as it did. -/
def dutyDueSpec : ChangeSpec := { name := "dutyDue", fn := fun _ => fun
  | [d1, d2] => { results := [.lit (.bool true)], args := [d1, d2] }
  | _ => none }
def dutyDueRow : OpenClaim := { program := "ytmfhilddemgabaa", sum := "406ff3a5d1b54b32d534f4599805f34c7797fdec432e97b3f1ab6a0d0fe1769a", func := "beadle/beadlelaw21.DutyDue", spec := "dutyDue", unfollowed := true, recurses := true, apart := false }
def DutyDueSaid : Prop := dutyDueRow.holds Try.pinned (OpenSpec.ofChange dutyDueSpec)

/-- ITS FALSE NEIGHBOUR: 'it returns false'. Refute it at one input. -/
def dutyDueWrong : ChangeSpec := { name := "dutyDue", fn := fun _ => fun
  | [d1, d2] => { results := [.lit (.bool false)], args := [d1, d2] }
  | _ => none }
def DutyDueWrongFalsely : Prop := dutyDueRow.holds Try.pinned (OpenSpec.ofChange dutyDueWrong)

/- THE SECOND FORM. 'bulk': how many values and letters a reading holds, each counted each time it is reached (what is shared counts as often as it is met; a slice's spare places count too). A statement '..UptoSaid' is the law's where the arguments, and the package variables that the reading takes, are together of bulk at most 1048576: NARROWER than '..Said'. Prove '..Said' where nothing that the law and all that it calls make is longer than what came in: it says more and counts as full. Else prove '..UptoSaid'. A law counts once. -/
mutual
def uptoBulk {H : Type} : DataW H → Nat
  | .lit (.string bytes) => bytes.length + 1
  | .lit _ => 1
  | .nil => 1
  | .ptr d => uptoBulk d + 1
  | .slice elems spare => uptoBulkAll elems + uptoBulkAll spare + 1
  | .agg parts => uptoBulkAll parts + 1
  | .iface _ d => uptoBulk d + 1
  | .map entries => uptoBulkEntries entries + 1
  | .held _ => 1
def uptoBulkAll {H : Type} : List (DataW H) → Nat
  | [] => 0
  | d :: r => uptoBulk d + uptoBulkAll r
def uptoBulkEntries {H : Type} : List (Lit × DataW H) → Nat
  | [] => 0
  | x :: r => uptoBulkEntry x + uptoBulkEntries r
def uptoBulkEntry {H : Type} : Lit × DataW H → Nat
  | (.string bytes, d) => bytes.length + uptoBulk d + 1
  | (_, d) => uptoBulk d + 1
 end
def uptoSmall : (H : Type) → List (DataW H) → Bool := fun _ ds => decide (uptoBulkAll ds ≤ 1048576)
def OpenSpec.upto (s : _root_.Go.ChangeSpec) : _root_.Go.OpenSpec := { _root_.Go.OpenSpec.ofChange s with cond := some uptoSmall }

/-- 'beadlelaw21.DutyFate', WHERE WHAT IT READS IS OF BULK AT MOST 1048576: true; the input reads as it did. -/
def dutyFateUptoRow : OpenClaim := { program := "ytmfhilddemgabaa", sum := "406ff3a5d1b54b32d534f4599805f34c7797fdec432e97b3f1ab6a0d0fe1769a", func := "beadle/beadlelaw21.DutyFate", spec := "dutyFate", unfollowed := true, recurses := true, apart := false, narrowed := true }
def DutyFateUptoSaid : Prop := dutyFateUptoRow.holds Try.pinned (OpenSpec.upto dutyFateSpec)

/-- 'beadlelaw34.QuotaRuns', WHERE WHAT IT READS IS OF BULK AT MOST 1048576: true; the input reads as it did. -/
def quotaRunsUptoRow : OpenClaim := { program := "ytmfhilddemgabaa", sum := "406ff3a5d1b54b32d534f4599805f34c7797fdec432e97b3f1ab6a0d0fe1769a", func := "beadle/beadlelaw34.QuotaRuns", spec := "quotaRuns", apart := false, narrowed := true }
def QuotaRunsUptoSaid : Prop := quotaRunsUptoRow.holds Try.pinned (OpenSpec.upto quotaRunsSpec)

/-- 'beadlelaw34.QuotaBound', WHERE WHAT IT READS IS OF BULK AT MOST 1048576: true; the input reads as it did. -/
def quotaBoundUptoRow : OpenClaim := { program := "ytmfhilddemgabaa", sum := "406ff3a5d1b54b32d534f4599805f34c7797fdec432e97b3f1ab6a0d0fe1769a", func := "beadle/beadlelaw34.QuotaBound", spec := "quotaBound", apart := false, narrowed := true }
def QuotaBoundUptoSaid : Prop := quotaBoundUptoRow.holds Try.pinned (OpenSpec.upto quotaBoundSpec)

/-- 'beadlelaw34.QuotaWaits', WHERE WHAT IT READS IS OF BULK AT MOST 1048576: true; the input reads as it did. -/
def quotaWaitsUptoRow : OpenClaim := { program := "ytmfhilddemgabaa", sum := "406ff3a5d1b54b32d534f4599805f34c7797fdec432e97b3f1ab6a0d0fe1769a", func := "beadle/beadlelaw34.QuotaWaits", spec := "quotaWaits", apart := false, narrowed := true }
def QuotaWaitsUptoSaid : Prop := quotaWaitsUptoRow.holds Try.pinned (OpenSpec.upto quotaWaitsSpec)

/-- 'beadlelaw34.QuotaClones', WHERE WHAT IT READS IS OF BULK AT MOST 1048576: true; the input reads as it did. -/
def quotaClonesUptoRow : OpenClaim := { program := "ytmfhilddemgabaa", sum := "406ff3a5d1b54b32d534f4599805f34c7797fdec432e97b3f1ab6a0d0fe1769a", func := "beadle/beadlelaw34.QuotaClones", spec := "quotaClones", apart := false, narrowed := true }
def QuotaClonesUptoSaid : Prop := quotaClonesUptoRow.holds Try.pinned (OpenSpec.upto quotaClonesSpec)

/-- 'beadlelaw21.DutyRuns', WHERE WHAT IT READS IS OF BULK AT MOST 1048576: true; the input reads as it did. -/
def dutyRunsUptoRow : OpenClaim := { program := "ytmfhilddemgabaa", sum := "406ff3a5d1b54b32d534f4599805f34c7797fdec432e97b3f1ab6a0d0fe1769a", func := "beadle/beadlelaw21.DutyRuns", spec := "dutyRuns", unfollowed := true, recurses := true, apart := false, narrowed := true }
def DutyRunsUptoSaid : Prop := dutyRunsUptoRow.holds Try.pinned (OpenSpec.upto dutyRunsSpec)

/-- 'beadlelaw21.DutyStays', WHERE WHAT IT READS IS OF BULK AT MOST 1048576: true; the input reads as it did. -/
def dutyStaysUptoRow : OpenClaim := { program := "ytmfhilddemgabaa", sum := "406ff3a5d1b54b32d534f4599805f34c7797fdec432e97b3f1ab6a0d0fe1769a", func := "beadle/beadlelaw21.DutyStays", spec := "dutyStays", unfollowed := true, recurses := true, apart := false, narrowed := true }
def DutyStaysUptoSaid : Prop := dutyStaysUptoRow.holds Try.pinned (OpenSpec.upto dutyStaysSpec)

/-- 'beadlelaw21.DutyClones', WHERE WHAT IT READS IS OF BULK AT MOST 1048576: true; the input reads as it did. -/
def dutyClonesUptoRow : OpenClaim := { program := "ytmfhilddemgabaa", sum := "406ff3a5d1b54b32d534f4599805f34c7797fdec432e97b3f1ab6a0d0fe1769a", func := "beadle/beadlelaw21.DutyClones", spec := "dutyClones", unfollowed := true, recurses := true, apart := false, narrowed := true }
def DutyClonesUptoSaid : Prop := dutyClonesUptoRow.holds Try.pinned (OpenSpec.upto dutyClonesSpec)

/-- 'beadlelaw21.DutyDue', WHERE WHAT IT READS IS OF BULK AT MOST 1048576: true; the input reads as it did. -/
def dutyDueUptoRow : OpenClaim := { program := "ytmfhilddemgabaa", sum := "406ff3a5d1b54b32d534f4599805f34c7797fdec432e97b3f1ab6a0d0fe1769a", func := "beadle/beadlelaw21.DutyDue", spec := "dutyDue", unfollowed := true, recurses := true, apart := false, narrowed := true }
def DutyDueUptoSaid : Prop := dutyDueUptoRow.holds Try.pinned (OpenSpec.upto dutyDueSpec)

end Rows
end Go.Proofs.Ytmfhilddemgabaa
