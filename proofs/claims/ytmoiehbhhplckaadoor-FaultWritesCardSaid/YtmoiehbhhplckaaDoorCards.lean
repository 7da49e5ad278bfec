/-
  DERIVED. GIVEN WITH THE SEED: THE CARDS: each row of YtmoiehbhhplckaaDoorRows.lean that lists a variable, with what it lists TIED to the program's text (the seventh form; the later family's looks); each row that meets fmt, with fmt's text TOLD by the authors' own Lean function (tested against real Go, not proved from fmt's source: count such statements apart). THE CARD IS WHAT COUNTS. Prove the row's statement (the work); the ties are given (YtmoiehbhhplckaaDoorTie.lean); close each card by the builder's one call (the guide's Derived/Test/ToyasCard.lean, 'card_holds'). Laid BY PROGRAM, IN A SANDBOX (cutbox-door.mjs). By AI agents, Wed Nov 11 2026. No macro, syntax, notation, axiom, sorry.
-/
import Derived.Test.YtmoiehbhhplckaaDoorRows
import GoSem.ClaimSeven
namespace Go.Proofs.YtmoiehbhhplckaaDoor
namespace Rows

/-- THE TIED CARD OF 'beadlelaw03.FaultTells'. -/
def faultTellsCard : Claim7 := { stood := { row := faultTellsRow, standIns := [], harness := (true, "26f9994f5e5f7ec52a46a3e91d882c5a4140cd7e52fd2a823d93e0cb9b716c14"), looks := true }, kinds := [], alts := [], laidByText := true, laidKinds := [.handle], laidTests := true, laidLooks := .later }
def FaultTellsCardSaid : Prop := Claim7.holds Tryd.pinned (.plain (OpenSpec.ofChange faultTellsSpec)) faultTellsCard

/-- THE TIED CARD OF 'beadlelaw03.FaultHas'. -/
def faultHasCard : Claim7 := { stood := { row := faultHasRow, standIns := [], harness := (true, "26f9994f5e5f7ec52a46a3e91d882c5a4140cd7e52fd2a823d93e0cb9b716c14"), looks := true }, kinds := [], alts := [], laidByText := true, laidKinds := [.handle], laidTests := true, laidLooks := .later }
def FaultHasCardSaid : Prop := Claim7.holds Tryd.pinned (.plain (OpenSpec.ofChange faultHasSpec)) faultHasCard

/-- THE TIED CARD OF 'beadlelaw03.FaultNone'. -/
def faultNoneCard : Claim7 := { stood := { row := faultNoneRow, standIns := [], harness := (true, "26f9994f5e5f7ec52a46a3e91d882c5a4140cd7e52fd2a823d93e0cb9b716c14"), looks := true }, kinds := [], alts := [], laidByText := true, laidKinds := [.handle], laidTests := true, laidLooks := .later }
def FaultNoneCardSaid : Prop := Claim7.holds Tryd.pinned (.plain (OpenSpec.ofChange faultNoneSpec)) faultNoneCard

/-- THE TIED CARD OF 'beadlelaw03.FaultWrites'. -/
def faultWritesCard : Claim7 := { stood := { row := faultWritesRow, standIns := [], harness := (true, "26f9994f5e5f7ec52a46a3e91d882c5a4140cd7e52fd2a823d93e0cb9b716c14"), looks := true }, kinds := [], alts := [], laidByText := true, laidKinds := [.handle], laidTests := true, laidLooks := .later }
def FaultWritesCardSaid : Prop := Claim7.holds Tryd.pinned (.plain (OpenSpec.ofChange faultWritesSpec)) faultWritesCard

/-- THE SECOND FORM's CARD OF 'beadlelaw03.FaultTells'. -/
def faultTellsUptoCard : Claim7 := { stood := { row := faultTellsUptoRow, standIns := [], harness := (true, "26f9994f5e5f7ec52a46a3e91d882c5a4140cd7e52fd2a823d93e0cb9b716c14"), looks := true }, kinds := [], alts := [], laidByText := true, laidKinds := [.handle], laidTests := true, laidLooks := .later }
def FaultTellsUptoCardSaid : Prop := Claim7.holds Tryd.pinned (.plain (OpenSpec.upto faultTellsSpec)) faultTellsUptoCard

/-- THE SECOND FORM's CARD OF 'beadlelaw03.FaultHas'. -/
def faultHasUptoCard : Claim7 := { stood := { row := faultHasUptoRow, standIns := [], harness := (true, "26f9994f5e5f7ec52a46a3e91d882c5a4140cd7e52fd2a823d93e0cb9b716c14"), looks := true }, kinds := [], alts := [], laidByText := true, laidKinds := [.handle], laidTests := true, laidLooks := .later }
def FaultHasUptoCardSaid : Prop := Claim7.holds Tryd.pinned (.plain (OpenSpec.upto faultHasSpec)) faultHasUptoCard

/-- THE SECOND FORM's CARD OF 'beadlelaw03.FaultNone'. -/
def faultNoneUptoCard : Claim7 := { stood := { row := faultNoneUptoRow, standIns := [], harness := (true, "26f9994f5e5f7ec52a46a3e91d882c5a4140cd7e52fd2a823d93e0cb9b716c14"), looks := true }, kinds := [], alts := [], laidByText := true, laidKinds := [.handle], laidTests := true, laidLooks := .later }
def FaultNoneUptoCardSaid : Prop := Claim7.holds Tryd.pinned (.plain (OpenSpec.upto faultNoneSpec)) faultNoneUptoCard

/-- THE SECOND FORM's CARD OF 'beadlelaw03.FaultWrites'. -/
def faultWritesUptoCard : Claim7 := { stood := { row := faultWritesUptoRow, standIns := [], harness := (true, "26f9994f5e5f7ec52a46a3e91d882c5a4140cd7e52fd2a823d93e0cb9b716c14"), looks := true }, kinds := [], alts := [], laidByText := true, laidKinds := [.handle], laidTests := true, laidLooks := .later }
def FaultWritesUptoCardSaid : Prop := Claim7.holds Tryd.pinned (.plain (OpenSpec.upto faultWritesSpec)) faultWritesUptoCard
end Rows
end Go.Proofs.YtmoiehbhhplckaaDoor
