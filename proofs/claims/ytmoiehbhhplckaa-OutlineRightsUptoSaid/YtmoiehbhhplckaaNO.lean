/- Two closed facts of the program that every row asks. Conditions: none. -/
import Derived.Test.YtmoiehbhhplckaaRows
import Derived.Test.YtmoiehbhhplckaaProg
import Derived.ProofKit
import Derived.OpenShut
import Derived.KernelRfl
namespace Go.Proofs.Ytmoiehbhhplckaa
open Go.ChangeShapes Go.WideShapes Go.ChangeAt Go.RowKit

theorem own : ownKnob Try.prog.godebug = none := by kernel_rfl
theorem laidOut : laidOutB Try.prog = true := by kernel_rfl
end Go.Proofs.Ytmoiehbhhplckaa
