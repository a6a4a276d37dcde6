/- A range over a function that goes over a list from its end (slices.Backward). -/
import Derived.Test.YtjlkmdmaimednaaGreatAbT
set_option linter.unusedVariables false
set_option linter.unusedSimpArgs false
namespace Go.Ab
open Go.RowKit

variable {P : Program} {B : Base} {s : St} {a : Act} {w : World} {ρ : Nat → Value} {n : Nat}

end Go.Ab
