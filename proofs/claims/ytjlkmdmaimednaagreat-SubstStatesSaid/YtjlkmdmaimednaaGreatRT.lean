import Derived.Test.YtjlkmdmaimednaaGreatAbRf
import Derived.Test.YtjlkmdmaimednaaGreatRA
set_option linter.unusedVariables false
set_option linter.unusedSimpArgs false
open Go Go.Ab Go.Proofs
namespace Go.Proofs.YtjlkmdmaimednaaGreat.R
set_option linter.unusedVariables false

end Go.Proofs.YtjlkmdmaimednaaGreat.R
