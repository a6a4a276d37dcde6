import Derived.Test.YtjlkmdmaimednaaGreatAbY
import Derived.Shelf.SlLaysM
import Derived.Shelf.SortM.Plain
import Derived.Shelf.SortM.SortNone
import Derived.Ground.GgzProg
import Derived.Ground.SlgmProg
import Derived.Test.YtjlkmdmaimednaaGreatProg
set_option linter.unusedVariables false
set_option linter.unusedSimpArgs false
namespace Go.Proofs
open Go.Shelf
end Go.Proofs
namespace Go.Proofs.YtjlkmdmaimednaaGreat.R
open Go Go.Ab Go.Proofs Go.RowKit Go.Maps Go.Sort Go.Shelf
set_option linter.unusedVariables false
end Go.Proofs.YtjlkmdmaimednaaGreat.R
