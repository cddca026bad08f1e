
/- The library's Clone and Delete at rows of structs: contracts. -/
import Derived.Test.YtedbidepplmjdaaDoorK10
namespace Go.Proofs.YtedbidepplmjdaaDoor
open Go.RowKit
end Go.Proofs.YtedbidepplmjdaaDoor
