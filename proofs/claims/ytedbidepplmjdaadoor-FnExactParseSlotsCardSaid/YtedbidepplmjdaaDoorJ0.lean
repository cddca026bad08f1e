
/- Texts in rows (where the seat has no laws over lists of texts; else: from there). -/
import Derived.Test.YtedbidepplmjdaaDoorS1
namespace Go.Proofs.YtedbidepplmjdaaDoor
open Go.RowKit
end Go.Proofs.YtedbidepplmjdaaDoor
