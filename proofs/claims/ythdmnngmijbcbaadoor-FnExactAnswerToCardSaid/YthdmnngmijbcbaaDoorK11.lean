
/- The library's Clone and Delete at rows of structs: contracts. -/
import Derived.Test.YthdmnngmijbcbaaDoorK10
namespace Go.Proofs.YthdmnngmijbcbaaDoor
open Go.RowKit
end Go.Proofs.YthdmnngmijbcbaaDoor
