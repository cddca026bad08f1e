
/- The library's Clone and Delete at rows of structs: contracts. -/
import Derived.Test.YtilgllbojdkhhaaDoorK10
namespace Go.Proofs.YtilgllbojdkhhaaDoor
open Go.RowKit
end Go.Proofs.YtilgllbojdkhhaaDoor
