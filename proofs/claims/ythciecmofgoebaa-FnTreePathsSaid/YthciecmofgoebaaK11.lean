
/- The library's Clone and Delete at rows of structs: contracts. -/
import Derived.Test.YthciecmofgoebaaK10
namespace Go.Proofs.Ythciecmofgoebaa
open Go.RowKit
end Go.Proofs.Ythciecmofgoebaa
