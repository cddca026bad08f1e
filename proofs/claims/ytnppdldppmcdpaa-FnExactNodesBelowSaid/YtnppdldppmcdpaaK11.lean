
/- The library's Clone and Delete at rows of structs: contracts. -/
import Derived.Test.YtnppdldppmcdpaaK10
namespace Go.Proofs.Ytnppdldppmcdpaa
open Go.RowKit
end Go.Proofs.Ytnppdldppmcdpaa
