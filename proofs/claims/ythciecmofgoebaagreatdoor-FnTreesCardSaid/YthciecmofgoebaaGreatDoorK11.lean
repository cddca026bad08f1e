
/- The library's Clone and Delete at rows of structs: contracts. -/
import Derived.Test.YthciecmofgoebaaGreatDoorK10
namespace Go.Proofs.YthciecmofgoebaaGreatDoor
open Go.RowKit
end Go.Proofs.YthciecmofgoebaaGreatDoor
