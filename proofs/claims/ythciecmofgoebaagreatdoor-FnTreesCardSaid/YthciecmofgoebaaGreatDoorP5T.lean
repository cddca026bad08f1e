
/- A law's own helpers at trees. -/
import Derived.Test.YthciecmofgoebaaGreatDoorI2
import Derived.Test.YthciecmofgoebaaGreatDoorK1
import Derived.Test.YthciecmofgoebaaGreatDoorP5
namespace Go.Proofs.YthciecmofgoebaaGreatDoor
open Go.RowKit
end Go.Proofs.YthciecmofgoebaaGreatDoor
