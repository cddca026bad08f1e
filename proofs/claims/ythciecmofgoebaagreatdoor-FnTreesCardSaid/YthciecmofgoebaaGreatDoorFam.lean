
/- Structs of numbers at which the library is used. -/
import Derived.Test.YthciecmofgoebaaGreatDoorK7
