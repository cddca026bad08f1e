
/- Structs of numbers at which the library is used. -/
import Derived.Test.YtpjljbhodnlhmaaGreatDoorK7
import Derived.Test.YtpjljbhodnlhmaaGreatDoorF
