
/- Structs of numbers at which the library is used. -/
import Derived.Test.YtcemcgcbhmianaaDoorK7
import Derived.Test.YtcemcgcbhmianaaDoorF
