
/- Structs of numbers at which the library is used. -/
import Derived.Test.YtnejeigcdogolaaK7
import Derived.Test.YtnejeigcdogolaaF
