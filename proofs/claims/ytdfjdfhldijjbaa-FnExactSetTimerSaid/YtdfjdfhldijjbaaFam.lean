
/- Structs of numbers at which the library is used. -/
import Derived.Test.YtdfjdfhldijjbaaK7
import Derived.Test.YtdfjdfhldijjbaaK4
