
/- Structs of numbers at which the library is used. -/
import Derived.Test.YtjejfkndiecmaaaK7
import Derived.Test.YtjejfkndiecmaaaK4
