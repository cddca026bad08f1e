
/- Structs of numbers at which the library is used. -/
import Derived.Test.YtjhglleiieajaaaK7
import Derived.Test.YtjhglleiieajaaaF
