/- The contracts of Go's library lie in ShelfK. -/
import Derived.Test.YtbbdgncjpbfooaaGreatDoorShelfK
