/- next of package token's reader: a number. -/
import Derived.Test.YtbbdgncjpbfooaaDoorKn
namespace Go.Proofs.YtbbdgncjpbfooaaDoor
open Go.RowKit

end Go.Proofs.YtbbdgncjpbfooaaDoor
