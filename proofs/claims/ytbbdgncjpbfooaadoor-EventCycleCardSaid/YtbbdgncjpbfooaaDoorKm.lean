/- next of package token's reader: a symbol. -/
import Derived.Test.YtbbdgncjpbfooaaDoorKl
namespace Go.Proofs.YtbbdgncjpbfooaaDoor
open Go.RowKit

theorem symRet_some (y : ByteArray) : symRet (some y.data.toList) = .returned (.tuple #[.string y, .bool true]) := rfl
theorem symRet_none : symRet none = .returned (.tuple #[.string ⟨#[]⟩, .bool false]) := rfl
end Go.Proofs.YtbbdgncjpbfooaaDoor
