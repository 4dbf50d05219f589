/- Functions of the library, by hand. Conditions: none. -/
import Derived.Test.YtkelpajcfmghiaaGreatDoorLb
import Derived.Test.YtkelpajcfmghiaaGreatDoorMapC
import Derived.Test.YtkelpajcfmghiaaGreatDoorShC
set_option linter.unusedVariables false
set_option linter.unusedSimpArgs false
namespace Go.Abs
open Go.Proofs
namespace iT
end iT
end Go.Abs
