/- Functions of the library, by hand. Conditions: none. -/
import Derived.Test.YtkelpajcfmghiaaGreatDoorLb
import Derived.Test.YtkelpajcfmghiaaGreatDoorMapC
import Derived.Test.YtkelpajcfmghiaaGreatDoorShC
namespace Go.Abs
open Go.Proofs
namespace iY
end iY
end Go.Abs
