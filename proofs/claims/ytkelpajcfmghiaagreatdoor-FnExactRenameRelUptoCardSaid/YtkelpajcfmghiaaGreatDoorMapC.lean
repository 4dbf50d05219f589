/- maps.Clone: a new map with the same entries. Conditions: none. -/
import Derived.Test.YtkelpajcfmghiaaGreatDoorA4
set_option linter.unusedVariables false
set_option linter.unusedSimpArgs false
namespace Go.Abs
end Go.Abs
