/- maps.Clone: a new map with the same entries. Conditions: none. -/
import Derived.Test.YtkelpajcfmghiaaGreatDoorA4
namespace Go.Abs
end Go.Abs
