/- maps.Clone at this dump. Conditions: none. -/
import Derived.Shelf.SlMaps.Clone
import Derived.WalkKit
import Derived.KernelRfl
import Derived.Test.YtkelpajcfmghiaaGreatDoorProg
set_option linter.unusedVariables false
set_option linter.unusedSimpArgs false
namespace Go.Proofs
open Go.Shelf Go.RowKit Go.Maps
end Go.Proofs
