/- The kinds of the types. Conditions: none. -/
import Derived.Test.YtgdlicpmbgodjaaGreatDoorProg
import Derived.Test.YtgdlicpmbgodjaaGreatDoorA4
import Derived.KernelRfl
namespace Go.Abs.R
open Go.Proofs
def TYS:List (Nat × Kd):=[(9,.str),
 (47,.sl (.str)),
 (49,.raw (.st (.sl (.str)))),
 (63,.sl (.raw (.st (.sl (.str)))))]
theorem TYS_ok:TysOk Tryz.prog TYS:=show (TYS.all (Z3f Tryz.prog TYS)) = true by kernel_rfl
theorem MIX:Tryz.prog.follows .mixedOrders = true:=by kernel_rfl
theorem CO (tb:List (Nat × Z0W)):Z0T (Z0D Tryz.prog TYS tb):=Z3P TYS_ok
theorem MX (tb:List (Nat × Z0W)):(Z0D Tryz.prog TYS tb).P.follows .mixedOrders = true:=MIX
end Go.Abs.R
