/- The kinds of the types. Conditions: none. -/
import Derived.Test.YtgdlicpmbgodjaaGreatDoorProg
import Derived.Test.YtgdlicpmbgodjaaGreatDoorA4
import Derived.KernelRfl
namespace Go.Abs
open Go.Proofs
def TYS:List (Nat × Kd):=[(3,.int .i64),
 (4,.bool),
 (5,.int .u8),
 (9,.str),
 (26,.sl (.st (.pair (.int .i64) (.pair (.st (.sl (.str))) (.bool))))),
 (29,.sl (.st (.pair (.int .i64) (.sl (.st (.sl (.str))))))),
 (31,.st (.sl (.st (.pair (.int .i64) (.sl (.st (.sl (.str)))))))),
 (38,.sl (.int .u8)),
 (47,.sl (.str)),
 (49,.st (.sl (.str))),
 (51,.st (.pair (.int .i64) (.pair (.st (.sl (.str))) (.bool)))),
 (61,.sl (.int .i64)),
 (63,.sl (.st (.sl (.str)))),
 (65,.st (.pair (.int .i64) (.sl (.st (.sl (.str)))))),
 (142,.st (.pair (.sl (.int .u8)) (.pair (.int .i64) (.int .i64)))),
 (163,.err),
 (169,.int .u64)]
theorem TYS_ok:TysOk Tryz.prog TYS:=show (TYS.all (Z3f Tryz.prog TYS)) = true by kernel_rfl
theorem MIX:Tryz.prog.follows .mixedOrders = true:=by kernel_rfl
theorem CO (tb:List (Nat × Z0W)):Z0T (Z0D Tryz.prog TYS tb):=Z3P TYS_ok
theorem MX (tb:List (Nat × Z0W)):(Z0D Tryz.prog TYS tb).P.follows .mixedOrders = true:=MIX
end Go.Abs
