/- The kinds of the types. Conditions: none. -/
import Derived.Test.YtgdlicpmbgodjaaGreatDoorProg
import Derived.Test.YtgdlicpmbgodjaaGreatDoorA4
import Derived.KernelRfl
namespace Go.Abs
open Go.Proofs
def TYS : List (Nat × Kd) := [(3, .int .i64),
 (4, .bool),
 (5, .int .u8),
 (9, .str),
 (22, .sl (.st (.pair (.int .i64) (.sl (.st (.sl (.str))))))),
 (24, .st (.sl (.st (.pair (.int .i64) (.sl (.st (.sl (.str)))))))),
 (26, .sl (.st (.pair (.int .i64) (.pair (.st (.sl (.str))) (.bool))))),
 (29, .sl (.st (.pair (.int .i64) (.sl (.st (.sl (.str))))))),
 (31, .st (.sl (.st (.pair (.int .i64) (.sl (.st (.sl (.str)))))))),
 (38, .sl (.int .u8)),
 (47, .sl (.str)),
 (49, .st (.sl (.str))),
 (51, .st (.pair (.int .i64) (.pair (.st (.sl (.str))) (.bool)))),
 (54, .sl (.st (.pair (.int .i64) (.pair (.st (.sl (.str))) (.bool))))),
 (58, .sl (.st (.sl (.str)))),
 (60, .st (.pair (.int .i64) (.sl (.st (.sl (.str)))))),
 (61, .sl (.int .i64)),
 (63, .sl (.st (.sl (.str)))),
 (65, .st (.pair (.int .i64) (.sl (.st (.sl (.str)))))),
 (123, .st (.sl (.str))),
 (125, .st (.pair (.int .i64) (.pair (.st (.sl (.str))) (.bool)))),
 (163, .err),
 (169, .int .u64)]
theorem TYS_ok : TysOk Tryz.prog TYS := show (TYS.all (Z5y Tryz.prog TYS)) = true by kernel_rfl
theorem MIX : Tryz.prog.follows .mixedOrders = true := by kernel_rfl
theorem CO (tb : List (Nat × Z0V)) : Z0Y (Z0E Tryz.prog TYS tb) := Z76 TYS_ok
theorem MX (tb : List (Nat × Z0V)) : (Z0E Tryz.prog TYS tb).P.follows .mixedOrders = true := MIX
end Go.Abs
