/- The kinds of the types. Conditions: none. -/
import Derived.Test.YtgdlicpmbgodjaaGreatDoorProg
import Derived.Test.YtgdlicpmbgodjaaGreatDoorA4
import Derived.KernelRfl
namespace Go.Abs
open Go.Proofs
def TYS : List (Nat × Kd) := [(3, .int .i64),
 (4, .bool),
 (5, .int .u8),
 (9, .str),
 (38, .sl (.int .u8)),
 (47, .sl (.str)),
 (49, .st (.sl (.str))),
 (61, .sl (.int .i64)),
 (63, .sl (.st (.sl (.str)))),
 (65, .st (.pair (.int .i64) (.sl (.st (.sl (.str)))))),
 (76, .sl (.st (.pair (.sl (.str)) (.sl (.st (.sl (.str))))))),
 (79, .st (.pair (.sl (.str)) (.sl (.st (.sl (.str)))))),
 (142, .st (.pair (.sl (.int .u8)) (.pair (.int .i64) (.int .i64)))),
 (163, .err)]
theorem TYS_ok : TysOk Tryz.prog TYS := show (TYS.all (tyCheck Tryz.prog TYS)) = true by kernel_rfl
theorem MIX : Tryz.prog.follows .mixedOrders = true := by kernel_rfl
theorem CO (tb : List (Nat × FEnt)) : CtxOk (mkCtx Tryz.prog TYS tb) := mkCtx_cok TYS_ok
theorem MX (tb : List (Nat × FEnt)) : (mkCtx Tryz.prog TYS tb).P.follows .mixedOrders = true := MIX
end Go.Abs
