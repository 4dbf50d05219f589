/- The kinds of the types. Conditions: none. -/
import Derived.Test.YtahdigojpapcdaaGreatDoorProg
import Derived.Test.YtahdigojpapcdaaGreatDoorA3
import Derived.KernelRfl
namespace Go.Abs
open Go.Proofs
def TYS : List (Nat × Kd) := [(3, .int .i64),
  (4, .bool),
  (5, .int .u8),
  (9, .str),
  (22, .sl (.st (.pair (.int .i64) (.sl (.st (.sl (.str))))))),
  (24, .st (.sl (.st (.pair (.int .i64) (.sl (.st (.sl (.str)))))))),
  (27, .sl (.st (.pair (.int .i64) (.sl (.st (.sl (.str))))))),
  (29, .st (.sl (.st (.pair (.int .i64) (.sl (.st (.sl (.str)))))))),
  (46, .sl (.st (.sl (.str)))),
  (48, .st (.pair (.int .i64) (.sl (.st (.sl (.str)))))),
  (49, .sl (.int .i64)),
  (51, .sl (.st (.sl (.str)))),
  (53, .st (.pair (.int .i64) (.sl (.st (.sl (.str)))))),
  (74, .sl (.str)),
  (76, .st (.sl (.str))),
  (84, .st (.sl (.str))),
  (125, .sl (.int .u8)),
  (136, .err)]
theorem TYS_ok : TysOk Tryz.prog TYS := show (TYS.all (tyCheck Tryz.prog TYS)) = true by kernel_rfl
theorem MIX : Tryz.prog.follows .mixedOrders = true := by kernel_rfl
end Go.Abs
