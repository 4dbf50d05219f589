/- The kinds of the types. Conditions: none. -/
import Derived.Test.YtpgedieoancjkaaProg
import Derived.Test.YtpgedieoancjkaaA4
import Derived.KernelRfl
namespace Go.Abs
open Go.Proofs
def TYS : List (Nat × Kd) := [(3, .int .i64),
  (4, .bool),
  (5, .int .u8),
  (9, .str),
  (22, .sl (.st (.pair (.int .i64) (.pair (.st (.sl (.str))) (.bool))))),
  (24, .sl (.st (.pair (.int .i64) (.pair (.st (.sl (.str))) (.bool))))),
  (31, .sl (.str)),
  (33, .st (.sl (.str))),
  (35, .st (.pair (.int .i64) (.pair (.st (.sl (.str))) (.bool)))),
  (36, .st (.sl (.str))),
  (38, .st (.pair (.int .i64) (.pair (.st (.sl (.str))) (.bool)))),
  (53, .sl (.int .u8))]
theorem TYS_ok : TysOk Try.prog TYS := show (TYS.all (tyCheck Try.prog TYS)) = true by kernel_rfl
theorem MIX : Try.prog.follows .mixedOrders = true := by kernel_rfl
theorem CO (tb : List (Nat × FEnt)) : CtxOk (mkCtx Try.prog TYS tb) := mkCtx_cok TYS_ok
theorem MX (tb : List (Nat × FEnt)) : (mkCtx Try.prog TYS tb).P.follows .mixedOrders = true := MIX
end Go.Abs
