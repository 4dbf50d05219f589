/- The kinds of the types. Conditions: none. -/
import Derived.Test.YtdjdgempjnlkeaaProg
import Derived.Test.YtdjdgempjnlkeaaA4
import Derived.KernelRfl
namespace Go.Abs
open Go.Proofs
def TYS : List (Nat × Kd) := [(3, .int .i64),
 (4, .bool),
 (5, .int .u8),
 (9, .str),
 (22, .sl (.st (.pair (.int .i64) (.pair (.str) (.sl (.int .i64)))))),
 (23, .sl (.int .i64)),
 (25, .st (.pair (.int .i64) (.pair (.str) (.sl (.int .i64))))),
 (26, .sl (.st (.pair (.int .i64) (.pair (.str) (.sl (.int .i64)))))),
 (28, .st (.pair (.sl (.st (.pair (.int .i64) (.pair (.str) (.sl (.int .i64)))))) (.pair (.st (.pair (.int .i64) (.pair (.str) (.sl (.int .i64))))) (.sl (.st (.pair (.int .i64) (.pair (.str) (.sl (.int .i64))))))))),
 (31, .sl (.st (.pair (.int .i64) (.pair (.str) (.sl (.int .i64)))))),
 (32, .st (.pair (.int .i64) (.pair (.str) (.sl (.int .i64))))),
 (33, .sl (.st (.pair (.int .i64) (.pair (.str) (.sl (.int .i64)))))),
 (35, .st (.pair (.sl (.st (.pair (.int .i64) (.pair (.str) (.sl (.int .i64)))))) (.pair (.st (.pair (.int .i64) (.pair (.str) (.sl (.int .i64))))) (.sl (.st (.pair (.int .i64) (.pair (.str) (.sl (.int .i64))))))))),
 (40, .sl (.str)),
 (42, .st (.pair (.sl (.str)) (.sl (.str)))),
 (48, .sl (.int .u8)),
 (59, .st (.pair (.int .i64) (.pair (.str) (.sl (.int .i64))))),
 (68, .st (.pair (.sl (.str)) (.sl (.str)))),
 (83, .st (.pair (.int .i64) (.pair (.str) (.sl (.int .i64))))),
 (94, .mp (.str) (.bool)),
 (99, .mp (.str) (.st (.pair (.int .i64) (.pair (.str) (.sl (.int .i64)))))),
 (101, .fcell 64 (.st (.pair (.sl (.st (.pair (.int .i64) (.pair (.str) (.sl (.int .i64)))))) (.pair (.st (.pair (.int .i64) (.pair (.str) (.sl (.int .i64))))) (.sl (.st (.pair (.int .i64) (.pair (.str) (.sl (.int .i64))))))))) (.st (.pair (.sl (.st (.pair (.int .i64) (.pair (.str) (.sl (.int .i64)))))) (.pair (.st (.pair (.int .i64) (.pair (.str) (.sl (.int .i64))))) (.sl (.st (.pair (.int .i64) (.pair (.str) (.sl (.int .i64))))))))))]
theorem TYS_ok : TysOk Try.prog TYS := show (TYS.all (tyCheck Try.prog TYS)) = true by kernel_rfl
theorem MIX : Try.prog.follows .mixedOrders = true := by kernel_rfl
theorem CO (tb : List (Nat × FEnt)) : CtxOk (mkCtx Try.prog TYS tb) := mkCtx_cok TYS_ok
theorem MX (tb : List (Nat × FEnt)) : (mkCtx Try.prog TYS tb).P.follows .mixedOrders = true := MIX
end Go.Abs
