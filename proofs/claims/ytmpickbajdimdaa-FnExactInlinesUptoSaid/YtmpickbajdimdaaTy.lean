/- The kinds of the types. Conditions: none. -/
import Derived.Test.YtmpickbajdimdaaProg
import Derived.Test.YtmpickbajdimdaaA3
import Derived.KernelRfl
namespace Go.Abs
open Go.Proofs
def TYS : List (Nat × Kd) := [(3, .int .i64),
  (5, .int .u8),
  (9, .str),
  (33, .sl (.st (.pair (.int .i64) (.pair (.str) (.sl (.int .i64)))))),
  (34, .sl (.int .i64)),
  (36, .st (.pair (.int .i64) (.pair (.str) (.sl (.int .i64))))),
  (37, .sl (.st (.pair (.int .i64) (.pair (.str) (.sl (.int .i64)))))),
  (39, .st (.pair (.sl (.st (.pair (.int .i64) (.pair (.str) (.sl (.int .i64)))))) (.pair (.st (.pair (.int .i64) (.pair (.str) (.sl (.int .i64))))) (.sl (.st (.pair (.int .i64) (.pair (.str) (.sl (.int .i64))))))))),
  (42, .sl (.st (.pair (.int .i64) (.pair (.str) (.sl (.int .i64)))))),
  (43, .st (.pair (.int .i64) (.pair (.str) (.sl (.int .i64))))),
  (44, .sl (.st (.pair (.int .i64) (.pair (.str) (.sl (.int .i64)))))),
  (46, .st (.pair (.sl (.st (.pair (.int .i64) (.pair (.str) (.sl (.int .i64)))))) (.pair (.st (.pair (.int .i64) (.pair (.str) (.sl (.int .i64))))) (.sl (.st (.pair (.int .i64) (.pair (.str) (.sl (.int .i64))))))))),
  (50, .sl (.st (.pair (.str) (.sl (.st (.pair (.str) (.sl (.str)))))))),
  (51, .sl (.st (.pair (.str) (.pair (.sl (.str)) (.int .i64))))),
  (52, .sl (.st (.pair (.sl (.st (.pair (.int .i64) (.pair (.str) (.sl (.int .i64)))))) (.pair (.st (.pair (.int .i64) (.pair (.str) (.sl (.int .i64))))) (.sl (.st (.pair (.int .i64) (.pair (.str) (.sl (.int .i64)))))))))),
  (54, .st (.pair (.sl (.st (.pair (.str) (.sl (.st (.pair (.str) (.sl (.str)))))))) (.pair (.sl (.st (.pair (.str) (.pair (.sl (.str)) (.int .i64))))) (.sl (.st (.pair (.sl (.st (.pair (.int .i64) (.pair (.str) (.sl (.int .i64)))))) (.pair (.st (.pair (.int .i64) (.pair (.str) (.sl (.int .i64))))) (.sl (.st (.pair (.int .i64) (.pair (.str) (.sl (.int .i64))))))))))))),
  (57, .sl (.st (.pair (.str) (.sl (.st (.pair (.str) (.sl (.str)))))))),
  (58, .sl (.st (.pair (.str) (.pair (.sl (.str)) (.int .i64))))),
  (59, .sl (.st (.pair (.sl (.st (.pair (.int .i64) (.pair (.str) (.sl (.int .i64)))))) (.pair (.st (.pair (.int .i64) (.pair (.str) (.sl (.int .i64))))) (.sl (.st (.pair (.int .i64) (.pair (.str) (.sl (.int .i64)))))))))),
  (61, .st (.pair (.sl (.st (.pair (.str) (.sl (.st (.pair (.str) (.sl (.str)))))))) (.pair (.sl (.st (.pair (.str) (.pair (.sl (.str)) (.int .i64))))) (.sl (.st (.pair (.sl (.st (.pair (.int .i64) (.pair (.str) (.sl (.int .i64)))))) (.pair (.st (.pair (.int .i64) (.pair (.str) (.sl (.int .i64))))) (.sl (.st (.pair (.int .i64) (.pair (.str) (.sl (.int .i64))))))))))))),
  (69, .sl (.str)),
  (98, .st (.pair (.int .i64) (.pair (.str) (.sl (.int .i64))))),
  (110, .st (.pair (.str) (.pair (.sl (.str)) (.int .i64)))),
  (142, .st (.pair (.int .i64) (.pair (.str) (.sl (.int .i64))))),
  (157, .sl (.st (.pair (.str) (.sl (.str))))),
  (159, .st (.pair (.str) (.sl (.st (.pair (.str) (.sl (.str))))))),
  (161, .st (.pair (.str) (.pair (.sl (.str)) (.int .i64)))),
  (162, .sl (.st (.pair (.str) (.sl (.str))))),
  (164, .st (.pair (.str) (.sl (.st (.pair (.str) (.sl (.str))))))),
  (178, .sl (.int .u8)),
  (188, .st (.pair (.str) (.sl (.str)))),
  (197, .st (.pair (.str) (.sl (.str))))]
theorem TYS_ok : TysOk Try.prog TYS := show (TYS.all (tyCheck Try.prog TYS)) = true by kernel_rfl
theorem MIX : Try.prog.follows .mixedOrders = true := by kernel_rfl
end Go.Abs
