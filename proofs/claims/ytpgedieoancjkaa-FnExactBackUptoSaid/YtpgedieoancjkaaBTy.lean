/- The kinds of the types. Conditions: none. -/
import Derived.Test.YtpgedieoancjkaaProg
import Derived.Test.YtpgedieoancjkaaA4
import Derived.KernelRfl
namespace Go.Abs.B
open Go.Proofs
def TYS : List (Nat × Kd) := [(9, .str),
  (31, .sl (.str)),
  (36, .st (.sl (.str)))]
theorem TYS_ok : TysOk Try.prog TYS := show (TYS.all (tyCheck Try.prog TYS)) = true by kernel_rfl
theorem MIX : Try.prog.follows .mixedOrders = true := by kernel_rfl
theorem CO (tb : List (Nat × FEnt)) : CtxOk (mkCtx Try.prog TYS tb) := mkCtx_cok TYS_ok
theorem MX (tb : List (Nat × FEnt)) : (mkCtx Try.prog TYS tb).P.follows .mixedOrders = true := MIX
end Go.Abs.B
