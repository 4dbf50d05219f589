/- The kinds of the types. Conditions: none. -/
import Derived.Test.YtmpickbajdimdaaProg
import Derived.Test.YtmpickbajdimdaaA3
import Derived.KernelRfl
namespace Go.Abs
open Go.Proofs
def TYS : List (Nat × Kd) := [(4, .bool),
  (9, .str)]
theorem TYS_ok : TysOk Try.prog TYS := show (TYS.all (tyCheck Try.prog TYS)) = true by kernel_rfl
theorem MIX : Try.prog.follows .mixedOrders = true := by kernel_rfl
end Go.Abs
