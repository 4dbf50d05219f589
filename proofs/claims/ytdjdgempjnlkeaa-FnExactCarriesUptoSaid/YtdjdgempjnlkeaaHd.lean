/- Functions of the library, by hand. Conditions: none. -/
import Derived.Test.YtdjdgempjnlkeaaLb
import Derived.Test.YtdjdgempjnlkeaaMapC
import Derived.Test.YtdjdgempjnlkeaaShC
namespace Go.Abs
open Go.Proofs
set_option linter.unusedVariables false
namespace maps_Clone_map_string_Exp_string_Exp
def F (n : Nat) (xs : List (ByteArray × Int × ByteArray × List Int)) : Option ((List (ByteArray × Int × ByteArray × List Int)) × List (ByteArray × Int × ByteArray × List Int)) := some (xs, xs)
def ent (n : Nat) : FEnt := ⟨[.ms (.mp (.str) (.st (.pair (.int .i64) (.pair (.str) (.sl (.int .i64)))))) (.own .ro)], [.own (.mp (.str) (.st (.pair (.int .i64) (.pair (.str) (.sl (.int .i64)))))) (.own .ro), .out (.mp (.str) (.st (.pair (.int .i64) (.pair (.str) (.sl (.int .i64))))))], fun v => F n v.1⟩
theorem ok (n : Nat) : EntOk Try.prog 65 (ent n) := ent_clone Try.f65 (by kernel_rfl) (by kernel_rfl) (by kernel_rfl) (fun b es clock w hb => Try.maps_Clone_map_string_Exp_string_Exp b es clock w hb)
end maps_Clone_map_string_Exp_string_Exp
end Go.Abs
