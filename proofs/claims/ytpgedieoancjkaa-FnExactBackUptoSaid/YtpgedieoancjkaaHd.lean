/- Functions of the library, by hand. Conditions: none. -/
import Derived.Test.YtpgedieoancjkaaTy
import Derived.Test.YtpgedieoancjkaaBkE
namespace Go.Abs
open Go.Proofs
set_option linter.unusedVariables false
namespace impl_Back
def F (n : Nat) (xs : List CHK.T) : Option (List CHK.T) := backF xs
def ent (n : Nat) : FEnt := ⟨[.ro (.sl CHK)], [.own (.sl CHK) (.own mB)], fun v => F n v.1⟩
theorem ok (n : Nat) : EntOk Try.prog 7 (ent n) := ent_back
end impl_Back

end Go.Abs
