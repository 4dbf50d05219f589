/- The functions, and that a call of each comes to it. Conditions: none. -/
import Derived.Test.YtpgedieoancjkaaDoorF0
namespace Go.Abs
open Go.Proofs
set_option linter.unusedVariables false
namespace laws_markRule
end laws_markRule
namespace laws_heldIntS
end laws_heldIntS
namespace laws_heldExpS
end laws_heldExpS
namespace laws_heldLit
end laws_heldLit
namespace laws_heldLitS
end laws_heldLitS
namespace laws_heldRule
end laws_heldRule
namespace laws_FnExactCanon
end laws_FnExactCanon
end Go.Abs
