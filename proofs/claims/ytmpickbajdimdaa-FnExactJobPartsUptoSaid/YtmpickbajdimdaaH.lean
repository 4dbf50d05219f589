/- What the laws' helpers answer. Conditions: none. -/
import Derived.Test.YtmpickbajdimdaaF0
import Derived.Test.YtmpickbajdimdaaPl
namespace Go.Abs
set_option linter.unusedVariables false
set_option linter.unusedSimpArgs false

end Go.Abs
