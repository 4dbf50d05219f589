/- Names for a rule's variables that are always the same. Conditions: none. -/
import Derived.Test.YtdjdgempjnlkeaaX2
namespace Go.Abs
def hasT (l : List ByteArray) (s : ByteArray) : Bool := l.any fun x => decide (x = s)
end Go.Abs
