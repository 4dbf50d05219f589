/- Words for what the printed functions answer: loops, lists, numbers. Conditions: none. -/
import Derived.Test.YtgdlicpmbgodjaaGreatDoorRow
namespace Go.Abs
def big:Nat:=4294967296
theorem Z0A (z:Int) (h0:-4611686018427387904 ≤ z) (h1:z ≤ 4611686018427387904):IntKind.i64.wrap z = z:=by
 simp only [IntKind.wrap,IntKind.signed,IntKind.bits]
 simp
 omega
theorem Z8z (a:ByteArray):Abs.seq a a = true:=by simp [Abs.seq]
section
variable {α:Type}
theorem Z0z (pre post:List α) (x d:α):List.getD (pre ++ x :: post) pre.length d = x:=by simp [List.getD]
end
end Go.Abs
