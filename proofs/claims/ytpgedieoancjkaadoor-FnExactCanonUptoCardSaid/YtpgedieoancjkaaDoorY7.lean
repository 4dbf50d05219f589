/- Rules that are the same: both sides. Conditions: none. -/
import Derived.Test.YtpgedieoancjkaaDoorY6
namespace Go.Abs
set_option linter.unusedVariables false
set_option linter.unusedSimpArgs false
theorem seq_dec (a b : ByteArray) : Abs.seq a b = decide (a = b) := by
 rw [bt_of a, bt_of b, bt_seq]
 by_cases h : a.data.toList = b.data.toList
 ·rw [h]; simp
 ·have : ¬ bt a.data.toList = bt b.data.toList := fun e => h (by have := congrArg (fun x => x.data.toList) e; simpa [bt_list] using this)
  rw [decide_eq_false this, beq_eq_false_iff_ne]
  exact h
end Go.Abs
