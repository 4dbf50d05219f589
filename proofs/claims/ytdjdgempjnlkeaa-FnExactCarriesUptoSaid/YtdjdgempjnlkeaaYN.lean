/- Texts as rows of bytes, numbers as texts. Conditions: none. -/
import Derived.Test.YtdjdgempjnlkeaaPl
import Derived.Test.YtdjdgempjnlkeaaF0
import Derived.Lib.AtoiTie
namespace Go.Abs
set_option linter.unusedVariables false
set_option linter.unusedSimpArgs false
def bt (l : List UInt8) : ByteArray := ⟨l.toArray⟩
theorem bt_size (l : List UInt8) : ByteArray.size (bt l) = l.length := by simp [bt, ByteArray.size]
theorem bt_list (l : List UInt8) : (bt l).data.toList = l := by simp [bt]
theorem bt_of (s : ByteArray) : s = bt s.data.toList := by cases s; simp [bt]
theorem bt_inj {a b : List UInt8} (h : bt a = bt b) : a = b := by rw [← bt_list a, ← bt_list b, h]
theorem bt_extract (l : List UInt8) (i j : Nat) : ByteArray.extract (bt l) i j = bt ((l.take j).drop i) := by
 rw [bt_of (ByteArray.extract (bt l) i j)]
 congr 1
 rw [ByteArray.data_extract, Array.toList_extract, List.extract_eq_take_drop, List.drop_take, bt_list]
theorem bt_seq (a b : List UInt8) : Abs.seq (bt a) (bt b) = (a == b) := by
 unfold Abs.seq
 rw [Lib.toList_data, Lib.toList_data, bt_list, bt_list]
theorem bt_append (a b : List UInt8) : bt a ++ bt b = bt (a ++ b) := by
 rw [bt_of (bt a ++ bt b)]
 congr 1
theorem l01Between_eq (n : Nat) (a b c : Int) : spec_l01Between.F n a b c = some (decide (b ≤ a ∧ a ≤ c)) := by
 unfold spec_l01Between.F
 by_cases h : b ≤ a
 ·rw [if_pos (by simpa using h)]
  simp [h]
 ·rw [if_neg (by simpa using h)]
  simp [h]
end Go.Abs
