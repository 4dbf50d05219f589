/- Maps as lists: what is found after a store. Conditions: none. -/
import Derived.Test.YtdjdgempjnlkeaaPl
namespace Go.Abs
theorem mput_cons (k e : Kd) (q : k.T × e.T) (l : List (k.T × e.T)) (x : k.T) (v : e.T) : mput k e (q :: l) x v = if keq k x q.1 = true then (x, v) :: l else q :: mput k e l x v := by
 unfold mput mIdx
 rw [List.findIdx?_cons]
 cases hq : keq k x q.1 with
 | true => simp
 | false =>
  simp only [Bool.false_eq_true, if_false]
  cases l.findIdx? (fun q => keq k x q.1) <;> simp
theorem mget_cons (k e : Kd) (q : k.T × e.T) (l : List (k.T × e.T)) (x : k.T) : mget k e (q :: l) x = if keq k x q.1 = true then some q.2 else mget k e l x := by
 unfold mget
 rw [List.find?_cons]
 cases keq k x q.1 <;> simp
theorem keq_str (a b : ByteArray) : keq .str a b = decide (a = b) := rfl
theorem sget_put (e : Kd) (x y : ByteArray) (v : e.T) : ∀ l : List (ByteArray × e.T), mget .str e (mput .str e l x v) y = if y = x then some v else mget .str e l y
 | [] => by
  show mget .str e [(x, v)] y = _
  rw [mget_cons]
  show (if decide (y = x) = true then some v else mget .str e [] y) = _
  by_cases h : y = x <;> simp [h]
 | q :: l => by
  rw [mput_cons]
  show mget .str e (if decide (x = q.1) = true then (x, v) :: l else q :: mput .str e l x v) y = _
  by_cases h : x = q.1
  ·rw [if_pos (by simp [h]), mget_cons, mget_cons]
   show (if decide (y = x) = true then some v else _) = if y = x then some v else if decide (y = q.1) = true then _ else _
   by_cases h2 : y = x
   ·rw [if_pos (by simp [h2]), if_pos h2]
   ·rw [if_neg (by simp [h2]), if_neg h2, if_neg (by rw [← h]; simp [h2])]
  ·rw [if_neg (by simp [h]), mget_cons, mget_cons, sget_put e x y v l]
   show (if decide (y = q.1) = true then _ else _) = if y = x then some v else if decide (y = q.1) = true then _ else _
   by_cases h2 : y = x
   ·rw [if_pos h2, if_neg (by rw [h2]; simp [h]), if_pos h2]
   ·rw [if_neg h2, if_neg h2]
end Go.Abs
