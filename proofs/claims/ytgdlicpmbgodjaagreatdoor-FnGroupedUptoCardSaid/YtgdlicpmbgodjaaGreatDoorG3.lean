/- The key of a row: both sides alike. Conditions: none. -/
import Derived.Test.YtgdlicpmbgodjaaGreatDoorG2
namespace Go.Abs
set_option linter.unusedVariables false
set_option linter.unusedSimpArgs false
def placesIn (by_ : List Int) (m : Nat) : Prop := ∀ k ∈ by_, 0 ≤ k ∧ k < (m : Int)
theorem l19Key_l (n : Nat) (by_ : List Int) (t u : Tu) (hb : by_.length ≤ 1048576) (hp : placesIn by_ t.length) (K : Tu → Option Tu) : ∀ (k i : Nat), i ≤ by_.length → by_.length - i < k →
  spec_l19Key.l0 n by_ t u K k (i : Int) (keyOf (by_.take i) t) = K (keyOf by_ t)
 | 0, i, hi, hk => absurd hk (Nat.not_lt_zero _)
 | k + 1, i, hi, hk => by
  by_cases h : i < by_.length
  ·have hin := hp _ (List.getElem_mem h)
   have hl : (keyOf (by_.take i) t).length ≤ i := by unfold keyOf; rw [List.length_map, List.length_take]; omega
   conv => lhs; unfold spec_l19Key.l0
   rw [if_pos (dlt h), if_pos (inl' h), getD_in _ h, if_pos hin, if_pos (by simp [lim]; omega), wr1 (by omega)]
   have e : keyOf (by_.take i) t ++ [List.getD t (Int.toNat by_[i]) ByteArray.empty] = keyOf (by_.take (i + 1)) t := by
    unfold keyOf
    rw [List.take_succ_eq_append_getElem h, List.map_append]
    rfl
   rw [e]
   exact l19Key_l n by_ t u hb hp K k (i + 1) (by omega) (by omega)
  ·conv => lhs; unfold spec_l19Key.l0
   rw [if_neg (dnl h), List.take_of_length_le (by omega)]
theorem l19Key_eq (n : Nat) (by_ : List Int) (t : Tu) (hb : by_.length ≤ 1048576) (hn : by_.length < n) (hp : placesIn by_ t.length) : spec_l19Key.F n t by_ = some (keyOf by_ t) := by
 unfold spec_l19Key.F
 have := l19Key_l n by_ t [] hb hp (fun x => some x) n 0 (Nat.zero_le _) (by omega)
 rw [show ((0 : Nat) : Int) = 0 from rfl, List.take_zero] at this
 exact this
end Go.Abs
