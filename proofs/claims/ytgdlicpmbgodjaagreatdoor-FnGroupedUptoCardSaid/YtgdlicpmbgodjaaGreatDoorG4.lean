/- The groups in order of first appearance. Conditions: none. -/
import Derived.Test.YtgdlicpmbgodjaaGreatDoorG3
namespace Go.Abs
set_option linter.unusedVariables false
set_option linter.unusedSimpArgs false
abbrev Gr : Type := (List ByteArray) × List (List ByteArray)
theorem implKey_l (n : Nat) (a8 : List Int) (a9 : List Tu) (a10 a11 : Int) (by_ : List Int) (gs : List Gr) (t : Tu) (hb : by_.length ≤ 1048576) (hp : placesIn by_ t.length) (K : Tu → Option (List Gr)) : ∀ (k i : Nat), i ≤ by_.length → by_.length - i < k →
  impl_groupsOf.l1 n a8 a9 a10 a11 by_ (by_.length : Int) gs t K k (i : Int) (keyOf (by_.take i) t) = K (keyOf by_ t)
 | 0, i, hi, hk => absurd hk (Nat.not_lt_zero _)
 | k + 1, i, hi, hk => by
  by_cases h : i < by_.length
  ·have hin := hp _ (List.getElem_mem h)
   have hl : (keyOf (by_.take i) t).length ≤ i := by unfold keyOf; rw [List.length_map, List.length_take]; omega
   conv => lhs; unfold impl_groupsOf.l1
   rw [if_pos (dlt h), if_pos (inl' h), getD_in _ h, if_pos hin, if_pos (by simp [lim]; omega), wr1 (by omega)]
   have e : keyOf (by_.take i) t ++ [List.getD t (Int.toNat by_[i]) ByteArray.empty] = keyOf (by_.take (i + 1)) t := by
    unfold keyOf
    rw [List.take_succ_eq_append_getElem h, List.map_append]
    rfl
   rw [e]
   exact implKey_l n a8 a9 a10 a11 by_ gs t hb hp K k (i + 1) (by omega) (by omega)
  ·conv => lhs; unfold impl_groupsOf.l1
   rw [if_neg (dnl h), List.take_of_length_le (by omega)]
def layG (key t : Tu) : List Gr → List Gr
 | [] => [(key, [t])]
 | g :: r => if g.1 = key then (g.1, g.2 ++ [t]) :: r else g :: layG key t r
def posG (key : Tu) : List Gr → Nat
 | [] => 0
 | g :: r => if g.1 = key then 0 else posG key r + 1
theorem indexG_l (n : Nat) (gs : List Gr) (key : Tu) (hk : key.length ≤ 4294967296) (hg : gs.length ≤ 1048576) (hs : ∀ g ∈ gs, g.1.length ≤ 4294967296 ∧ g.1.length < n) (K : Unit → Option Int) : ∀ (k i : Nat), i ≤ gs.length → gs.length - i < k →
  slices_IndexFunc_Group_Group.l0 n gs (fun a19 => (impl_groupsOf_1.F n a19.1 key).bind some) (gs.length : Int) K k (i : Int) = if i + posG key (gs.drop i) < gs.length then some ((i + posG key (gs.drop i) : Nat) : Int) else K ()
 | 0, i, hi, hk' => absurd hk' (Nat.not_lt_zero _)
 | k + 1, i, hi, hk' => by
  by_cases h : i < gs.length
  ·have h1 := hs _ (List.getElem_mem h)
   conv => lhs; unfold slices_IndexFunc_Group_Group.l0
   rw [if_pos (dlt h), if_pos (inl' h), getD_in _ h, wr1 (by omega)]
   have hq : impl_groupsOf_1.F n gs[i] key = some (decide ((gs[i]).1 = key)) := by
    unfold impl_groupsOf_1.F
    rw [slEqual_eq n _ key h1.1 h1.2]
    rfl
   rw [hq]
   simp only [Option.bind_some]
   rw [List.drop_eq_getElem_cons h]
   unfold posG
   by_cases e : (gs[i]).1 = key
   ·rw [if_pos (by simp [e]), if_pos e, if_pos (by omega)]
    rfl
   ·rw [if_neg (by simp [e]), if_neg e, indexG_l n gs key hk hg hs K k (i + 1) (by omega) (by omega)]
    rw [show i + 1 + posG key (gs.drop (i + 1)) = i + (posG key (gs.drop (i + 1)) + 1) by omega]
  ·conv => lhs; unfold slices_IndexFunc_Group_Group.l0
   rw [if_neg (dnl h), if_neg (by omega)]
end Go.Abs
