/- A rule's text is not much longer than what the rule holds. Conditions: none. -/
import Derived.Test.YtdjdgempjnlkeaaX4
namespace Go.Abs
def bx (e : Ex) : Nat := 3 + e.2.1.size + e.2.2.length
def bxR (r : Ru) : Nat := (r.1.map bx).sum + bx r.2.1 + (r.2.2.map bx).sum
theorem len_data (s : ByteArray) : s.data.toList.length = s.size := rfl
theorem sum_two (E : List Ex) : ∀ l : List Nat, (l.map fun k => if sumK (kindAt E k) = true then 2 else 0).sum ≤ 2 * l.length
 | [] => Nat.zero_le _
 | k :: l => by
  have := sum_two E l
  simp only [List.map_cons, List.sum_cons, List.length_cons]
  split <;> omega
theorem own_le (E : List Ex) (e : Ex) : ownN E e ≤ 3 * bx e := by
 unfold ownN bx
 split
 ·omega
 ·split
  ·rw [len_data]; omega
  ·split
   ·have := sum_two E (kidsN e)
    have hk : (kidsN e).length = e.2.2.length := List.length_map ..
    omega
   ·rw [len_data]; omega
theorem sumTo_map (f : Ex → Nat) (E : List Ex) : sumTo (fun i => f (E.getD i Ex0)) E.length = (E.map f).sum := by
 have key : ∀ (pre post : List Ex), sumTo (fun i => f ((pre ++ post).getD i Ex0)) pre.length = (pre.map f).sum := by
  intro pre
  induction hn : pre.length generalizing pre with
  | zero => intro post; rw [List.length_eq_zero_iff.1 hn]; rfl
  | succ n ih =>
   intro post
   obtain ⟨a, x, rfl⟩ : ∃ a x, pre = a ++ [x] := ⟨pre.dropLast, pre.getLast (by intro e; rw [e] at hn; cases hn), (List.dropLast_concat_getLast _).symm⟩
   have ha : a.length = n := by simpa using hn
   have := ih a ha ([x] ++ post)
   rw [List.append_assoc]
   simp only [sumTo]
   have hg : (a ++ ([x] ++ post)).getD n Ex0 = x := by simp [ha]
   rw [this, hg]
   simp
 have := key E []
 simpa using this
theorem sum_le3 (E : List Ex) : ∀ l : List Ex, (l.map (ownN E)).sum ≤ 3 * (l.map bx).sum
 | [] => Nat.le_refl _
 | e :: l => by
  have h1 := own_le E e
  have h2 := sum_le3 E l
  simp only [List.map_cons, List.sum_cons]
  omega
theorem lit_le (E : List Ex) (l : Ex) : (litB E l).length ≤ 3 * bx l + ((kidsN l).map fun a => (textOf E a).length).sum := by
 unfold litB
 split
 ·split
  ·rename_i a b hk
   simp only [List.map_cons, List.map_nil, List.sum_cons, List.sum_nil, List.length_append, List.length_cons, List.length_nil, hk, len_data, bx]
   omega
  ·exact Nat.zero_le _
 ·have hk : (kidsN l).length = l.2.2.length := List.length_map ..
  simp only [List.length_append, List.length_cons, List.length_nil, join_len, List.map_map, len_data, bx]
  show _ + _ + _ + (((kidsN l).map (fun a => (textOf E a).length)).sum + _) + _ ≤ _
  have h1 : (if l.1 = 2 then [33] else ([] : By)).length ≤ 1 := by split <;> simp
  rw [List.length_map, hk]
  omega
theorem lits_le (E : List Ex) : ∀ ls : List Ex, ((ls.map (litB E)).map List.length).sum ≤ 3 * (ls.map bx).sum + ((ls.flatMap kidsN).map fun a => (textOf E a).length).sum
 | [] => Nat.zero_le _
 | l :: ls => by
  have h1 := lit_le E l
  have h2 := lits_le E ls
  simp only [List.flatMap_cons, List.map_append, List.sum_append, List.map_cons, List.sum_cons]
  omega
theorem sum_ge3 : ∀ l : List Ex, 3 * l.length ≤ (l.map bx).sum
 | [] => Nat.zero_le _
 | e :: l => by
  have := sum_ge3 l
  simp only [List.map_cons, List.sum_cons, List.length_cons, bx] at this ⊢
  omega
theorem rule_le {r : Ru} (h : FormR r) : (ruleB r).length ≤ 7 * bxR r + 10 := by
 have h1 := lits_le r.1 (litsOf r)
 have h2 := h.tree.total
 have h3 : sumTo (fun i => ownN r.1 (r.1.getD i Ex0)) r.1.length = (r.1.map (ownN r.1)).sum := sumTo_map (ownN r.1) r.1
 have h4 := sum_le3 r.1 r.1
 have h5 := sum_ge3 r.2.2
 unfold argsOfR litsOf at h2
 unfold litsOf at h1
 unfold ruleB bxR
 simp only [List.map_cons, List.sum_cons] at h1
 simp only [List.length_append, List.length_cons, List.length_nil]
 by_cases hb : r.2.2 = []
 ·rw [if_pos hb]
  rw [hb] at h1 h2 ⊢
  simp only [List.map_nil, List.sum_nil, List.length_nil] at h1 h2 ⊢
  omega
 ·rw [if_neg hb]
  simp only [List.length_append, join_len, List.length_cons, List.length_nil, List.length_map]
  omega
end Go.Abs
