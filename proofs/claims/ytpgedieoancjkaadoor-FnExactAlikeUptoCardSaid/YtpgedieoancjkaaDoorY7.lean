/- Rules that are the same: both sides. Conditions: none. -/
import Derived.Test.YtpgedieoancjkaaDoorY6
namespace Go.Abs
set_option linter.unusedVariables false
set_option linter.unusedSimpArgs false
theorem seq_dec (a b : ByteArray) : Abs.seq a b = decide (a = b) := by
 rw [bt_of a, bt_of b, bt_seq]
 by_cases h : a.data.toList = b.data.toList
 ·rw [h]; simp
 ·have : ¬ bt a.data.toList = bt b.data.toList := fun e => h (by have := congrArg (fun x => x.data.toList) e; simpa [bt_list] using this)
  rw [decide_eq_false this, beq_eq_false_iff_ne]
  exact h
theorem cons_iff {α : Type} {x y : α} {l m : List α} : x :: l = y :: m ↔ x = y ∧ l = m := ⟨fun h => by cases h; exact ⟨rfl, rfl⟩, fun ⟨h1, h2⟩ => by rw [h1, h2]⟩
theorem cons_dec {α : Type} [DecidableEq α] (x y : α) (l m : List α) : decide (x :: l = y :: m) = (decide (x = y) && decide (l = m)) := by
 by_cases h1 : x = y <;> by_cases h2 : l = m <;> simp [h1, h2]
section
variable (n : Nat) (hn : 1100000 ≤ n)
theorem specInts_l (a b : List Int) (hab : a.length = b.length) (ha : a.length ≤ 1048576) : ∀ (k i : Nat), i ≤ a.length → a.length - i < k → spec_l04Ints.l0 n a b (fun _ => some true) k (i : Int) = some (decide (a.drop i = b.drop i))
 | 0, i, _, hk => absurd hk (Nat.not_lt_zero _)
 | k + 1, i, hi, hk => by
  by_cases h : i < a.length
  ·have h2 : i < b.length := by omega
   conv => lhs; unfold spec_l04Ints.l0
   rw [if_pos (dlt h), if_pos (inl' h), if_pos (inl' h2), getD_in _ h, getD_in _ h2, List.drop_eq_getElem_cons h, List.drop_eq_getElem_cons h2]
   by_cases e : a[i] = b[i]
   ·rw [if_neg (by simp [e]), wr1 (by omega), specInts_l a b hab ha k (i + 1) (by omega) (by omega), cons_dec, decide_eq_true e, Bool.true_and]
   ·rw [if_pos (by simp [e]), cons_dec, decide_eq_false e, Bool.false_and]
  ·conv => lhs; unfold spec_l04Ints.l0
   rw [if_neg (dnl h), List.drop_of_length_le (by omega), List.drop_of_length_le (by omega)]
   rfl
theorem specInts_eq (hn : 1100000 ≤ n) (a b : List Int) (ha : a.length ≤ 1048576) : spec_l04Ints.F n a b = some (decide (a = b)) := by
 unfold spec_l04Ints.F
 by_cases hab : a.length = b.length
 ·rw [if_neg (by simp [hab])]
  have := specInts_l n a b hab ha n 0 (Nat.zero_le _) (by omega)
  rw [show ((0 : Nat) : Int) = 0 from rfl, List.drop_zero, List.drop_zero] at this
  exact this
 ·have : ¬ (a.length : Int) = (b.length : Int) := by omega
  rw [if_pos (by simp [this]), decide_eq_false (fun e => hab (by rw [e]))]
theorem implInts_l (a b : List Int) (hab : a.length = b.length) (ha : a.length ≤ 1048576) : ∀ (k i : Nat), i ≤ a.length → a.length - i < k → slices_Equal_int_int.l0 n a b (a.length : Int) (fun _ => some true) k (i : Int) = some (decide (a.drop i = b.drop i))
 | 0, i, _, hk => absurd hk (Nat.not_lt_zero _)
 | k + 1, i, hi, hk => by
  by_cases h : i < a.length
  ·have h2 : i < b.length := by omega
   conv => lhs; unfold slices_Equal_int_int.l0
   rw [if_pos (dlt h), if_pos (inl' h), if_pos (inl' h2), getD_in _ h, getD_in _ h2, List.drop_eq_getElem_cons h, List.drop_eq_getElem_cons h2]
   by_cases e : a[i] = b[i]
   ·rw [if_neg (by simp [e]), wr1 (by omega), implInts_l a b hab ha k (i + 1) (by omega) (by omega), cons_dec, decide_eq_true e, Bool.true_and]
   ·rw [if_pos (by simp [e]), cons_dec, decide_eq_false e, Bool.false_and]
  ·conv => lhs; unfold slices_Equal_int_int.l0
   rw [if_neg (dnl h), List.drop_of_length_le (by omega), List.drop_of_length_le (by omega)]
   rfl
theorem implInts_eq (hn : 1100000 ≤ n) (a b : List Int) (ha : a.length ≤ 1048576) : slices_Equal_int_int.F n a b = some (decide (a = b)) := by
 unfold slices_Equal_int_int.F
 by_cases hab : a.length = b.length
 ·rw [if_neg (by simp [hab])]
  have := implInts_l n a b hab ha n 0 (Nat.zero_le _) (by omega)
  rw [show ((0 : Nat) : Int) = 0 from rfl, List.drop_zero, List.drop_zero] at this
  exact this
 ·have : ¬ (a.length : Int) = (b.length : Int) := by omega
  rw [if_pos (by simp [this]), decide_eq_false (fun e => hab (by rw [e]))]
theorem ex_split (x y : Ex) : decide (x = y) = (decide (x.1 = y.1) && (decide (x.2.1 = y.2.1) && decide (x.2.2 = y.2.2))) := by
 obtain ⟨a, b, c⟩ := x
 obtain ⟨d, e, f⟩ := y
 by_cases h1 : a = d <;> by_cases h2 : b = e <;> by_cases h3 : c = f <;> simp [h1, h2, h3]
theorem specLit_eq (hn : 1100000 ≤ n) (x y : Ex) (hx : x.2.2.length ≤ 1048576) : spec_l04SameLit.F n x y = some (decide (x = y)) := by
 unfold spec_l04SameLit.F
 rw [specInts_eq n hn _ _ hx, seq_dec, ex_split]
 cases decide (x.1 = y.1) <;> cases decide (x.2.1 = y.2.1) <;> cases decide (x.2.2 = y.2.2) <;> rfl
theorem implLit_eq (hn : 1100000 ≤ n) (x y : Ex) (hx : x.2.2.length ≤ 1048576) : impl_sameLit.F n x y = some (decide (x = y)) := by
 unfold impl_sameLit.F
 rw [implInts_eq n hn _ _ hx, seq_dec, ex_split]
 cases decide (x.1 = y.1) <;> cases decide (x.2.1 = y.2.1) <;> cases decide (x.2.2 = y.2.2) <;> rfl
theorem implExp_eq (hn : 1100000 ≤ n) (x y : Ex) (hx : x.2.2.length ≤ 1048576) : impl_sameRule_1.F n x y = some (decide (x = y)) := by
 unfold impl_sameRule_1.F
 rw [implInts_eq n hn _ _ hx, seq_dec, ex_split]
 cases decide (x.1 = y.1) <;> cases decide (x.2.1 = y.2.1) <;> cases decide (x.2.2 = y.2.2) <;> rfl
theorem eqfL_l (a b : List Ex) (f : Ex × Ex × Unit → Option Bool) (hf : ∀ x ∈ a, ∀ y, f (x, y, ()) = some (decide (x = y))) (hab : a.length = b.length) (ha : a.length ≤ 1048576) : ∀ (k i : Nat), i ≤ a.length → a.length - i < k → slices_EqualFunc_Lit_Lit_Lit_Lit.l0 n b f a (a.length : Int) (fun _ => some true) k (i : Int) = some (decide (a.drop i = b.drop i))
 | 0, i, _, hk => absurd hk (Nat.not_lt_zero _)
 | k + 1, i, hi, hk => by
  by_cases h : i < a.length
  ·have h2 : i < b.length := by omega
   conv => lhs; unfold slices_EqualFunc_Lit_Lit_Lit_Lit.l0
   rw [if_pos (dlt h), if_pos (inl' h), if_pos (inl' h2), getD_in _ h, getD_in _ h2, hf _ (List.getElem_mem h), Option.bind_some, List.drop_eq_getElem_cons h, List.drop_eq_getElem_cons h2]
   by_cases e : a[i] = b[i]
   ·rw [if_neg (by simp [e]), wr1 (by omega), eqfL_l a b f hf hab ha k (i + 1) (by omega) (by omega), cons_dec, decide_eq_true e, Bool.true_and]
   ·rw [if_pos (by simp [e]), cons_dec, decide_eq_false e, Bool.false_and]
  ·conv => lhs; unfold slices_EqualFunc_Lit_Lit_Lit_Lit.l0
   rw [if_neg (dnl h), List.drop_of_length_le (by omega), List.drop_of_length_le (by omega)]
   rfl
theorem eqfL_eq (hn : 1100000 ≤ n) (a b : List Ex) (f : Ex × Ex × Unit → Option Bool) (hf : ∀ x ∈ a, ∀ y, f (x, y, ()) = some (decide (x = y))) (ha : a.length ≤ 1048576) : slices_EqualFunc_Lit_Lit_Lit_Lit.F n a b f = some (decide (a = b)) := by
 unfold slices_EqualFunc_Lit_Lit_Lit_Lit.F
 by_cases hab : a.length = b.length
 ·rw [if_neg (by simp [hab])]
  have := eqfL_l n a b f hf hab ha n 0 (Nat.zero_le _) (by omega)
  rw [show ((0 : Nat) : Int) = 0 from rfl, List.drop_zero, List.drop_zero] at this
  exact this
 ·have : ¬ (a.length : Int) = (b.length : Int) := by omega
  rw [if_pos (by simp [this]), decide_eq_false (fun e => hab (by rw [e]))]
theorem eqfE_l (a b : List Ex) (f : Ex × Ex × Unit → Option Bool) (hf : ∀ x ∈ a, ∀ y, f (x, y, ()) = some (decide (x = y))) (hab : a.length = b.length) (ha : a.length ≤ 1048576) : ∀ (k i : Nat), i ≤ a.length → a.length - i < k → slices_EqualFunc_Exp_Exp_Exp_Exp.l0 n b f a (a.length : Int) (fun _ => some true) k (i : Int) = some (decide (a.drop i = b.drop i))
 | 0, i, _, hk => absurd hk (Nat.not_lt_zero _)
 | k + 1, i, hi, hk => by
  by_cases h : i < a.length
  ·have h2 : i < b.length := by omega
   conv => lhs; unfold slices_EqualFunc_Exp_Exp_Exp_Exp.l0
   rw [if_pos (dlt h), if_pos (inl' h), if_pos (inl' h2), getD_in _ h, getD_in _ h2, hf _ (List.getElem_mem h), Option.bind_some, List.drop_eq_getElem_cons h, List.drop_eq_getElem_cons h2]
   by_cases e : a[i] = b[i]
   ·rw [if_neg (by simp [e]), wr1 (by omega), eqfE_l a b f hf hab ha k (i + 1) (by omega) (by omega), cons_dec, decide_eq_true e, Bool.true_and]
   ·rw [if_pos (by simp [e]), cons_dec, decide_eq_false e, Bool.false_and]
  ·conv => lhs; unfold slices_EqualFunc_Exp_Exp_Exp_Exp.l0
   rw [if_neg (dnl h), List.drop_of_length_le (by omega), List.drop_of_length_le (by omega)]
   rfl
theorem eqfE_eq (hn : 1100000 ≤ n) (a b : List Ex) (f : Ex × Ex × Unit → Option Bool) (hf : ∀ x ∈ a, ∀ y, f (x, y, ()) = some (decide (x = y))) (ha : a.length ≤ 1048576) : slices_EqualFunc_Exp_Exp_Exp_Exp.F n a b f = some (decide (a = b)) := by
 unfold slices_EqualFunc_Exp_Exp_Exp_Exp.F
 by_cases hab : a.length = b.length
 ·rw [if_neg (by simp [hab])]
  have := eqfE_l n a b f hf hab ha n 0 (Nat.zero_le _) (by omega)
  rw [show ((0 : Nat) : Int) = 0 from rfl, List.drop_zero, List.drop_zero] at this
  exact this
 ·have : ¬ (a.length : Int) = (b.length : Int) := by omega
  rw [if_pos (by simp [this]), decide_eq_false (fun e => hab (by rw [e]))]
theorem ru_split (x y : Ru) : decide (x = y) = (decide (x.1 = y.1) && (decide (x.2.1 = y.2.1) && decide (x.2.2 = y.2.2))) := by
 obtain ⟨a, b, c⟩ := x
 obtain ⟨d, e, f⟩ := y
 by_cases h1 : a = d <;> by_cases h2 : b = e <;> by_cases h3 : c = f <;> simp [h1, h2, h3]
theorem implSame_eq (hn : 1100000 ≤ n) (a b : Ru) (S : SmR a) : impl_sameRule.F n a b = some (decide (a = b)) := by
 unfold impl_sameRule.F
 rw [implLit_eq n hn _ _ (S.args _ List.mem_cons_self), eqfL_eq n hn _ _ _ (fun x hx y => by
  show ((impl_sameLit.F n x y).bind some) = _
  rw [implLit_eq n hn x y (S.args _ (List.mem_cons_of_mem _ hx))]
  rfl) S.body, eqfE_eq n hn _ _ _ (fun x hx y => by
  show ((impl_sameRule_1.F n x y).bind some) = _
  rw [implExp_eq n hn x y (S.kids _ hx)]
  rfl) S.exps, ru_split]
 cases decide (a.1 = b.1) <;> cases decide (a.2.1 = b.2.1) <;> cases decide (a.2.2 = b.2.2) <;> rfl
theorem specSame_l1 (hn : 1100000 ≤ n) (a b : Ru) (S : SmR a) (hab : a.1.length = b.1.length) (K : Unit → Option Bool) : ∀ (k i : Nat), i ≤ a.1.length → a.1.length - i < k → spec_l04SameRule.l1 n a b K k (i : Int) = if a.1.drop i = b.1.drop i then K () else some false
 | 0, i, _, hk => absurd hk (Nat.not_lt_zero _)
 | k + 1, i, hi, hk => by
  have hE := S.exps
  by_cases h : i < a.1.length
  ·have h2 : i < b.1.length := by omega
   conv => lhs; unfold spec_l04SameRule.l1
   simp only [getD_in _ h, getD_in _ h2, if_pos (inl' h), if_pos (inl' h2)]
   rw [if_pos (dlt h), specInts_eq n hn _ _ (S.kids _ (List.getElem_mem h)), Option.bind_some, seq_dec, wr1 (by omega), specSame_l1 hn a b S hab K k (i + 1) (by omega) (by omega), List.drop_eq_getElem_cons h, List.drop_eq_getElem_cons h2]
   have e := ex_split a.1[i] b.1[i]
   have hc : (a.1[i] :: a.1.drop (i + 1) = b.1[i] :: b.1.drop (i + 1)) ↔ (a.1[i] = b.1[i] ∧ a.1.drop (i + 1) = b.1.drop (i + 1)) := cons_iff
   by_cases c : a.1[i] = b.1[i]
   ·rw [decide_eq_true c] at e
    have e' := e.symm
    simp only [Bool.and_eq_true, decide_eq_true_eq] at e'
    rw [if_pos (by simp [e'.1]), if_pos (by simp [e'.2.1]), if_neg (by simp [e'.2.2])]
    by_cases d : a.1.drop (i + 1) = b.1.drop (i + 1)
    ·rw [if_pos d, if_pos (hc.2 ⟨c, d⟩)]
    ·rw [if_neg d, if_neg (fun h => d (hc.1 h).2)]
   ·rw [decide_eq_false c] at e
    rw [if_neg (fun h => c (hc.1 h).1)]
    revert e
    cases decide ((a.1[i]).1 = (b.1[i]).1) <;> cases decide ((a.1[i]).2.1 = (b.1[i]).2.1) <;> cases decide ((a.1[i]).2.2 = (b.1[i]).2.2) <;> intro e <;> first | rfl | (simp at e)
  ·conv => lhs; unfold spec_l04SameRule.l1
   rw [if_neg (dnl h), List.drop_of_length_le (by omega), List.drop_of_length_le (by omega), if_pos rfl]
theorem specSame_l2 (hn : 1100000 ≤ n) (a b : Ru) (S : SmR a) (hab : a.2.2.length = b.2.2.length) (K : Unit → Option Bool) : ∀ (k i : Nat), i ≤ a.2.2.length → a.2.2.length - i < k → spec_l04SameRule.l2 n a b K k (i : Int) = if a.2.2.drop i = b.2.2.drop i then K () else some false
 | 0, i, _, hk => absurd hk (Nat.not_lt_zero _)
 | k + 1, i, hi, hk => by
  have hB := S.body
  by_cases h : i < a.2.2.length
  ·have h2 : i < b.2.2.length := by omega
   conv => lhs; unfold spec_l04SameRule.l2
   rw [if_pos (dlt h), if_pos (inl' h), if_pos (inl' h2), getD_in _ h, getD_in _ h2, specLit_eq n hn _ _ (S.args _ (List.mem_cons_of_mem _ (List.getElem_mem h))), Option.bind_some, wr1 (by omega), specSame_l2 hn a b S hab K k (i + 1) (by omega) (by omega), List.drop_eq_getElem_cons h, List.drop_eq_getElem_cons h2]
   have hc : (a.2.2[i] :: a.2.2.drop (i + 1) = b.2.2[i] :: b.2.2.drop (i + 1)) ↔ (a.2.2[i] = b.2.2[i] ∧ a.2.2.drop (i + 1) = b.2.2.drop (i + 1)) := cons_iff
   by_cases c : a.2.2[i] = b.2.2[i]
   ·rw [if_neg (by simp [c])]
    by_cases d : a.2.2.drop (i + 1) = b.2.2.drop (i + 1)
    ·rw [if_pos d, if_pos (hc.2 ⟨c, d⟩)]
    ·rw [if_neg d, if_neg (fun h => d (hc.1 h).2)]
   ·rw [if_pos (by simp [c]), if_neg (fun h => c (hc.1 h).1)]
  ·conv => lhs; unfold spec_l04SameRule.l2
   rw [if_neg (dnl h), List.drop_of_length_le (by omega), List.drop_of_length_le (by omega), if_pos rfl]
theorem specSame_eq (hn : 1100000 ≤ n) (a b : Ru) (S : SmR a) : spec_l04SameRule.F n a b = some (decide (a = b)) := by
 have hE := S.exps
 have hB := S.body
 unfold spec_l04SameRule.F
 have hr := ru_split a b
 by_cases h1 : a.1.length = b.1.length
 ·rw [if_pos (by simp [h1])]
  by_cases h2 : a.2.2.length = b.2.2.length
  ·rw [if_pos (by simp [h2]), specLit_eq n hn _ _ (S.args _ List.mem_cons_self), Option.bind_some]
   by_cases c : a.2.1 = b.2.1
   ·rw [if_neg (by simp [c])]
    unfold spec_l04SameRule.j0
    have e1 := fun K => specSame_l1 n hn a b S h1 K n 0 (Nat.zero_le _) (by omega)
    have e2 := fun K => specSame_l2 n hn a b S h2 K n 0 (Nat.zero_le _) (by omega)
    simp only [show ((0 : Nat) : Int) = 0 from rfl, List.drop_zero] at e1 e2
    rw [e1, e2, hr]
    by_cases d1 : a.1 = b.1 <;> by_cases d2 : a.2.2 = b.2.2 <;> simp [c, d1, d2]
   ·rw [if_pos (by simp [c]), hr]
    simp [c]
  ·have : ¬ (a.2.2.length : Int) = (b.2.2.length : Int) := by omega
   rw [if_neg (by simp [this]), decide_eq_false (fun e => h2 (by rw [e]))]
 ·have : ¬ (a.1.length : Int) = (b.1.length : Int) := by omega
  rw [if_neg (by simp [this]), decide_eq_false (fun e => h1 (by rw [e]))]
end
end Go.Abs
