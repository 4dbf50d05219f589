/- Plain rules: the program's side. Conditions: none. -/
import Derived.Test.YtdjdgempjnlkeaaPR
namespace Go.Abs
set_option linter.unusedVariables false
set_option linter.unusedSimpArgs false
section
variable {n : Nat}
theorem index_lit (l : List Ex) (f : (Ex × Unit) → Option Bool) (p : Ex → Bool) (hf : ∀ x ∈ l, f (x, ()) = some (p x)) (hl : l.length ≤ 1048576) : ∀ (k i : Nat), i ≤ l.length → l.length - i < k →
  ∃ z : Int, slices_IndexFunc_Lit_Lit.l0 n l f (l.length : Int) (fun _ => some (-1)) k (i : Int) = some z ∧ decide (z ≥ 0) = (l.drop i).any p
 | 0, i, _, hk => absurd hk (Nat.not_lt_zero _)
 | k + 1, i, hi, hk => by
  by_cases h : i < l.length
  ·conv => enter [1, z, 1, 1]; unfold slices_IndexFunc_Lit_Lit.l0
   simp only [if_pos (dlt h), if_pos (inl' h), getD_in _ h, hf _ (List.getElem_mem h), Option.bind_some]
   rw [List.drop_eq_getElem_cons h, List.any_cons]
   cases hp : p l[i] with
   | true => exact ⟨(i : Int), by rw [if_pos rfl], by simp⟩
   | false =>
    obtain ⟨z, z1, z2⟩ := index_lit l f p hf hl k (i + 1) (by omega) (by omega)
    exact ⟨z, by rw [if_neg (by simp), wr1 (by omega)]; exact z1, by rw [z2, Bool.false_or]⟩
  ·refine ⟨-1, ?_, ?_⟩
   ·conv => lhs; unfold slices_IndexFunc_Lit_Lit.l0
    rw [if_neg (dnl h)]
   ·rw [List.drop_of_length_le (by omega)]
    rfl
theorem contains_lit (hn : 1100000 ≤ n) (l : List Ex) (f : (Ex × Unit) → Option Bool) (p : Ex → Bool) (hf : ∀ x ∈ l, f (x, ()) = some (p x)) (hl : l.length ≤ 1048576) : slices_ContainsFunc_Lit_Lit.F n l f = some (l.any p) := by
 obtain ⟨z, z1, z2⟩ := index_lit (n := n) l f p hf hl n 0 (Nat.zero_le _) (by omega)
 unfold slices_ContainsFunc_Lit_Lit.F slices_IndexFunc_Lit_Lit.F
 rw [show (0 : Int) = ((0 : Nat) : Int) from rfl, z1, Option.bind_some]
 rw [List.drop_zero] at z2
 show some (decide (z ≥ 0)) = _
 rw [z2]
theorem index_exp (l : List Ex) (f : (Ex × Unit) → Option Bool) (p : Ex → Bool) (hf : ∀ x ∈ l, f (x, ()) = some (p x)) (hl : l.length ≤ 1048576) : ∀ (k i : Nat), i ≤ l.length → l.length - i < k →
  ∃ z : Int, slices_IndexFunc_Exp_Exp.l0 n l f (l.length : Int) (fun _ => some (-1)) k (i : Int) = some z ∧ decide (z ≥ 0) = (l.drop i).any p
 | 0, i, _, hk => absurd hk (Nat.not_lt_zero _)
 | k + 1, i, hi, hk => by
  by_cases h : i < l.length
  ·conv => enter [1, z, 1, 1]; unfold slices_IndexFunc_Exp_Exp.l0
   simp only [if_pos (dlt h), if_pos (inl' h), getD_in _ h, hf _ (List.getElem_mem h), Option.bind_some]
   rw [List.drop_eq_getElem_cons h, List.any_cons]
   cases hp : p l[i] with
   | true => exact ⟨(i : Int), by rw [if_pos rfl], by simp⟩
   | false =>
    obtain ⟨z, z1, z2⟩ := index_exp l f p hf hl k (i + 1) (by omega) (by omega)
    exact ⟨z, by rw [if_neg (by simp), wr1 (by omega)]; exact z1, by rw [z2, Bool.false_or]⟩
  ·refine ⟨-1, ?_, ?_⟩
   ·conv => lhs; unfold slices_IndexFunc_Exp_Exp.l0
    rw [if_neg (dnl h)]
   ·rw [List.drop_of_length_le (by omega)]
    rfl
theorem contains_exp (hn : 1100000 ≤ n) (l : List Ex) (f : (Ex × Unit) → Option Bool) (p : Ex → Bool) (hf : ∀ x ∈ l, f (x, ()) = some (p x)) (hl : l.length ≤ 1048576) : slices_ContainsFunc_Exp_Exp.F n l f = some (l.any p) := by
 obtain ⟨z, z1, z2⟩ := index_exp (n := n) l f p hf hl n 0 (Nat.zero_le _) (by omega)
 unfold slices_ContainsFunc_Exp_Exp.F slices_IndexFunc_Exp_Exp.F
 rw [show (0 : Int) = ((0 : Nat) : Int) from rfl, z1, Option.bind_some]
 rw [List.drop_zero] at z2
 show some (decide (z ≥ 0)) = _
 rw [z2]
theorem index_int (l : List Int) (f : (Int × Unit) → Option Bool) (p : Int → Bool) (hf : ∀ x ∈ l, f (x, ()) = some (p x)) (hl : l.length ≤ 1048576) : ∀ (k i : Nat), i ≤ l.length → l.length - i < k →
  ∃ z : Int, slices_IndexFunc_int_int.l0 n l f (l.length : Int) (fun _ => some (-1)) k (i : Int) = some z ∧ decide (z ≥ 0) = (l.drop i).any p
 | 0, i, _, hk => absurd hk (Nat.not_lt_zero _)
 | k + 1, i, hi, hk => by
  by_cases h : i < l.length
  ·conv => enter [1, z, 1, 1]; unfold slices_IndexFunc_int_int.l0
   simp only [if_pos (dlt h), if_pos (inl' h), getD_in _ h, hf _ (List.getElem_mem h), Option.bind_some]
   rw [List.drop_eq_getElem_cons h, List.any_cons]
   cases hp : p l[i] with
   | true => exact ⟨(i : Int), by rw [if_pos rfl], by simp⟩
   | false =>
    obtain ⟨z, z1, z2⟩ := index_int l f p hf hl k (i + 1) (by omega) (by omega)
    exact ⟨z, by rw [if_neg (by simp), wr1 (by omega)]; exact z1, by rw [z2, Bool.false_or]⟩
  ·refine ⟨-1, ?_, ?_⟩
   ·conv => lhs; unfold slices_IndexFunc_int_int.l0
    rw [if_neg (dnl h)]
   ·rw [List.drop_of_length_le (by omega)]
    rfl
theorem contains_int (hn : 1100000 ≤ n) (l : List Int) (f : (Int × Unit) → Option Bool) (p : Int → Bool) (hf : ∀ x ∈ l, f (x, ()) = some (p x)) (hl : l.length ≤ 1048576) : slices_ContainsFunc_int_int.F n l f = some (l.any p) := by
 obtain ⟨z, z1, z2⟩ := index_int (n := n) l f p hf hl n 0 (Nat.zero_le _) (by omega)
 unfold slices_ContainsFunc_int_int.F slices_IndexFunc_int_int.F
 rw [show (0 : Int) = ((0 : Nat) : Int) from rfl, z1, Option.bind_some]
 rw [List.drop_zero] at z2
 show some (decide (z ≥ 0)) = _
 rw [z2]
def putA (r : Ru) (m : List (ByteArray × Bool)) (l : List Int) : List (ByteArray × Bool) := l.foldl (fun m a => if (exA r a).1 = 1 then mput .str .bool m (exA r a).2.1 true else m) m
theorem putA_get (r : Ru) (s : ByteArray) : ∀ (l : List Int) (m : List (ByteArray × Bool)), (mget .str .bool (putA r m l) s).getD false = (varIn r l s || (mget .str .bool m s).getD false)
 | [], m => by
  show (mget .str .bool m s).getD false = (false || _)
  rw [Bool.false_or]
 | a :: l, m => by
  have ih := putA_get r s l (if (exA r a).1 = 1 then mput .str .bool m (exA r a).2.1 true else m)
  show (mget .str .bool (putA r (if (exA r a).1 = 1 then mput .str .bool m (exA r a).2.1 true else m) l) s).getD false = _
  rw [ih]
  have e : varIn r (a :: l) s = (decide ((exA r a).1 = 1 ∧ (exA r a).2.1 = s) || varIn r l s) := rfl
  rw [e]
  by_cases c : (exA r a).1 = 1
  ·rw [if_pos c, sget_put]
   by_cases h : s = (exA r a).2.1
   ·rw [if_pos h, decide_eq_true ⟨c, h.symm⟩]
    simp
   ·rw [if_neg h, decide_eq_false (fun h' => h h'.2.symm), Bool.false_or]
  ·rw [if_neg c, decide_eq_false (fun h' => c h'.1), Bool.false_or]
variable {r : Ru}
theorem im_l2 (t13 : List Ex) (t14 t15 : Int) (A : List Int) (hA : ∀ a ∈ A, 0 ≤ a ∧ a < (r.1.length : Int)) (hl : A.length ≤ 1048576) (K : List (ByteArray × Bool) → Option Bool) : ∀ (k i : Nat) (m : List (ByteArray × Bool)), i ≤ A.length → A.length - i < k →
  impl_isPlain.l2 n t13 t14 t15 A (A.length : Int) r K k (i : Int) m = K (putA r m (A.drop i))
 | 0, i, _, _, hk => absurd hk (Nat.not_lt_zero _)
 | k + 1, i, m, hi, hk => by
  by_cases h : i < A.length
  ·have ha := hA _ (List.getElem_mem h)
   have hg : List.getD r.1 (A[i]).toNat (0, (ByteArray.empty, [])) = exA r A[i] := rfl
   rw [List.drop_eq_getElem_cons h]
   conv => lhs; unfold impl_isPlain.l2
   simp only [getD_in _ h, if_pos (inl' h)]
   rw [if_pos (dlt h), if_pos ha, hg, wr1 (by omega)]
   show _ = K (putA r (if (exA r A[i]).1 = 1 then mput .str .bool m (exA r A[i]).2.1 true else m) (A.drop (i + 1)))
   by_cases c : (exA r A[i]).1 = 1
   ·rw [if_pos (by simp [c]), if_pos c, if_pos ha]
    exact im_l2 t13 t14 t15 A hA hl K k (i + 1) _ (by omega) (by omega)
   ·rw [if_neg (by simp [c]), if_neg c]
    exact im_l2 t13 t14 t15 A hA hl K k (i + 1) _ (by omega) (by omega)
  ·conv => lhs; unfold impl_isPlain.l2
   rw [if_neg (dnl h), List.drop_of_length_le (by omega)]
   rfl
theorem im_l1 (S : SmT r) (hn : 1100000 ≤ n) (hA : ArgsIn r) (K : List (ByteArray × Bool) → Option Bool) : ∀ (k i : Nat) (m : List (ByteArray × Bool)), i ≤ r.2.2.length → r.2.2.length - i < k →
  impl_isPlain.l1 n r.2.2 (r.2.2.length : Int) r K k (i : Int) m = K (putA r m ((r.2.2.drop i).flatMap (·.2.2)))
 | 0, i, _, _, hk => absurd hk (Nat.not_lt_zero _)
 | k + 1, i, m, hi, hk => by
  have hB := S.body
  by_cases h : i < r.2.2.length
  ·have hB2 := S.args _ (List.mem_cons_of_mem _ (List.getElem_mem h))
   rw [List.drop_eq_getElem_cons h]
   conv => lhs; unfold impl_isPlain.l1
   simp only [getD_in _ h, if_pos (inl' h)]
   have e2 := im_l2 (n := n) (r := r) r.2.2 (r.2.2.length : Int) (i : Int) (r.2.2[i]).2.2 (hA.1 _ (List.getElem_mem h)) hB2 (fun there22 => impl_isPlain.l1 n r.2.2 (r.2.2.length : Int) r K k (IntKind.i64.wrap ((i : Int) + 1)) there22) n 0 m (Nat.zero_le _) (by omega)
   rw [show ((0 : Nat) : Int) = 0 from rfl, List.drop_zero] at e2
   rw [if_pos (dlt h), e2, wr1 (by omega), im_l1 S hn hA K k (i + 1) _ (by omega) (by omega), List.flatMap_cons]
   unfold putA
   rw [List.foldl_append]
  ·conv => lhs; unfold impl_isPlain.l1
   rw [if_neg (dnl h), List.drop_of_length_le (by omega)]
   rfl
theorem any_not {α : Type} (p : α → Bool) (l : List α) : l.any (fun x => !p x) = !(l.all p) := by
 rw [List.all_eq_not_any_not, Bool.not_not]
theorem implPlain (hn : big ≤ n) (hb : Kd.bulk KRu r ≤ 1048576) : impl_isPlain.F n r = some (!(Abs.seq (textR r) ByteArray.empty) && plainB r) := by
 have S := smT_of hb
 have hn' : 1100000 ≤ n := by unfold big at hn; omega
 unfold impl_isPlain.F
 rw [hasForm hn hb, Option.bind_some]
 cases c : Abs.seq (textR r) ByteArray.empty with
 | true => rw [if_neg (by simp)]; rfl
 | false =>
  rw [if_pos (by simp)]
  have hf : FormB r := by
   rw [seq_nil] at c
   unfold textR at c
   split at c
   ·exact formB_iff.1 (‹_ ∧ _›).1
   ·exact absurd c (by simp)
  have hA := argsIn_of hf
  have hE := S.exps
  have hB := S.body
  have hH := S.args _ (show r.2.1 ∈ litsOf r from List.mem_cons_self)
  unfold plainB
  by_cases c6 : r.2.2.length ≤ 6
  ·rw [if_pos (by simp; omega), decide_eq_true c6, contains_lit hn' r.2.2 _ (fun l => !decide (l.1 = 1)) (fun x _ => rfl) hB, Option.bind_some, any_not]
   by_cases b1 : (r.2.2.all fun l => decide (l.1 = 1)) = true
   ·rw [b1, if_neg (by simp)]
    unfold impl_isPlain.j0
    rw [contains_exp hn' r.1 _ (fun e => !decide (e.1 = 1 ∨ e.1 = 3)) (fun x _ => by
     unfold impl_isPlain_2.F
     by_cases c1 : x.1 = 1
     ·rw [if_neg (by simp [c1])]; simp [c1]
     ·rw [if_pos (by simp [c1])]; simp [c1]) hE, Option.bind_some, any_not]
    by_cases b2 : (r.1.all fun e => decide (e.1 = 1 ∨ e.1 = 3)) = true
    ·rw [b2, if_neg (by simp)]
     have e1 := fun K => im_l1 (n := n) S hn' hA K n 0 [] (Nat.zero_le _) (by omega)
     simp only [show ((0 : Nat) : Int) = 0 from rfl, List.drop_zero] at e1
     rw [e1]
     show (slices_ContainsFunc_int_int.F n r.2.1.2.2 (fun a24 => (impl_isPlain_3.F n a24.1 r (putA r [] (bodyA r))).bind some)).bind _ = _
     rw [contains_int hn' r.2.1.2.2 _ (fun a => !(!decide ((exA r a).1 = 1) || varIn r (bodyA r) (exA r a).2.1)) (fun a ha => by
      have hg : List.getD r.1 a.toNat (0, (ByteArray.empty, [])) = exA r a := rfl
      have hin := hA.2 a ha
      unfold impl_isPlain_3.F
      simp only [hg, if_pos hin]
      by_cases c1 : (exA r a).1 = 1
      ·rw [if_pos (by simp [c1])]
       show some (!((mget .str .bool (putA r [] (bodyA r)) (exA r a).2.1).getD false)) = _
       rw [putA_get]
       have e0 : (mget .str .bool [] (exA r a).2.1).getD false = false := rfl
       rw [e0, Bool.or_false, decide_eq_true c1]
       simp
      ·rw [if_neg (by simp [c1]), decide_eq_false c1]
       rfl) hH, Option.bind_some, any_not, Bool.not_not]
     rfl
    ·rw [Bool.eq_false_iff.2 b2, if_pos (by simp)]
     rfl
   ·rw [Bool.eq_false_iff.2 b1, if_pos (by simp)]
    rfl
  ·rw [if_neg (by simp; omega), decide_eq_false c6]
   rfl
end
end Go.Abs
