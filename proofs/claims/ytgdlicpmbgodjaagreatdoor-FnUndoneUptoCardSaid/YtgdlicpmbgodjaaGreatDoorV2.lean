/- Rows that are there: the program. Conditions: none. -/
import Derived.Test.YtgdlicpmbgodjaaGreatDoorV1
namespace Go.Abs
set_option linter.unusedVariables false
set_option linter.unusedSimpArgs false
theorem Z42 (n:Nat) (a b:List ByteArray) (ha:a.length ≤ 4294967296) (hn:a.length < n):impl_sameTuple.F n a b = some (decide (a = b)):=by
 unfold impl_sameTuple.F; rw [ZA1 n a b ha hn]; rfl
def inL (t:List ByteArray) (rows:List (List ByteArray)):Bool:=rows.any fun x=>decide (x = t)
theorem Z1C {t:List ByteArray} {rows:List (List ByteArray)}:inL t rows = true ↔ t ∈ rows:=by
 unfold inL;rw [List.any_eq_true]
 constructor
 ·rintro ⟨x,hx,e⟩
  simp only [decide_eq_true_eq] at e;exact e ▸ hx
 ·intro h
  exact ⟨t,h,by simp⟩
theorem Z9T (t x:List ByteArray) (r:List (List ByteArray)):inL t (x :: r) = (decide (x = t) || inL t r):=rfl
theorem Z9s (n:Nat) (rows:List (List ByteArray)) (f:List ByteArray × Unit → Option Bool) (q:List ByteArray → Bool) (hf:∀ x ∈ rows,f (x,()) = some (q x)) (hr:rows.length ≤ 4294967296) (K:Unit → Option Int):∀ (k i:Nat),i ≤ rows.length → rows.length - i < k →
  (∃ j,i ≤ j ∧ j < rows.length ∧ (∃ x ∈ rows.drop i,q x = true) ∧ slices_IndexFunc_Tuple_Tuple.l0 n rows f (rows.length:Int) K k (i:Int) = some (j:Int)) ∨ ((∀ x ∈ rows.drop i,q x = false) ∧ slices_IndexFunc_Tuple_Tuple.l0 n rows f (rows.length:Int) K k (i:Int) = K ())
 | 0,i,hi,hk=>absurd hk (Nat.not_lt_zero _)
 | k + 1,i,hi,hk=>by
  by_cases h:i < rows.length
  ·have step:slices_IndexFunc_Tuple_Tuple.l0 n rows f (rows.length:Int) K (k + 1) (i:Int) = if q rows[i] = true then some (i:Int) else slices_IndexFunc_Tuple_Tuple.l0 n rows f (rows.length:Int) K k ((i + 1:Nat):Int):=by
    conv=>lhs; unfold slices_IndexFunc_Tuple_Tuple.l0
    rw [if_pos (dlt h),if_pos (inl' h),Z0c _ h,hf _ (List.getElem_mem h),wr1 (by omega)]
    rfl
   rw [step,List.drop_eq_getElem_cons h];cases e:q rows[i] with
   | true=>exact .inl ⟨i,Nat.le_refl _,h,⟨_,List.mem_cons_self,e⟩,by simp⟩
   | false =>
    rw [if_neg (by simp)];rcases Z9s n rows f q hf hr K k (i + 1) (by omega) (by omega) with ⟨j,h1,h2,⟨x,h3,h4⟩,h5⟩ | ⟨h1,h2⟩
    ·exact .inl ⟨j,by omega,h2,⟨x,List.mem_cons_of_mem _ h3,h4⟩,h5⟩
    ·refine .inr ⟨fun x hx=>?_,h2⟩
     rcases List.mem_cons.1 hx with rfl | hx
     ·exact e
     ·exact h1 x hx
  ·refine .inr ⟨fun x hx=>absurd hx (by rw [List.drop_of_length_le (by omega)]; exact List.not_mem_nil),?_⟩
   conv=>lhs; unfold slices_IndexFunc_Tuple_Tuple.l0
   rw [if_neg (dnl h)]
theorem Z7u (n:Nat) (rows:List (List ByteArray)) (f:List ByteArray × Unit → Option Bool) (q:List ByteArray → Bool) (hf:∀ x ∈ rows,f (x,()) = some (q x)) (hr:rows.length ≤ 4294967296) (hn:rows.length < n) :
  slices_ContainsFunc_Tuple_Tuple.F n rows f = some (rows.any q):=by
 unfold slices_ContainsFunc_Tuple_Tuple.F slices_IndexFunc_Tuple_Tuple.F;have:=Z9s n rows f q hf hr (fun _=>some (-1)) n 0 (Nat.zero_le _) (by omega);rw [show ((0:Nat):Int) = 0 from rfl,List.drop_zero] at this;rcases this with ⟨j,_,_,⟨x,hx,hq⟩,e⟩ | ⟨h,e⟩
 ·rw [e]
  have:rows.any q = true:=List.any_eq_true.2 ⟨x,hx,hq⟩;rw [this]
  simp
 ·rw [e]
  have:rows.any q = false:=by
   rw [List.any_eq_false];intro x hx;rw [h x hx]
   simp
  rw [this]
  simp
theorem ZAg (n:Nat) (r:Int × List (List ByteArray)) (t:List ByteArray) (hr:r.2.length ≤ 4294967296) (hn:r.2.length < n) (ht:∀ x ∈ r.2,x.length ≤ 4294967295 ∧ x.length < n):impl_Rel_has.F n r t = some (inL t r.2):=by
 unfold impl_Rel_has.F;rw [Z7u n r.2 _ (fun x=>decide (x = t)) (fun x hx=>by
  show ((impl_Rel_has_1.F n x t).bind some) = _;unfold impl_Rel_has_1.F;rw [Z42 n x t (by have:=(ht x hx).1; omega) (ht x hx).2]
  rfl) hr hn]
 rfl
end Go.Abs
