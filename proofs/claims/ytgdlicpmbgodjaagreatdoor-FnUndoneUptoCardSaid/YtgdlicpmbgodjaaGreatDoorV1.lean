/- Rows that are the same, rows that are there, a relation less another one: both sides alike. Conditions: none. -/
import Derived.Test.YtgdlicpmbgodjaaGreatDoorT9
namespace Go.Abs
set_option linter.unusedVariables false
set_option linter.unusedSimpArgs false
theorem Z84 (a b:ByteArray):Abs.seq a b = decide (a = b):=by
 rw [Z3w a,Z3w b,Z19]
 by_cases h:a.data.toList = b.data.toList
 ·rw [h]; simp
 ·have:¬ bt a.data.toList = bt b.data.toList:=fun e=>h (by have:=congrArg (fun x=>x.data.toList) e; simpa [Z12] using this)
  rw [decide_eq_false this,beq_eq_false_iff_ne];exact h
section
variable {α:Type}
theorem dlt {l:List α} {i:Nat} (h:i < l.length):decide ((i:Int) < (l.length:Int)) = true:=by simp [h]
theorem dnl {l:List α} {i:Nat} (h:¬ i < l.length):¬ decide ((i:Int) < (l.length:Int)) = true:=by simp; omega
theorem inl' {l:List α} {i:Nat} (h:i < l.length):(0:Int) ≤ (i:Int) ∧ (i:Int) < (l.length:Int):=by omega
theorem wr1 {i:Nat} (h:i ≤ 4294967296):IntKind.i64.wrap ((i:Int) + 1) = ((i + 1:Nat):Int):=by rw [Z0A _ (by omega) (by omega)]; omega
theorem Z0c {l:List α} {i:Nat} (d:α) (h:i < l.length):List.getD l (Int.toNat (i:Int)) d = l[i]:=by simp [h]
end
theorem Z7R (n:Nat) (a b:List ByteArray) (hab:a.length = b.length) (ha:a.length ≤ 4294967296) (K:Unit → Option Bool):∀ (k i:Nat),i ≤ a.length → a.length - i < k →
  spec_l02Same.l0 n a b K k (i:Int) = if a.drop i = b.drop i then K () else some false
 | 0,i,hi,hk=>absurd hk (Nat.not_lt_zero _)
 | k + 1,i,hi,hk=>by
  by_cases h:i < a.length
  ·have h2:i < b.length:=by omega
   have step:spec_l02Same.l0 n a b K (k + 1) (i:Int) = if a[i] = b[i] then spec_l02Same.l0 n a b K k ((i + 1:Nat):Int) else some false:=by
    conv=>lhs; unfold spec_l02Same.l0
    rw [if_pos (dlt h),if_pos (inl' h),if_pos (inl' h2),Z0c _ h,Z0c _ h2,Z84,wr1 (by omega)]
    by_cases e:a[i] = b[i] <;> simp [e]
   rw [step,List.drop_eq_getElem_cons h,List.drop_eq_getElem_cons h2]
   by_cases e:a[i] = b[i]
   ·rw [if_pos e,Z7R n a b hab ha K k (i + 1) (by omega) (by omega)]
    by_cases e2:a.drop (i + 1) = b.drop (i + 1)
    ·rw [if_pos e2,if_pos (by rw [e,e2])]
    ·rw [if_neg e2,if_neg (fun h=>e2 (List.cons.inj h).2)]
   ·rw [if_neg e,if_neg (fun h=>e (List.cons.inj h).1)]
  ·have e:i = a.length:=by omega
   conv=>lhs; unfold spec_l02Same.l0
   rw [if_neg (dnl h),if_pos (by rw [List.drop_of_length_le (by omega),List.drop_of_length_le (by omega)])]
theorem ZAK (n:Nat) (a b:List ByteArray) (ha:a.length ≤ 4294967296) (hn:a.length < n):spec_l02Same.F n a b = some (decide (a = b)):=by
 unfold spec_l02Same.F
 by_cases h:a.length = b.length
 ·rw [if_neg (by simp [h])]
  have:=Z7R n a b h ha (fun _=>some true) n 0 (Nat.zero_le _) (by omega);rw [show ((0:Nat):Int) = 0 from rfl,List.drop_zero,List.drop_zero] at this;rw [this]
  by_cases e:a = b <;> simp [e]
 ·rw [if_pos (by simp; omega)]
  have:a ≠ b:=fun e=>h (by rw [e])
  simp [this]
theorem Z71 (n:Nat) (a b:List ByteArray) (hab:a.length = b.length) (ha:a.length ≤ 4294967296) (K:Unit → Option Bool):∀ (k i:Nat),i ≤ a.length → a.length - i < k →
  slices_Equal_string_string.l0 n a b (a.length:Int) K k (i:Int) = if a.drop i = b.drop i then K () else some false
 | 0,i,hi,hk=>absurd hk (Nat.not_lt_zero _)
 | k + 1,i,hi,hk=>by
  by_cases h:i < a.length
  ·have h2:i < b.length:=by omega
   have step:slices_Equal_string_string.l0 n a b (a.length:Int) K (k + 1) (i:Int) = if a[i] = b[i] then slices_Equal_string_string.l0 n a b (a.length:Int) K k ((i + 1:Nat):Int) else some false:=by
    conv=>lhs; unfold slices_Equal_string_string.l0
    rw [if_pos (dlt h),if_pos (inl' h),if_pos (inl' h2),Z0c _ h,Z0c _ h2,Z84,wr1 (by omega)]
    by_cases e:a[i] = b[i] <;> simp [e]
   rw [step,List.drop_eq_getElem_cons h,List.drop_eq_getElem_cons h2]
   by_cases e:a[i] = b[i]
   ·rw [if_pos e,Z71 n a b hab ha K k (i + 1) (by omega) (by omega)]
    by_cases e2:a.drop (i + 1) = b.drop (i + 1)
    ·rw [if_pos e2,if_pos (by rw [e,e2])]
    ·rw [if_neg e2,if_neg (fun h=>e2 (List.cons.inj h).2)]
   ·rw [if_neg e,if_neg (fun h=>e (List.cons.inj h).1)]
  ·have e:i = a.length:=by omega
   conv=>lhs; unfold slices_Equal_string_string.l0
   rw [if_neg (dnl h),if_pos (by rw [List.drop_of_length_le (by omega),List.drop_of_length_le (by omega)])]
theorem ZA1 (n:Nat) (a b:List ByteArray) (ha:a.length ≤ 4294967296) (hn:a.length < n):slices_Equal_string_string.F n a b = some (decide (a = b)):=by
 unfold slices_Equal_string_string.F
 by_cases h:a.length = b.length
 ·rw [if_neg (by simp [h])]
  have:=Z71 n a b h ha (fun _=>some true) n 0 (Nat.zero_le _) (by omega);rw [show ((0:Nat):Int) = 0 from rfl,List.drop_zero,List.drop_zero] at this;rw [this]
  by_cases e:a = b <;> simp [e]
 ·rw [if_pos (by simp; omega)]
  have:a ≠ b:=fun e=>h (by rw [e])
  simp [this]
theorem Z4A (n:Nat) (t:List ByteArray) (h:t.length ≤ 4294967296):impl_copyTuple.F n t = some t:=by
 unfold impl_copyTuple.F;rw [if_pos (by simp [lim]; exact h)]
 rfl
theorem Z35 (n:Nat) (t:List ByteArray) (h:t.length ≤ 4294967296):spec_l02Tuple.F n t = some t:=by
 unfold spec_l02Tuple.F;rw [if_pos (by simp [lim]; exact h)]
 rfl
end Go.Abs
