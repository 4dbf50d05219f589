/- l02Put is the putting in order. Conditions: none. -/
import Derived.Test.YtgdlicpmbgodjaaGreatDoorV1
import Derived.Test.YtgdlicpmbgodjaaGreatDoorG1
namespace Go.Abs
set_option linter.unusedVariables false
set_option linter.unusedSimpArgs false
def Z2V (t:Tu):List Tu → Nat
 | []=>0
 | x :: r=>if tpc x t < 0 then Z2V t r + 1 else 0
theorem Z3n (t:Tu):∀ l,Z2V t l ≤ l.length
 | []=>Nat.le_refl _
 | x :: r=>by
  have:=Z3n t r;unfold Z2V
  split <;> simp <;> omega
theorem Z6a (t:Tu):∀ l:List Tu,Z3u t l = match l[Z2V t l]? with
  | some x=>if tpc x t = 0 then l else l.take (Z2V t l) ++ t :: l.drop (Z2V t l)
  | none=>l ++ [t]
 | []=>rfl
 | x :: r=>by
  have ih:=Z6a t r;unfold Z3u Z2V
  by_cases h:tpc x t < 0
  ·rw [if_pos h,if_pos h,List.getElem?_cons_succ,ih]
   cases r[Z2V t r]? with
   | none=>rfl
   | some y =>
    dsimp only
    split <;> simp
  ·rw [if_neg h,if_neg h]
   simp only [List.getElem?_cons_zero,List.take_zero,List.drop_zero,List.nil_append]
theorem Z9L (n:Nat) (hn:1000 ≤ n) (rows:List Tu) (t:Tu) (hr:rows.length ≤ 1048576) (ok:∀ x ∈ rows,okT x) (ht:okT t) (K:Int → Option (List Tu × Bool)):∀ (k i:Nat),i ≤ rows.length → rows.length - i < k →
  spec_l02Put.l0 n rows t K k (i:Int) = K ((i + Z2V t (rows.drop i):Nat):Int)
 | 0,i,hi,hk=>absurd hk (Nat.not_lt_zero _)
 | k + 1,i,hi,hk=>by
  by_cases h:i < rows.length
  ·conv=>lhs; unfold spec_l02Put.l0
   rw [if_pos (dlt h),if_pos (inl' h),Z0c _ h,Z1m n hn _ _ (ok _ (List.getElem_mem h)) ht,List.drop_eq_getElem_cons h,wr1 (by omega)];simp only [Option.bind_some];unfold Z2V
   by_cases hc:tpc rows[i] t < 0
   ·rw [if_pos (by simpa using hc),if_pos hc,Z9L n hn rows t hr ok ht K k (i + 1) (by omega) (by omega)]
    congr 2
    omega
   ·rw [if_neg (by simpa using hc),if_neg hc]
    rfl
  ·conv=>lhs; unfold spec_l02Put.l0
   rw [if_neg (dnl h),List.drop_of_length_le (by omega)]
   congr 2
theorem Z7S (n:Nat) (hn:1100000 ≤ n) (rows:List Tu) (t:Tu) (hr:rows.length ≤ 1048576) (ok:∀ x ∈ rows,okT x) (ht:okT t):∃ b,spec_l02Put.F n rows t = some (Z3u t rows,b):=by
 unfold spec_l02Put.F;have h0:=Z9L n (by omega) rows t hr ok ht (fun t7 =>
  if (decide (t7 < (List.length rows:Int))) = true then
   if (0:Int) ≤ t7 ∧ t7 < (List.length rows:Int) then
    (spec_l02Cmp.F n (List.getD rows (Int.toNat t7) []) t).bind fun r8 =>
    if decide (r8 = 0) = true then
     some (rows,false)
    else
     spec_l02Put.j1 n t7 rows t
   else
    none
  else
   spec_l02Put.j1 n t7 rows t) n 0 (Nat.zero_le _) (by omega)
 rw [List.drop_zero,Nat.zero_add,show ((0:Nat):Int) = 0 from rfl] at h0;rw [h0];have hle:=Z3n t rows;have ht6:t.length ≤ 6:=ht.1;have hj:spec_l02Put.j1 n (Z2V t rows:Int) rows t = some (rows.take (Z2V t rows) ++ t :: rows.drop (Z2V t rows),true):=by
  unfold spec_l02Put.j1;rw [if_pos (by omega),if_pos (by simp [lim]; omega),Z35 n t (by omega)];simp only [Option.bind_some,Int.toNat_zero,Int.toNat_natCast,List.drop_zero,List.nil_append,List.take_length];rw [if_pos (by simp [lim]; omega),if_pos (by omega),if_pos (by simp [lim]; omega)]
  simp
 rw [Z6a]
 by_cases h:Z2V t rows < rows.length
 ·rw [if_pos (dlt h),if_pos (inl' h),Z0c _ h,Z1m n (by omega) _ _ (ok _ (List.getElem_mem h)) ht,List.getElem?_eq_getElem h]
  simp only [Option.bind_some]
  by_cases hc:tpc rows[Z2V t rows] t = 0
  ·exact ⟨false,by rw [if_pos (by simpa using hc),if_pos hc]⟩
  ·exact ⟨true,by rw [if_neg (by simpa using hc),if_neg hc,hj]⟩
 ·rw [if_neg (dnl h),hj,List.getElem?_eq_none (by omega)]
  exact ⟨true,by rw [List.take_of_length_le (by omega),List.drop_of_length_le (by omega)]⟩
end Go.Abs
