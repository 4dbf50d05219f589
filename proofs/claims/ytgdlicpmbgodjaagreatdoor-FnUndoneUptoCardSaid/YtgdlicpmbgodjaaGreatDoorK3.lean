/- What is right: relations is Z0w for right. Conditions: none. -/
import Derived.Test.YtgdlicpmbgodjaaGreatDoorG2
namespace Go.Abs
set_option linter.unusedVariables false
set_option linter.unusedSimpArgs false
theorem wm1 {i:Nat} (h0:0 < i) (h:i ≤ 4294967296):IntKind.i64.wrap ((i:Int) - 1) = ((i - 1:Nat):Int):=by rw [Z0A _ (by omega) (by omega)]; omega
theorem kind_okS (n:Nat) (hn:1000 ≤ n) {s:ByteArray} (hs:okS s):∃ k:Nat,spec_TermKind.F n s = some (k:Int) ∧ k ≠ 0:=by
 obtain ⟨j,hj,hz⟩:=hs;obtain ⟨k,h1,_,h3⟩:=Z9O n n s (by omega) (by omega) (by omega);have hz':s.data.toList.length ≤ 200:=by
  have:s.data.toList.length = s.size:=Array.length_toList;omega
 have:=h3.complete j hj hz';have:=hj.kind;exact ⟨k,h1,by omega⟩
theorem Z6t (n:Nat) (hn:1100000 ≤ n) (t:Tu) (ht:okT t) (K:Unit → Option Bool):∀ (k i:Nat),i ≤ t.length → t.length - i < k → spec_TupleOk.l0 n t K k (i:Int) = K ()
 | 0,i,hi,hk=>absurd hk (Nat.not_lt_zero _)
 | k + 1,i,hi,hk=>by
  have h6:=ht.1
  by_cases h:i < t.length
  ·obtain ⟨q,q1,q2⟩:=kind_okS n (by omega) (ht.2 _ (List.getElem_mem h))
   conv=>lhs; unfold spec_TupleOk.l0
   rw [if_pos (dlt h),if_pos (inl' h),Z0c _ h,q1,Option.bind_some,if_neg (by simp; omega),wr1 (by omega)];exact Z6t n hn t ht K k (i + 1) (by omega) (by omega)
  ·conv=>lhs; unfold spec_TupleOk.l0
   rw [if_neg (dnl h)]
theorem Z3g (n:Nat) (hn:1100000 ≤ n) (t:Tu) (ht:okT t):spec_TupleOk.F n t = some true:=by
 have h6:=ht.1;unfold spec_TupleOk.F;have:=Z6t n hn t ht (fun _=>some true) n 0 (Nat.zero_le _) (by omega);rw [show ((0:Nat):Int) = 0 from rfl] at this;rw [if_neg (by simp; omega),this]
theorem ZBJ (n:Nat) (hn:1100000 ≤ n) (r:Re) (R:Z2X r) (K:Unit → Option Bool):∀ (k i:Nat),i ≤ r.2.length → r.2.length - i < k → spec_RelOk.l1 n r K k (i:Int) = K ()
 | 0,i,hi,hk=>absurd hk (Nat.not_lt_zero _)
 | k + 1,i,hi,hk=>by
  have hrow:=R.base.2.2.1
  by_cases h:i < r.2.length
  ·have ht:=R.base.2.2.2 _ (List.getElem_mem h)
   have hl:=R.len _ (List.getElem_mem h)
   conv=>lhs; unfold spec_RelOk.l1
   rw [if_pos (dlt h),if_pos (inl' h),Z0c _ h,if_pos (by simp [hl]),if_pos (inl' h),Z3g n hn _ ht,Option.bind_some,if_pos (by simp),wr1 (by omega)];have ih:=ZBJ n hn r R K k (i + 1) (by omega) (by omega)
   by_cases h0:i = 0
   ·rw [if_neg (by simp; omega),ih]
   ·have hp:i - 1 < r.2.length:=by omega
    rw [if_pos (by simp; omega),wm1 (by omega) (by omega),if_pos (inl' hp),if_pos (inl' h),Z0c _ hp,Z1m n (by omega) _ _ (R.base.2.2.2 _ (List.getElem_mem hp)) ht,Option.bind_some];have:=List.pairwise_iff_getElem.1 R.srt (i - 1) i hp h (by omega);rw [if_neg (by simp; omega),ih]
  ·conv=>lhs; unfold spec_RelOk.l1
   rw [if_neg (dnl h)]
theorem Z4Q (n:Nat) (hn:1100000 ≤ n) (r:Re) (R:Z2X r):spec_RelOk.F n r = some true:=by
 obtain ⟨h0,h6,h4,_⟩:=R.base;unfold spec_RelOk.F spec_RelOk.j0;have:=ZBJ n hn r R (fun _=>some true) n 0 (Nat.zero_le _) (by omega);rw [show ((0:Nat):Int) = 0 from rfl] at this;rw [Z0Y,Option.bind_some,if_pos (by simp; omega),if_neg (by simp; omega),this]
theorem Z2C {t:Tu} (h:okT t):t.length ≤ 1048576 ∧ ∀ s ∈ t,s.size ≤ 1048576:=⟨by have:=h.1; omega,fun s hs=>by obtain ⟨_,_,h2⟩:=h.2 s hs; omega⟩
theorem isRel_mk (n:Nat) (hn:1100000 ≤ n) (r:Re) (R:Z2X r):impl_isRel.F n r = some true:=by
 obtain ⟨b,b1,b2,_⟩:=Z79 n n hn hn r (fun t ht=>(Z2C (R.base.2.2.2 t ht)).2) (fun t ht=>(Z2C (R.base.2.2.2 t ht)).1);rw [Z4Q n hn r R] at b1;rw [b2,← b1]
end Go.Abs
