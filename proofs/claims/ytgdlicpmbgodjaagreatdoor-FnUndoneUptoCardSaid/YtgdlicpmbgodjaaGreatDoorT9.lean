/- Tuples and relations: both sides hold them right alike. Conditions: none. -/
import Derived.Test.YtgdlicpmbgodjaaGreatDoorT8
namespace Go.Abs
set_option linter.unusedVariables false
set_option linter.unusedSimpArgs false
def okS (s:ByteArray):Prop:=∃ k,Tm k s.data.toList ∧ s.size ≤ 200
def okT (t:List ByteArray):Prop:=t.length ≤ 6 ∧ ∀ s ∈ t,okS s
section
variable {α:Type}
theorem lt_mid' (pre r:List α) (c:α):(pre.length:Int) < ((pre ++ c :: r).length:Int):=by simp; omega
theorem in_mid' (pre r:List α) (c:α):(0:Int) ≤ (pre.length:Int) ∧ (pre.length:Int) < ((pre ++ c :: r).length:Int):=⟨by omega,lt_mid' pre r c⟩
theorem succ_mid' (pre:List α) (c:α):(pre.length:Int) + 1 = ((pre ++ [c]).length:Int):=by simp
theorem assoc_mid' (pre r:List α) (c:α):pre ++ c :: r = (pre ++ [c]) ++ r:=by simp
end
theorem Z4f (n m:Nat) (hn:1100000 ≤ n) (hm:1100000 ≤ m) (K:Unit → Option Bool):∀ (r pre:List ByteArray) (k j:Nat),(pre ++ r).length ≤ 4294960000 → r.length + 1 ≤ k → r.length + 1 ≤ j → (∀ s ∈ r,s.size ≤ 1048576) →
  ∃ b:Bool,spec_TupleOk.l0 n (pre ++ r) K k (pre.length:Int) = (if b = true then K () else some false) ∧
   (∃ i:Int,slices_IndexFunc_string_string.l0 m (pre ++ r) (fun a2=>(impl_isTuple_1.F m a2.1).bind some) ((pre ++ r).length:Int) (fun _=>some (-1)) j (pre.length:Int) = some i ∧ decide (i ≥ 0) = !b) ∧
   (b = true → ∀ s ∈ r,okS s)
 | r,pre,0,_,_,hk,_,_=>by omega
 | r,pre,_,0,_,_,hj,_=>by omega
 | [],pre,k + 1,j + 1,hl,hk,hj,hs=>by
  unfold spec_TupleOk.l0 slices_IndexFunc_string_string.l0;rw [if_neg (by simp),if_neg (by simp)];exact ⟨true,rfl,⟨-1,rfl,rfl⟩,fun _ s hs=>by cases hs⟩
 | s :: r,pre,k + 1,j + 1,hl,hk,hj,hs=>by
  have hsz:=hs s List.mem_cons_self;simp only [List.length_append,List.length_cons] at hl hk hj;obtain ⟨q,q1,q2,q3⟩:=Z9O n m s (by omega) (by omega) (by omega);unfold spec_TupleOk.l0 slices_IndexFunc_string_string.l0;rw [if_pos (decide_eq_true (lt_mid' pre r s)),if_pos (in_mid' pre r s),if_pos (decide_eq_true (lt_mid' pre r s)),if_pos (in_mid' pre r s),Int.toNat_natCast,Z0z,q1];unfold impl_isTuple_1.F;dsimp only;rw [q2];simp only [Option.bind_some]
  by_cases h0:q = 0
  ·subst h0
   rw [if_pos (by simp),if_pos (by simp)];exact ⟨false,rfl,⟨_,rfl,by simp⟩,fun h=>by cases h⟩
  ·rw [if_neg (by simp; omega),if_neg (by simp; omega),Z0A _ (by omega) (by omega),succ_mid' pre s,assoc_mid']
   obtain ⟨b,b1,⟨i,i1,i2⟩,b3⟩:=Z4f n m hn hm K r (pre ++ [s]) k j (by simp; omega) (by omega) (by omega) (fun x hx=>hs x (List.mem_cons_of_mem _ hx));refine ⟨b,b1,⟨i,i1,i2⟩,fun h x hx=>?_⟩;rcases List.mem_cons.1 hx with rfl | hx
   ·obtain ⟨t1,t2⟩:=q3.sound h0
    exact ⟨q,t1,t2⟩
   ·exact b3 h x hx
theorem Z6G (n m:Nat) (hn:1100000 ≤ n) (hm:1100000 ≤ m) (t:List ByteArray) (hs:∀ s ∈ t,s.size ≤ 1048576):∃ b,spec_TupleOk.F n t = some b ∧ impl_isTuple.F m t = some b ∧ (b = true → okT t):=by
 unfold spec_TupleOk.F impl_isTuple.F
 by_cases h6:t.length ≤ 6
 ·rw [if_neg (by simp; omega),if_pos (by simp; omega)]
  obtain ⟨b,b1,⟨i,i1,i2⟩,b3⟩:=Z4f n m hn hm (fun _=>some true) t [] n m (by simp; omega) (by omega) (by omega) hs;simp only [List.nil_append,List.length_nil] at b1 i1;rw [show ((0:Nat):Int) = 0 from rfl] at b1 i1;unfold slices_ContainsFunc_string_string.F slices_IndexFunc_string_string.F;rw [b1,i1];simp only [Option.bind_some];rw [i2,Bool.not_not];refine ⟨b,by cases b <;> rfl,rfl,fun h=>⟨h6,b3 h⟩⟩
 ·rw [if_pos (by simp; omega),if_neg (by simp; omega)]
  exact ⟨false,rfl,rfl,fun h=>by cases h⟩
section
variable (m n:Nat) (A B:List ByteArray) (f:(ByteArray × ByteArray × Unit) → Option Int) (K:Unit → Option Int)
theorem CF_end (T:List ByteArray) (k:Nat) (i:Int) (h:¬ i < (T.length:Int)):slices_CompareFunc_string_string_string_string.l0 m A B f T (T.length:Int) K (k + 1) i = K ():=by
 unfold slices_CompareFunc_string_string_string_string.l0;rw [if_neg (by simpa using h)]
theorem CF_long (T:List ByteArray) (k:Nat) (i:Nat) (h:i < T.length) (h2:¬ i < B.length):slices_CompareFunc_string_string_string_string.l0 m A B f T (T.length:Int) K (k + 1) (i:Int) = some 1:=by
 unfold slices_CompareFunc_string_string_string_string.l0;rw [if_pos (by simp; omega),if_pos (by omega),if_pos (by simp; omega)]
theorem CF_step (T:List ByteArray) (k:Nat) (i:Nat) (h:i < T.length) (h2:i < B.length) (hi:i ≤ 1000):slices_CompareFunc_string_string_string_string.l0 m A B f T (T.length:Int) K (k + 1) (i:Int) =
  (f (List.getD T i ByteArray.empty,List.getD B i ByteArray.empty,())).bind fun r=>if r = 0 then slices_CompareFunc_string_string_string_string.l0 m A B f T (T.length:Int) K k ((i:Int) + 1) else some r:=by
 conv=>lhs; unfold slices_CompareFunc_string_string_string_string.l0
 rw [if_pos (by simp; omega),if_pos (by omega),if_neg (by simp; omega),if_pos (by omega),Z0A _ (by omega) (by omega),Int.toNat_natCast]
 congr 1
 funext r
 by_cases hr:r = 0
 ·rw [if_pos hr,if_neg (by simpa using hr)]
 ·rw [if_neg hr,if_pos (by simpa using hr)]
theorem Z9r (k:Nat) (i:Nat) (h:¬ (i < A.length ∧ i < B.length)):spec_l02Cmp.l0 n A B K (k + 1) (i:Int) = K ():=by
 unfold spec_l02Cmp.l0
 by_cases h1:i < A.length
 ·rw [if_pos (by simp; omega),if_neg (by simp; omega)]
 ·rw [if_neg (by simp; omega)]
theorem ZCX (k:Nat) (i:Nat) (h:i < A.length) (h2:i < B.length) (hi:i ≤ 1000):spec_l02Cmp.l0 n A B K (k + 1) (i:Int) =
  (spec_l01Cmp.F n (List.getD A i ByteArray.empty) (List.getD B i ByteArray.empty)).bind fun r=>if r = 0 then spec_l02Cmp.l0 n A B K k ((i:Int) + 1) else some r:=by
 conv=>lhs; unfold spec_l02Cmp.l0
 rw [if_pos (by simp; omega),if_pos (by simp; omega)];unfold spec_l02Cmp.j1;rw [if_pos (by omega),if_pos (by omega),Z0A _ (by omega) (by omega),Int.toNat_natCast]
 congr 1
 funext r
 by_cases hr:r = 0
 ·rw [if_pos hr,if_neg (by simpa using hr)]
 ·rw [if_neg hr,if_pos (by simpa using hr)]
end
theorem Z40 (n m:Nat) (hn:1000 ≤ n) (hm:1000 ≤ m) (A B:List ByteArray) (hA:A.length ≤ 6) (hB:B.length ≤ 6):∀ (r1 r2 pre1 pre2:List ByteArray) (k j:Nat),A = pre1 ++ r1 → B = pre2 ++ r2 → pre1.length = pre2.length →
  r1.length + 1 ≤ k → r1.length + 1 ≤ j → (∀ s ∈ r1,okS s) → (∀ s ∈ r2,okS s) →
  ∃ c,slices_CompareFunc_string_string_string_string.l0 m A B (fun a3=>(impl_compareTerms.F m a3.1 a3.2.1).bind some) A (A.length:Int) (fun _=>if decide ((A.length:Int) < (B.length:Int)) = true then some (-1) else some 0) k (pre1.length:Int) = some c ∧
   spec_l02Cmp.l0 n A B (fun _=>(spec_l01Sign.F n (IntKind.i64.wrap ((A.length:Int) - (B.length:Int)))).bind fun r11=>some r11) j (pre1.length:Int) = some c ∧ sgn c
 | r1,r2,pre1,pre2,0,_,_,_,_,hk,_,_,_=>by omega
 | r1,r2,pre1,pre2,_,0,_,_,_,_,hj,_,_=>by omega
 | [],r2,pre1,pre2,k + 1,j + 1,eA,eB,hp,hk,hj,h1,h2=>by
  have lA:A.length = pre1.length:=by rw [eA]; simp
  have lB:B.length = pre1.length + r2.length:=by rw [eB,hp]; simp
  rw [CF_end m A B _ _ A k _ (by omega),Z9r n A B _ j _ (by omega),Z1K,Z0A _ (by omega) (by omega)];simp only [Option.bind_some]
  by_cases hz:r2.length = 0
  ·rw [if_neg (by simp; omega)]
   refine ⟨0,rfl,?_,.inr (.inl rfl)⟩;rw [if_neg (by omega),if_neg (by omega)]
  ·rw [if_pos (by simp; omega)]
   refine ⟨-1,rfl,?_,.inl rfl⟩;rw [if_pos (by omega)]
 | x :: r1,[],pre1,pre2,k + 1,j + 1,eA,eB,hp,hk,hj,h1,h2=>by
  have lA:A.length = pre1.length + (r1.length + 1):=by rw [eA]; simp
  have lB:B.length = pre1.length:=by rw [eB,hp]; simp
  rw [CF_long m A B _ _ A k _ (by omega) (by omega),Z9r n A B _ j _ (by omega),Z1K,Z0A _ (by omega) (by omega),if_neg (by omega),if_pos (by omega)];exact ⟨1,rfl,rfl,.inr (.inr rfl)⟩
 | x :: r1,y :: r2,pre1,pre2,k + 1,j + 1,eA,eB,hp,hk,hj,h1,h2=>by
  have lA:A.length = pre1.length + (r1.length + 1):=by rw [eA]; simp
  have lB:B.length = pre1.length + (r2.length + 1):=by rw [eB,hp]; simp
  have gA:List.getD A pre1.length ByteArray.empty = x:=by rw [eA,Z0z]
  have gB:List.getD B pre1.length ByteArray.empty = y:=by rw [eB,hp,Z0z]
  obtain ⟨kx,x1,x2⟩:=h1 x List.mem_cons_self;obtain ⟨ky,y1,y2⟩:=h2 y List.mem_cons_self;have sx:x.data.toList.length ≤ 200:=x2;have sy:y.data.toList.length ≤ 200:=y2;obtain ⟨c,c1,c2,c3⟩:=Z4g 200 x.data.toList y.data.toList kx ky m n sx x1 y1 sx sy (by omega) (by omega);rw [← Z3w,← Z3w] at c1 c2;have key:=Z40 n m hn hm A B hA hB r1 r2 (pre1 ++ [x]) (pre2 ++ [y]) k j (by rw [eA]; simp) (by rw [eB]; simp) (by simp; omega) (by simp at hk; omega) (by simp at hj; omega) (fun s hs=>h1 s (List.mem_cons_of_mem _ hs)) (fun s hs=>h2 s (List.mem_cons_of_mem _ hs));rw [← succ_mid'] at key;rw [CF_step m A B _ _ A k _ (by omega) (by omega) (by omega),ZCX n A B _ j _ (by omega) (by omega) (by omega),gA,gB,c2];dsimp only;rw [c1];simp only [Option.bind_some]
  by_cases hc:c = 0
  ·rw [if_pos hc,if_pos hc]
   exact key
  ·rw [if_neg hc,if_neg hc]
   exact ⟨c,rfl,rfl,c3⟩
theorem Z6s (n m:Nat) (hn:1000 ≤ n) (hm:1000 ≤ m) (a b:List ByteArray) (ha:okT a) (hb:okT b):∃ c,spec_l02Cmp.F n a b = some c ∧ impl_compareTuples.F m a b = some c ∧ sgn c:=by
 unfold spec_l02Cmp.F impl_compareTuples.F slices_CompareFunc_string_string_string_string.F;have h1:=ha.1;have h2:=hb.1;obtain ⟨c,c1,c2,c3⟩:=Z40 n m hn hm a b ha.1 hb.1 a b [] [] m n rfl rfl rfl (by omega) (by omega) ha.2 hb.2;simp only [List.length_nil] at c1 c2;rw [show ((0:Nat):Int) = 0 from rfl] at c1 c2;rw [c1,c2];exact ⟨c,rfl,rfl,c3⟩
section
variable (n:Nat) (r:Int × List (List ByteArray)) (K:Unit → Option Bool) (k i:Nat) (hi:i ≤ 1000) (h:i < r.2.length)
include hi h
theorem RO_len (hl:¬ ((List.getD r.2 i []).length:Int) = r.1):spec_RelOk.l1 n r K (k + 1) (i:Int) = some false:=by
 unfold spec_RelOk.l1;rw [if_pos (by simp; omega),if_pos (by omega),Int.toNat_natCast,if_neg (by simpa using hl)]
theorem RO_not (hl:((List.getD r.2 i []).length:Int) = r.1) (hb:spec_TupleOk.F n (List.getD r.2 i []) = some false):spec_RelOk.l1 n r K (k + 1) (i:Int) = some false:=by
 unfold spec_RelOk.l1;rw [if_pos (by simp; omega),if_pos (by omega),Int.toNat_natCast,if_pos (by simpa using hl),if_pos (by omega),hb]
 rfl
theorem Z9q (hl:((List.getD r.2 i []).length:Int) = r.1) (hb:spec_TupleOk.F n (List.getD r.2 i []) = some true) (h0:i = 0):spec_RelOk.l1 n r K (k + 1) (i:Int) = spec_RelOk.l1 n r K k ((i:Int) + 1):=by
 have _h:=hi
 conv=>lhs; unfold spec_RelOk.l1
 rw [if_pos (by simp; omega),if_pos (by omega),Int.toNat_natCast,if_pos (by simpa using hl),if_pos (by omega),hb];simp only [Option.bind_some];rw [if_pos (by simp),if_neg (by simp; omega),Z0A _ (by omega) (by omega)]
theorem ZCU (hl:((List.getD r.2 i []).length:Int) = r.1) (hb:spec_TupleOk.F n (List.getD r.2 i []) = some true) (h0:0 < i) {c:Int} (hc:spec_l02Cmp.F n (List.getD r.2 (i - 1) []) (List.getD r.2 i []) = some c) :
  spec_RelOk.l1 n r K (k + 1) (i:Int) = if 0 ≤ c then some false else spec_RelOk.l1 n r K k ((i:Int) + 1):=by
 conv=>lhs; unfold spec_RelOk.l1
 rw [if_pos (by simp; omega),if_pos (by omega),Int.toNat_natCast,if_pos (by simpa using hl),if_pos (by omega),hb];simp only [Option.bind_some];rw [if_pos (by simp),if_pos (by simp; omega),Z0A ((i:Int) - 1) (by omega) (by omega),if_pos (by omega),if_pos (by omega),show Int.toNat ((i:Int) - 1) = i - 1 by omega,hc];simp only [Option.bind_some];rw [Z0A _ (by omega) (by omega)]
 by_cases h2:0 ≤ c
 ·rw [if_pos (by simpa using h2),if_pos h2]
 ·rw [if_neg (by simpa using h2),if_neg h2]
theorem IR_not (hb:impl_isTuple.F n (List.getD r.2 i []) = some false):impl_isRel.l1 n r.2 (r.2.length:Int) r K (k + 1) (i:Int) = some false:=by
 unfold impl_isRel.l1;rw [if_pos (by simp; omega),if_pos (by omega),Int.toNat_natCast,hb]
 rfl
theorem IR_len (hl:¬ ((List.getD r.2 i []).length:Int) = r.1) (hb:impl_isTuple.F n (List.getD r.2 i []) = some true):impl_isRel.l1 n r.2 (r.2.length:Int) r K (k + 1) (i:Int) = some false:=by
 unfold impl_isRel.l1;rw [if_pos (by simp; omega),if_pos (by omega),Int.toNat_natCast,hb];simp only [Option.bind_some];rw [if_pos (by simp),if_neg (by simpa using hl)]
theorem IR_first (hl:((List.getD r.2 i []).length:Int) = r.1) (hb:impl_isTuple.F n (List.getD r.2 i []) = some true) (h0:i = 0):impl_isRel.l1 n r.2 (r.2.length:Int) r K (k + 1) (i:Int) = impl_isRel.l1 n r.2 (r.2.length:Int) r K k ((i:Int) + 1):=by
 have _h:=hi
 conv=>lhs; unfold impl_isRel.l1
 rw [if_pos (by simp; omega),if_pos (by omega),Int.toNat_natCast,hb];simp only [Option.bind_some];rw [if_pos (by simp),if_pos (by simpa using hl),if_neg (by simp; omega),Z0A _ (by omega) (by omega)]
theorem IR_next (hl:((List.getD r.2 i []).length:Int) = r.1) (hb:impl_isTuple.F n (List.getD r.2 i []) = some true) (h0:0 < i) {c:Int} (hc:impl_compareTuples.F n (List.getD r.2 (i - 1) []) (List.getD r.2 i []) = some c) :
  impl_isRel.l1 n r.2 (r.2.length:Int) r K (k + 1) (i:Int) = if 0 ≤ c then some false else impl_isRel.l1 n r.2 (r.2.length:Int) r K k ((i:Int) + 1):=by
 conv=>lhs; unfold impl_isRel.l1
 rw [if_pos (by simp; omega),if_pos (by omega),Int.toNat_natCast,hb];simp only [Option.bind_some];rw [if_pos (by simp),if_pos (by simpa using hl),if_pos (by simp; omega),Z0A ((i:Int) - 1) (by omega) (by omega),if_pos (by omega),show Int.toNat ((i:Int) - 1) = i - 1 by omega,hc];simp only [Option.bind_some];rw [Z0A _ (by omega) (by omega)]
 by_cases h2:0 ≤ c
 ·rw [if_pos (by simpa using h2),if_pos h2]
 ·rw [if_neg (by simpa using h2),if_neg h2]
end
theorem Z92 (n m:Nat) (hn:1100000 ≤ n) (hm:1100000 ≤ m) (r:Int × List (List ByteArray)) (hrows:r.2.length ≤ 400) (hsz:∀ t ∈ r.2,∀ s ∈ t,s.size ≤ 1048576) (hlen:∀ t ∈ r.2,t.length ≤ 1048576) :
  ∀ (rest pre:List (List ByteArray)) (k j:Nat),r.2 = pre ++ rest → (∀ t ∈ pre,okT t) → rest.length + 1 ≤ k → rest.length + 1 ≤ j →
  ∃ b:Bool,spec_RelOk.l1 n r (fun _=>some true) k (pre.length:Int) = some b ∧ impl_isRel.l1 m r.2 (r.2.length:Int) r (fun _=>some true) j (pre.length:Int) = some b ∧ (b = true → ∀ t ∈ rest,okT t)
 | rest,pre,0,_,_,_,hk,_=>by omega
 | rest,pre,_,0,_,_,_,hj=>by omega
 | [],pre,k + 1,j + 1,he,hpre,hk,hj=>by
  have l1:r.2.length = pre.length:=by rw [he]; simp
  refine ⟨true,?_,?_,fun _ t ht=>by cases ht⟩
  ·unfold spec_RelOk.l1
   rw [if_neg (by simp; omega)]
  ·unfold impl_isRel.l1
   rw [if_neg (by simp; omega)]
 | t :: rest,pre,k + 1,j + 1,he,hpre,hk,hj=>by
  have l1:r.2.length = pre.length + (rest.length + 1):=by rw [he]; simp
  have hmem:t ∈ r.2:=by rw [he]; simp
  have gT:List.getD r.2 pre.length [] = t:=by rw [he,Z0z]
  obtain ⟨b,b1,b2,b3⟩:=Z6G n m hn hm t (hsz t hmem);rw [← gT] at b1 b2;have hlt:pre.length < r.2.length:=by omega
  have hpl:pre.length ≤ 1000:=by omega
  by_cases hlen':((List.getD r.2 pre.length []).length:Int) = r.1
  ·cases b with
   | false=>exact ⟨false,RO_not n r _ k _ hpl hlt hlen' b1,IR_not m r _ j _ hpl hlt b2,fun h=>by cases h⟩
   | true =>
    have ht:=b3 rfl;have key:=Z92 n m hn hm r hrows hsz hlen rest (pre ++ [t]) k j (by rw [he]; simp) (fun x hx=>by
     rcases List.mem_append.1 hx with hx | hx
     ·exact hpre x hx
     ·simp only [List.mem_singleton] at hx; subst hx; exact ht) (by simp at hk; omega) (by simp at hj; omega)
    rw [← succ_mid'] at key;obtain ⟨b',k1,k2,k3⟩:=key;have k3':b' = true → ∀ x ∈ t :: rest,okT x:=fun h x hx=>by
     rcases List.mem_cons.1 hx with rfl | hx
     ·exact ht
     ·exact k3 h x hx
    rcases List.eq_nil_or_concat pre with hnil | ⟨q,p,hqp⟩
    ·have h0:pre.length = 0:=by rw [hnil]; rfl
     rw [Z9q n r _ k _ hpl hlt hlen' b1 h0,IR_first m r _ j _ hpl hlt hlen' b2 h0];exact ⟨b',k1,k2,k3'⟩
    ·have lq:pre.length = q.length + 1:=by rw [hqp]; simp
     have gP:List.getD r.2 (pre.length - 1) [] = p:=by
      rw [show pre.length - 1 = q.length by omega,he,hqp]
      simp [List.getD]
     have hp:okT p:=hpre p (by rw [hqp]; simp);obtain ⟨c,c1,c2,c3⟩:=Z6s n m (by omega) (by omega) p t hp ht;rw [← gT,← gP] at c1 c2;rw [ZCU n r _ k _ hpl hlt hlen' b1 (by omega) c1,IR_next m r _ j _ hpl hlt hlen' b2 (by omega) c2]
     by_cases hc:0 ≤ c
     ·rw [if_pos hc,if_pos hc]
      exact ⟨false,rfl,rfl,fun h=>by cases h⟩
     ·rw [if_neg hc,if_neg hc]
      exact ⟨b',k1,k2,k3'⟩
  ·refine ⟨false,RO_len n r _ k _ hpl hlt hlen',?_,fun h=>by cases h⟩
   cases b with
   | false=>exact IR_not m r _ j _ hpl hlt b2
   | true=>exact IR_len m r _ j _ hpl hlt hlen' b2
def okR (r:Int × List (List ByteArray)):Prop:=0 ≤ r.1 ∧ r.1 ≤ 6 ∧ r.2.length ≤ 400 ∧ ∀ t ∈ r.2,okT t
theorem Z79 (n m:Nat) (hn:1100000 ≤ n) (hm:1100000 ≤ m) (r:Int × List (List ByteArray)) (hsz:∀ t ∈ r.2,∀ s ∈ t,s.size ≤ 1048576) (hlen:∀ t ∈ r.2,t.length ≤ 1048576) :
  ∃ b,spec_RelOk.F n r = some b ∧ impl_isRel.F m r = some b ∧ (b = true → okR r):=by
 by_cases h1:0 ≤ r.1 ∧ r.1 ≤ 6
 ·by_cases h2:r.2.length ≤ 400
  ·obtain ⟨b,b1,b2,b3⟩:=Z92 n m hn hm r h2 hsz hlen r.2 [] n m rfl (fun t ht=>by cases ht) (by omega) (by omega)
   simp only [List.length_nil] at b1 b2;rw [show ((0:Nat):Int) = 0 from rfl] at b1 b2;refine ⟨b,?_,?_,fun h=>⟨h1.1,h1.2,h2,b3 h⟩⟩
   ·unfold spec_RelOk.F
    rw [Z0Y];simp only [Option.bind_some];rw [if_pos (by simp; omega),if_neg (by simp; omega)];exact b1
   ·unfold impl_isRel.F
    rw [ZAQ];simp only [Option.bind_some];rw [if_pos (by simp; omega),if_neg (by simp; omega)];exact b2
  ·refine ⟨false,?_,?_,fun h=>by cases h⟩
   ·unfold spec_RelOk.F
    rw [Z0Y];simp only [Option.bind_some];rw [if_pos (by simp; omega),if_pos (by simp; omega)]
   ·unfold impl_isRel.F
    rw [ZAQ];simp only [Option.bind_some];rw [if_pos (by simp; omega),if_pos (by simp; omega)]
 ·refine ⟨false,?_,?_,fun h=>by cases h⟩
  ·unfold spec_RelOk.F
   rw [Z0Y];simp only [Option.bind_some];rw [if_neg (by simp; omega)]
  ·unfold impl_isRel.F
   rw [ZAQ];simp only [Option.bind_some];rw [if_neg (by simp; omega)]
end Go.Abs
