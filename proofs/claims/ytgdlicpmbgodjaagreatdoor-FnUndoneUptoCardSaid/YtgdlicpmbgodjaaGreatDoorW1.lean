/- Copies, relations less rows, the shape of a Db: both sides alike. Conditions: none. -/
import Derived.Test.YtgdlicpmbgodjaaGreatDoorK3
import Derived.Test.YtgdlicpmbgodjaaGreatDoorV2
namespace Go.Abs
set_option linter.unusedVariables false
set_option linter.unusedSimpArgs false
theorem Z9M (n:Nat) (rows:List (List ByteArray)) (t:List ByteArray) (hr:rows.length ≤ 4294967296) (ht:∀ x ∈ rows,x.length ≤ 4294967295 ∧ x.length < n) (K:Unit → Option Bool):∀ (k i:Nat),i ≤ rows.length → rows.length - i < k →
  spec_l02Has.l0 n rows t K k (i:Int) = if inL t (rows.drop i) = true then some true else K ()
 | 0,i,hi,hk=>absurd hk (Nat.not_lt_zero _)
 | k + 1,i,hi,hk=>by
  by_cases h:i < rows.length
  ·have hx:=ht _ (List.getElem_mem h)
   have step:spec_l02Has.l0 n rows t K (k + 1) (i:Int) = if rows[i] = t then some true else spec_l02Has.l0 n rows t K k ((i + 1:Nat):Int):=by
    conv=>lhs; unfold spec_l02Has.l0
    rw [if_pos (dlt h),if_pos (inl' h),Z0c _ h,ZAK n _ t (by omega) hx.2,wr1 (by omega)]
    by_cases e:rows[i] = t <;> simp [e]
   rw [step,List.drop_eq_getElem_cons h]
   by_cases e:rows[i] = t
   ·rw [if_pos e,if_pos (by rw [Z9T,decide_eq_true e,Bool.true_or])]
   ·rw [if_neg e,Z9M n rows t hr ht K k (i + 1) (by omega) (by omega),Z9T,decide_eq_false e,Bool.false_or]
  ·conv=>lhs; unfold spec_l02Has.l0
   rw [if_neg (dnl h),List.drop_of_length_le (show rows.length ≤ i by omega)]
   rfl
theorem Z7T (n:Nat) (rows:List (List ByteArray)) (t:List ByteArray) (hr:rows.length ≤ 4294967296) (hn:rows.length < n) (ht:∀ x ∈ rows,x.length ≤ 4294967295 ∧ x.length < n):spec_l02Has.F n rows t = some (inL t rows):=by
 unfold spec_l02Has.F;have:=Z9M n rows t hr ht (fun _=>some false) n 0 (Nat.zero_le _) (by omega);rw [show ((0:Nat):Int) = 0 from rfl,List.drop_zero] at this;rw [this];cases inL t rows <;> rfl
theorem Z7f (n:Nat) (rows:List (List ByteArray)) (t5:Int × List (List ByteArray)) (K:(Int × List (List ByteArray)) → Option (Int × List (List ByteArray))) (ar:Int) (hr:rows.length ≤ 4294967296) (ht:∀ x ∈ rows,x.length ≤ 4294967296):∀ (k i:Nat),i ≤ rows.length → rows.length - i < k →
  impl_copyRel.l0 n rows (rows.length:Int) t5 K k (i:Int) (ar,rows.take i) = K (ar,rows)
 | 0,i,hi,hk=>absurd hk (Nat.not_lt_zero _)
 | k + 1,i,hi,hk=>by
  by_cases h:i < rows.length
  ·conv=>lhs; unfold impl_copyRel.l0
   rw [if_pos (dlt h),if_pos (inl' h),Z0c _ h,Z4A n _ (ht _ (List.getElem_mem h)),wr1 (by omega)];simp only [Option.bind_some];rw [if_pos (by simp [lim]; omega),← List.take_succ_eq_append_getElem h];exact Z7f n rows t5 K ar hr ht k (i + 1) (by omega) (by omega)
  ·conv=>lhs; unfold impl_copyRel.l0
   rw [if_neg (dnl h),List.take_of_length_le (by omega)]
theorem ZAX (n:Nat) (r:Int × List (List ByteArray)) (hr:r.2.length ≤ 4294967296) (hn:r.2.length < n) (ht:∀ x ∈ r.2,x.length ≤ 4294967296):impl_copyRel.F n r = some r:=by
 unfold impl_copyRel.F;have:=Z7f n r.2 (0,[]) (fun x=>some x) r.1 hr ht n 0 (Nat.zero_le _) (by omega);rw [show ((0:Nat):Int) = 0 from rfl,List.take_zero] at this;exact this
theorem Z49 {α:Type} {p:α × Unit → Option Bool} {q:α → Bool}:∀ {l:List α},(∀ x ∈ l,p (x,()) = some (q x)) → Z8b p l = some (l.filter fun x=>!q x)
 | [],_=>rfl
 | x :: l,h=>by
  simp only [Z8b,h x List.mem_cons_self,Option.bind_some,Z49 (l:=l) (fun y hy=>h y (List.mem_cons_of_mem _ hy)),List.filter_cons];cases q x <;> rfl
def Z10 (a b:List (List ByteArray)):List (List ByteArray):=a.filter fun t=>!inL t b
theorem Z2p (n:Nat) (a b t11:Int × List (List ByteArray)) (K:(Int × List (List ByteArray)) → Option (Int × List (List ByteArray))) (ha:a.2.length ≤ 4294967296) (hb:b.2.length ≤ 4294967296) (hn:b.2.length < n) (hta:∀ x ∈ a.2,x.length ≤ 4294967296) (ht:∀ x ∈ b.2,x.length ≤ 4294967295 ∧ x.length < n):∀ (k i:Nat) (ar:Int),i ≤ a.2.length → a.2.length - i < k →
  spec_RelLess.l1 n a b t11 K k (i:Int) (ar,Z10 (a.2.take i) b.2) = K (ar,Z10 a.2 b.2)
 | 0,i,ar,hi,hk=>absurd hk (Nat.not_lt_zero _)
 | k + 1,i,ar,hi,hk=>by
  by_cases h:i < a.2.length
  ·have hle:(Z10 (a.2.take i) b.2).length ≤ i:=Nat.le_trans (List.length_filter_le _ _) (by rw [List.length_take]; omega)
   have hs:Z10 (a.2.take (i + 1)) b.2 = Z10 (a.2.take i) b.2 ++ (if inL a.2[i] b.2 = true then [] else [a.2[i]]):=by
    rw [List.take_succ_eq_append_getElem h];unfold Z10;rw [List.filter_append]
    congr 1
    rw [List.filter_cons,List.filter_nil];cases inL a.2[i] b.2 <;> rfl
   conv=>lhs; unfold spec_RelLess.l1
   rw [if_pos (dlt h),if_pos (inl' h),Z0c _ h,Z7T n b.2 _ hb hn ht,wr1 (by omega)];simp only [Option.bind_some]
   by_cases e:inL a.2[i] b.2 = true
   ·rw [if_neg (by simp [e])]
    rw [if_pos e,List.append_nil] at hs;rw [← hs];exact Z2p n a b t11 K ha hb hn hta ht k (i + 1) ar (by omega) (by omega)
   ·rw [if_pos (by simp [e]),if_pos (inl' h),Z35 n _ (hta _ (List.getElem_mem h))]
    simp only [Option.bind_some];rw [if_pos (by simp [lim]; omega)];rw [if_neg e] at hs;rw [← hs];exact Z2p n a b t11 K ha hb hn hta ht k (i + 1) ar (by omega) (by omega)
  ·conv=>lhs; unfold spec_RelLess.l1
   rw [if_neg (dnl h),List.take_of_length_le (by omega)]
theorem Z9e (n m:Nat) (hn:1100000 ≤ n) (hm:1100000 ≤ m):∀ (r pre:List (Int × List (List ByteArray))) (k j:Nat),(pre ++ r).length ≤ 4294960000 → r.length + 1 ≤ k → r.length + 1 ≤ j → (∀ x ∈ r,∀ t ∈ x.2,∀ s ∈ t,s.size ≤ 1048576) → (∀ x ∈ r,∀ t ∈ x.2,t.length ≤ 1048576) →
  ∃ b:Bool,spec_DbShape.l0 n (pre ++ r) (fun _=>some true) k (pre.length:Int) = some b ∧
   (∃ i:Int,slices_IndexFunc_Rel_Rel.l0 m (pre ++ r) (fun a2=>(impl_isShape_1.F m a2.1).bind some) ((pre ++ r).length:Int) (fun _=>some (-1)) j (pre.length:Int) = some i ∧ decide (i ≥ 0) = !b) ∧
   (b = true → ∀ x ∈ r,okR x)
 | r,pre,0,_,_,hk,_,_,_=>by omega
 | r,pre,_,0,_,_,hj,_,_=>by omega
 | [],pre,k + 1,j + 1,hl,hk,hj,hs,hs2=>by
  unfold spec_DbShape.l0 slices_IndexFunc_Rel_Rel.l0;rw [if_neg (by simp),if_neg (by simp)];exact ⟨true,rfl,⟨-1,rfl,rfl⟩,fun _ s hs=>by cases hs⟩
 | x :: r,pre,k + 1,j + 1,hl,hk,hj,hs,hs2=>by
  simp only [List.length_append,List.length_cons] at hl hk hj;obtain ⟨b,b1,b2,b3⟩:=Z79 n m hn hm x (hs x List.mem_cons_self) (hs2 x List.mem_cons_self);unfold spec_DbShape.l0 slices_IndexFunc_Rel_Rel.l0;rw [if_pos (decide_eq_true (lt_mid' pre r x)),if_pos (in_mid' pre r x),if_pos (decide_eq_true (lt_mid' pre r x)),if_pos (in_mid' pre r x),Int.toNat_natCast,Z0z,b1];unfold impl_isShape_1.F;dsimp only;rw [b2];simp only [Option.bind_some];cases b with
  | false =>
   rw [if_pos (by simp),if_pos (by simp)];exact ⟨false,rfl,⟨_,rfl,by simp⟩,fun h=>by cases h⟩
  | true =>
   rw [if_neg (by simp),if_neg (by simp),Z0A _ (by omega) (by omega),succ_mid' pre x,assoc_mid'];obtain ⟨b',b1',⟨i,i1,i2⟩,b3'⟩:=Z9e n m hn hm r (pre ++ [x]) k j (by simp; omega) (by omega) (by omega) (fun y hy=>hs y (List.mem_cons_of_mem _ hy)) (fun y hy=>hs2 y (List.mem_cons_of_mem _ hy));refine ⟨b',b1',⟨i,i1,i2⟩,fun h y hy=>?_⟩;rcases List.mem_cons.1 hy with rfl | hy
   ·exact b3 rfl
   ·exact b3' h y hy
theorem db_eq (n m:Nat) (hn:1100000 ≤ n) (hm:1100000 ≤ m) (d:List (Int × List (List ByteArray))) (hd:d.length ≤ 1048576) (hs:∀ x ∈ d,∀ t ∈ x.2,∀ s ∈ t,s.size ≤ 1048576) (hs2:∀ x ∈ d,∀ t ∈ x.2,t.length ≤ 1048576) :
  ∃ b,spec_DbShape.F n d = some b ∧ impl_isShape.F m d = some b ∧ (b = true → d.length ≤ 20 ∧ ∀ x ∈ d,okR x):=by
 unfold spec_DbShape.F impl_isShape.F
 by_cases h:d.length ≤ 20
 ·rw [if_neg (by simp; omega),if_pos (by simp; omega)]
  obtain ⟨b,b1,⟨i,i1,i2⟩,b3⟩:=Z9e n m hn hm d [] n m (by simp; omega) (by omega) (by omega) hs hs2;simp only [List.nil_append,List.length_nil] at b1 i1;rw [show ((0:Nat):Int) = 0 from rfl] at b1 i1;unfold slices_ContainsFunc_Rel_Rel.F slices_IndexFunc_Rel_Rel.F;rw [b1,i1];simp only [Option.bind_some];rw [i2,Bool.not_not];exact ⟨b,rfl,rfl,fun hb=>⟨h,b3 hb⟩⟩
 ·rw [if_pos (by simp; omega),if_neg (by simp; omega)]
  exact ⟨false,rfl,rfl,fun h=>by cases h⟩
theorem Z4j (n:Nat) (d:List Re) (hd:d.length ≤ 1048576) (K:Unit → Option Bool):∀ (k i:Nat),spec_DbShape.l0 n d K k (i:Int) = some true → ∀ x ∈ d.drop i,spec_RelOk.F n x = some true
 | 0,i,h,x,hx=>by cases h
 | k + 1,i,h,x,hx=>by
  by_cases hi:i < d.length
  ·have h':=h
   conv at h'=>lhs; unfold spec_DbShape.l0
   rw [if_pos (dlt hi),if_pos (inl' hi),Z0c _ hi,wr1 (by omega)] at h';cases hr:spec_RelOk.F n d[i] with
   | none=>rw [hr] at h'; cases h'
   | some b =>
    rw [hr] at h';simp only [Option.bind_some] at h';cases b with
    | false=>cases h'
    | true =>
     rw [if_neg (by simp)] at h';rw [List.drop_eq_getElem_cons hi] at hx;rcases List.mem_cons.1 hx with rfl | hx
     ·exact hr
     ·exact Z4j n d hd K k (i + 1) h' x hx
  ·rw [List.drop_of_length_le (by omega)] at hx; cases hx
structure DbR (d:List Re):Prop where
 len:d.length ≤ 20
 rel:∀ x ∈ d,Z2X x
theorem shape_is (n m:Nat) (hn:1100000 ≤ n) (hm:1100000 ≤ m) (d:List Re) (hd:d.length ≤ 1048576) (hs:∀ x ∈ d,∀ t ∈ x.2,∀ s ∈ t,s.size ≤ 1048576) (hs2:∀ x ∈ d,∀ t ∈ x.2,t.length ≤ 1048576) :
  ∃ b,spec_DbShape.F n d = some b ∧ impl_isShape.F m d = some b ∧ (b = true → DbR d):=by
 obtain ⟨b,b1,b2,b3⟩:=db_eq n m hn hm d hd hs hs2;refine ⟨b,b1,b2,fun hb=>?_⟩;subst hb;obtain ⟨h1,h2⟩:=b3 rfl;have h3:∀ x ∈ d,spec_RelOk.F n x = some true:=by
  unfold spec_DbShape.F at b1
  split at b1
  ·cases b1
  ·have:=Z4j n d hd (fun _=>some true) n 0 b1
   rwa [List.drop_zero] at this
 exact ⟨h1,fun x hx=>relOk_is n hn x (h2 x hx) (h3 x hx)⟩
theorem Z65 (n:Nat) (hn:1100000 ≤ n) (r:Re) (R:Z2X r):impl_copyRel.F n r = some r:=by
 have h4:=R.base.2.2.1;exact ZAX n r (by omega) (by omega) (fun x hx=>by have:=(R.base.2.2.2 x hx).1; omega)
theorem Z7U (n:Nat) (hn:1100000 ≤ n) (r t4:Re) (R:Z2X r) (K:Re → Option Re):∀ (k i:Nat),i ≤ r.2.length → r.2.length - i < k →
  spec_l02Copy.l0 n r t4 K k (i:Int) (r.1,r.2.take i) = K r
 | 0,i,hi,hk=>absurd hk (Nat.not_lt_zero _)
 | k + 1,i,hi,hk=>by
  have h4:=R.base.2.2.1
  by_cases h:i < r.2.length
  ·have h6:=(R.base.2.2.2 _ (List.getElem_mem h)).1
   conv=>lhs; unfold spec_l02Copy.l0
   rw [if_pos (dlt h),if_pos (inl' h),Z0c _ h,Z35 n _ (by omega),wr1 (by omega)];simp only [Option.bind_some];rw [if_pos (by simp [lim]; omega),← List.take_succ_eq_append_getElem h];exact Z7U n hn r t4 R K k (i + 1) (by omega) (by omega)
  ·conv=>lhs; unfold spec_l02Copy.l0
   rw [if_neg (dnl h),List.take_of_length_le (by omega)]
theorem ZAL (n:Nat) (hn:1100000 ≤ n) (r:Re) (R:Z2X r):spec_l02Copy.F n r = some r:=by
 have h4:=R.base.2.2.1;unfold spec_l02Copy.F;have:=Z7U n hn r (0,[]) R (fun x=>some x) n 0 (Nat.zero_le _) (by omega);rw [show ((0:Nat):Int) = 0 from rfl,List.take_zero] at this;exact this
theorem Z7Q (n:Nat) (hn:1100000 ≤ n) (d t4:List Re) (D:DbR d) (K:List Re → Option (List Re)):∀ (k i:Nat),i ≤ d.length → d.length - i < k →
  spec_l10Copy.l0 n d t4 K k (i:Int) (d.take i) = K d
 | 0,i,hi,hk=>absurd hk (Nat.not_lt_zero _)
 | k + 1,i,hi,hk=>by
  have h20:=D.len
  by_cases h:i < d.length
  ·conv=>lhs; unfold spec_l10Copy.l0
   rw [if_pos (dlt h),if_pos (inl' h),Z0c _ h,ZAL n hn _ (D.rel _ (List.getElem_mem h)),wr1 (by omega)];simp only [Option.bind_some];rw [if_pos (by simp [lim]; omega),← List.take_succ_eq_append_getElem h];exact Z7Q n hn d t4 D K k (i + 1) (by omega) (by omega)
  ·conv=>lhs; unfold spec_l10Copy.l0
   rw [if_neg (dnl h),List.take_of_length_le (by omega)]
theorem ZAJ (n:Nat) (hn:1100000 ≤ n) (d:List Re) (D:DbR d):spec_l10Copy.F n d = some d:=by
 have h20:=D.len;unfold spec_l10Copy.F;have:=Z7Q n hn d [] D (fun x=>some x) n 0 (Nat.zero_le _) (by omega);rw [show ((0:Nat):Int) = 0 from rfl,List.take_zero] at this;exact this
theorem Z9f (n:Nat) (hn:1100000 ≤ n) (d t5:List Re) (D:DbR d) (K:List Re → Option (List Re)):∀ (k i:Nat),i ≤ d.length → d.length - i < k →
  impl_copyDb.l0 n d (d.length:Int) t5 K k (i:Int) (d.take i) = K d
 | 0,i,hi,hk=>absurd hk (Nat.not_lt_zero _)
 | k + 1,i,hi,hk=>by
  have h20:=D.len
  by_cases h:i < d.length
  ·conv=>lhs; unfold impl_copyDb.l0
   rw [if_pos (dlt h),if_pos (inl' h),Z0c _ h,Z65 n hn _ (D.rel _ (List.getElem_mem h)),wr1 (by omega)];simp only [Option.bind_some];rw [if_pos (by simp [lim]; omega),← List.take_succ_eq_append_getElem h];exact Z9f n hn d t5 D K k (i + 1) (by omega) (by omega)
  ·conv=>lhs; unfold impl_copyDb.l0
   rw [if_neg (dnl h),List.take_of_length_le (by omega)]
theorem Z7g (n:Nat) (hn:1100000 ≤ n) (d:List Re) (D:DbR d):impl_copyDb.F n d = some d:=by
 have h20:=D.len;unfold impl_copyDb.F;have:=Z9f n hn d [] D (fun x=>some x) n 0 (Nat.zero_le _) (by omega);rw [show ((0:Nat):Int) = 0 from rfl,List.take_zero] at this;exact this
end Go.Abs
