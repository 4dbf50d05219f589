/- The changes of two Dbs: both sides alike. Conditions: none. -/
import Derived.Test.YtgdlicpmbgodjaaGreatDoorR3
namespace Go.Abs
set_option linter.unusedVariables false
set_option linter.unusedSimpArgs false
theorem Z2u (n m:Nat) (hn:1100000 ≤ n) (hm:1100000 ≤ m) (a b:Int × List (List ByteArray)) (hsa:∀ t ∈ a.2,∀ s ∈ t,s.size ≤ 1048576) (hla:∀ t ∈ a.2,t.length ≤ 1048576) (hsb:∀ t ∈ b.2,∀ s ∈ t,s.size ≤ 1048576) (hlb:∀ t ∈ b.2,t.length ≤ 1048576) :
  ∃ w,spec_RelLess.F n a b = some w ∧ impl_RelLess.F m a b = some w ∧ (w = (0,[]) ∨ w = (a.1,Z0W a.2 b.2) ∧ okR a ∧ okR b ∧ a.1 = b.1) ∧ (spec_RelOk.F n a = some true → spec_RelOk.F n b = some true → a.1 = b.1 → w = (a.1,Z0W a.2 b.2)):=by
 obtain ⟨p,p1,p2,p3⟩:=Z7J n m hn hm a hsa hla;obtain ⟨q,q1,q2,q3⟩:=Z7J n m hn hm b hsb hlb;unfold spec_RelLess.F impl_RelLess.F;rw [p1,p2,q1,q2];cases p with
 | false=>exact ⟨(0,[]),rfl,rfl,.inl rfl,fun h=>by cases h⟩
 | true =>
  cases q with
  | false=>exact ⟨(0,[]),rfl,rfl,.inl rfl,fun _ h=>by cases h⟩
  | true =>
   simp only [Option.bind_some,Bool.not_true,if_true]
   by_cases har:a.1 = b.1
   ·have okA:=p3 rfl
    have okB:=q3 rfl;have hA:a.2.length ≤ 400:=okA.2.2.1;have hB:b.2.length ≤ 400:=okB.2.2.1;refine ⟨(a.1,Z0W a.2 b.2),?_,?_,.inr ⟨rfl,okA,okB,har⟩,fun _ _ _=>rfl⟩
    ·rw [if_neg (by simp [har])]
     unfold spec_RelLess.j0;have:=Z3k n a b (0,[]) (fun x=>some x) (by omega) (by omega) (by omega) (fun x hx=>by have:=hla x hx; omega) (fun x hx=>by have:=hlb x hx; omega) n 0 a.1 (Nat.zero_le _) (by omega);rw [show ((0:Nat):Int) = 0 from rfl,List.take_zero] at this;exact this
    ·rw [if_neg (by simp [har])]
     unfold impl_RelLess.j0;rw [Z68 m a (by omega) (by omega) (fun x hx=>by have:=hla x hx; omega)];simp only [Option.bind_some];unfold slices_DeleteFunc_Tuple_Tuple.F delF;rw [if_pos (by omega),Z2p (q:=fun t=>inL t b.2) (fun x hx=>by
      show ((impl_Rel_has.F m b x).bind some) = _;rw [Z6G m b x (by omega) (by omega) (fun x hx=>by have:=hlb x hx; omega)]
      rfl)]
     rfl
   ·have hc:(!decide (a.1 = b.1)) = true:=by simp [har]
    exact ⟨(0,[]),by rw [if_pos hc],by rw [if_pos hc],.inl rfl,fun _ _ h=>absurd h har⟩
def Z7x:List Re → List Re → Bool
 | a :: l,b :: r=>decide (a.1 = b.1) && Z7x l r
 | _,_=>true
theorem Z2I (a b:List Tu):(Z0W a b).length ≤ a.length:=List.length_filter_le _ _
theorem Z23 (i:Int) (f:Bool) (l:List Tu):(Z5Q i f l).length = l.length:=List.length_map ..
theorem chg_len (i:Int) (a b:Re):(chg i a b).length ≤ a.2.length + b.2.length:=by
 unfold chg;rw [List.length_append,Z23,Z23];exact Nat.add_le_add (Z2I _ _) (Z2I _ _)
theorem Z78 (n:Nat) (i:Int) (w1 w2:List Tu) (a b:List Re) (K:List Ch → Option (List Ch × Bool)):∀ (k j:Nat) (out:List Ch),j ≤ w1.length → w1.length - j < k → out.length + (w1.length - j) ≤ 4294967296 → w1.length ≤ 4294967296 →
  spec_Changes.l2 n i w1 w2 a b K k (j:Int) out = K (out ++ Z5Q i false (w1.drop j))
 | 0,j,out,hj,hk,ho,hw=>absurd hk (Nat.not_lt_zero _)
 | k + 1,j,out,hj,hk,ho,hw=>by
  by_cases h:j < w1.length
  ·conv=>lhs; unfold spec_Changes.l2
   rw [if_pos (dlt h),if_pos (inl' h),Z0P _ h,if_pos (by simp [lim]; omega),wr1 (by omega),Z78 n i w1 w2 a b K k (j + 1) _ (by omega) (by omega) (by simp; omega) hw,List.drop_eq_getElem_cons h,List.append_assoc]
   rfl
  ·conv=>lhs; unfold spec_Changes.l2
   rw [if_neg (dnl h),List.drop_of_length_le (by omega)]
   simp [Z5Q]
theorem Z77 (n:Nat) (i:Int) (w1:List Tu) (a b:List Re) (K:List Ch → Option (List Ch × Bool)):∀ (k j:Nat) (out:List Ch),j ≤ w1.length → w1.length - j < k → out.length + (w1.length - j) ≤ 4294967296 → w1.length ≤ 4294967296 →
  spec_Changes.l3 n i w1 a b K k (j:Int) out = K (out ++ Z5Q i true (w1.drop j))
 | 0,j,out,hj,hk,ho,hw=>absurd hk (Nat.not_lt_zero _)
 | k + 1,j,out,hj,hk,ho,hw=>by
  by_cases h:j < w1.length
  ·conv=>lhs; unfold spec_Changes.l3
   rw [if_pos (dlt h),if_pos (inl' h),Z0P _ h,if_pos (by simp [lim]; omega),wr1 (by omega),Z77 n i w1 a b K k (j + 1) _ (by omega) (by omega) (by simp; omega) hw,List.drop_eq_getElem_cons h,List.append_assoc]
   rfl
  ·conv=>lhs; unfold spec_Changes.l3
   rw [if_neg (dnl h),List.drop_of_length_le (by omega)]
   simp [Z5Q]
theorem Z7h (n:Nat) (i:Int) (a:List Re) (la i':Int) (b:List Re) (ra r:Re) (K:List Ch → Option (List Ch × Bool)):∀ (k j:Nat) (out:List Ch),j ≤ r.2.length → r.2.length - j < k → out.length + (r.2.length - j) ≤ 4294967296 → r.2.length ≤ 4294967296 →
  impl_Changes.l2 n i a la i' r.2 (r.2.length:Int) b ra K k (j:Int) out = K (out ++ Z5Q i false (r.2.drop j))
 | 0,j,out,hj,hk,ho,hw=>absurd hk (Nat.not_lt_zero _)
 | k + 1,j,out,hj,hk,ho,hw=>by
  by_cases h:j < r.2.length
  ·conv=>lhs; unfold impl_Changes.l2
   rw [if_pos (dlt h),if_pos (inl' h),Z0P _ h,if_pos (by simp [lim]; omega),wr1 (by omega),Z7h n i a la i' b ra r K k (j + 1) _ (by omega) (by omega) (by simp; omega) hw,List.drop_eq_getElem_cons h,List.append_assoc]
   rfl
  ·conv=>lhs; unfold impl_Changes.l2
   rw [if_neg (dnl h),List.drop_of_length_le (by omega)]
   simp [Z5Q]
theorem Z7g (n:Nat) (i:Int) (a:List Re) (la i':Int) (b:List Re) (r:Re) (K:List Ch → Option (List Ch × Bool)):∀ (k j:Nat) (out:List Ch),j ≤ r.2.length → r.2.length - j < k → out.length + (r.2.length - j) ≤ 4294967296 → r.2.length ≤ 4294967296 →
  impl_Changes.l3 n i a la i' r.2 (r.2.length:Int) b K k (j:Int) out = K (out ++ Z5Q i true (r.2.drop j))
 | 0,j,out,hj,hk,ho,hw=>absurd hk (Nat.not_lt_zero _)
 | k + 1,j,out,hj,hk,ho,hw=>by
  by_cases h:j < r.2.length
  ·conv=>lhs; unfold impl_Changes.l3
   rw [if_pos (dlt h),if_pos (inl' h),Z0P _ h,if_pos (by simp [lim]; omega),wr1 (by omega),Z7g n i a la i' b r K k (j + 1) _ (by omega) (by omega) (by simp; omega) hw,List.drop_eq_getElem_cons h,List.append_assoc]
   rfl
  ·conv=>lhs; unfold impl_Changes.l3
   rw [if_neg (dnl h),List.drop_of_length_le (by omega)]
   simp [Z5Q]
structure DbOk (n m:Nat) (d:List Re):Prop where
 len:d.length ≤ 20
 rel:∀ x ∈ d,okR x
 ok:∀ x ∈ d,spec_RelOk.F n x = some true
 ok':∀ x ∈ d,impl_isRel.F m x = some true
 sz:∀ x ∈ d,∀ t ∈ x.2,∀ s ∈ t,s.size ≤ 1048576
 ln:∀ x ∈ d,∀ t ∈ x.2,t.length ≤ 1048576
theorem Z99 (n m:Nat) (hn:1100000 ≤ n) (hm:1100000 ≤ m) (d:List Re) (hd:d.length ≤ 1048576) (hs:∀ x ∈ d,∀ t ∈ x.2,∀ s ∈ t,s.size ≤ 1048576) (hs2:∀ x ∈ d,∀ t ∈ x.2,t.length ≤ 1048576) :
  ∃ b,spec_DbShape.F n d = some b ∧ impl_isShape.F m d = some b ∧ (b = true → DbOk n m d):=by
 obtain ⟨b,b1,b2,b3⟩:=db_eq n m hn hm d hd hs hs2;refine ⟨b,b1,b2,fun hb=>?_⟩;subst hb;obtain ⟨h1,h2⟩:=b3 rfl;have h3:∀ x ∈ d,spec_RelOk.F n x = some true:=by
  unfold spec_DbShape.F at b1
  split at b1
  ·cases b1
  ·have:=Z7C n d hd (fun _=>some true) n 0 b1
   rwa [List.drop_zero] at this
 refine ⟨h1,h2,h3,fun x hx=>?_,hs,hs2⟩;obtain ⟨c,c1,c2,_⟩:=Z7J n m hn hm x (hs x hx) (hs2 x hx);rw [h3 x hx] at c1;rw [c2,← c1]
theorem Z6x (n:Nat) (a b:List Re) (hab:a.length = b.length) (ha:a.length ≤ 1048576):∀ (k i:Nat),i ≤ a.length → a.length - i < k →
  slices_EqualFunc_Rel_Rel_Rel_Rel.l0 n b (fun a5=>(impl_Changes_1.F n a5.1 a5.2.1).bind some) a (a.length:Int) (fun _=>some true) k (i:Int) = some (Z7x (a.drop i) (b.drop i))
 | 0,i,hi,hk=>absurd hk (Nat.not_lt_zero _)
 | k + 1,i,hi,hk=>by
  by_cases h:i < a.length
  ·have h2:i < b.length:=by omega
   conv=>lhs; unfold slices_EqualFunc_Rel_Rel_Rel_Rel.l0
   rw [if_pos (dlt h),if_pos (inl' h),if_pos (inl' h2),Z0P _ h,Z0P _ h2,wr1 (by omega),List.drop_eq_getElem_cons h,List.drop_eq_getElem_cons h2];show (if (!decide ((a[i]).1 = (b[i]).1)) = true then _ else _) = _
   by_cases e:(a[i]).1 = (b[i]).1
   ·rw [if_neg (by simp [e]),Z6x n a b hab ha k (i + 1) (by omega) (by omega)]
    simp [Z7x,e]
   ·rw [if_pos (by simp [e])]
    simp [Z7x,e]
  ·conv=>lhs; unfold slices_EqualFunc_Rel_Rel_Rel_Rel.l0
   rw [if_neg (dnl h),List.drop_of_length_le (by omega)]
   rfl
section
variable (n m:Nat) (hn:1100000 ≤ n) (hm:1100000 ≤ m) (a b:List Re) (A:DbOk n m a) (B:DbOk n m b) (hab:a.length = b.length)
include hn hm A B hab
theorem Z79:∀ (k i:Nat) (out:List Ch),i ≤ a.length → a.length - i < k → out.length ≤ i * 800 →
  spec_Changes.l1 n a b (fun t=>some (t,true)) k (i:Int) out = if Z7x (a.drop i) (b.drop i) = true then some (out ++ chs (a.drop i) (b.drop i) (i:Int),true) else some ([],false)
 | 0,i,out,hi,hk,ho=>absurd hk (Nat.not_lt_zero _)
 | k + 1,i,out,hi,hk,ho=>by
  have hA:=A.len
  by_cases h:i < a.length
  ·have h2:i < b.length:=by omega
   have ma:=List.getElem_mem h;have mb:=List.getElem_mem h2;have la:(a[i]).2.length ≤ 400:=(A.rel _ ma).2.2.1;have lb:(b[i]).2.length ≤ 400:=(B.rel _ mb).2.2.1;have da:=List.drop_eq_getElem_cons h;have db:=List.drop_eq_getElem_cons h2
   conv=>lhs; unfold spec_Changes.l1
   rw [if_pos (dlt h),if_pos (inl' h),if_pos (inl' h2),Z0P _ h,Z0P _ h2,wr1 (by omega),da,db]
   by_cases e:(a[i]).1 = (b[i]).1
   ·obtain ⟨w,w1,w2,_,w4⟩:=Z2u n m hn hm a[i] b[i] (A.sz _ ma) (A.ln _ ma) (B.sz _ mb) (B.ln _ mb)
    obtain ⟨v,v1,v2,_,v4⟩:=Z2u n m hn hm b[i] a[i] (B.sz _ mb) (B.ln _ mb) (A.sz _ ma) (A.ln _ ma);have w5:=w4 (A.ok _ ma) (B.ok _ mb) e;have v5:=v4 (B.ok _ mb) (A.ok _ ma) e.symm;have lw:w.2.length ≤ 400:=by rw [w5]; exact Nat.le_trans (Z2I _ _) la
    have lv:v.2.length ≤ 400:=by rw [v5]; exact Nat.le_trans (Z2I _ _) lb
    rw [if_neg (by simp [e]),if_pos (inl' h),if_pos (inl' h2),w1];simp only [Option.bind_some];rw [if_pos (inl' h2),if_pos (inl' h),v1];simp only [Option.bind_some];rw [show (0:Int) = ((0:Nat):Int) from rfl,Z78 n _ w.2 v.2 a b _ n 0 out (Nat.zero_le _) (by omega) (by omega) (by omega),Z77 n _ v.2 a b _ n 0 _ (Nat.zero_le _) (by omega) (by
     rw [List.length_append,Z23,List.drop_zero]; omega) (by omega),List.drop_zero,List.drop_zero,Z79 k (i + 1) _ (by omega) (by omega) (by
     rw [List.length_append,List.length_append,Z23,Z23]; omega)]
    have e1:Z7x (a[i] :: a.drop (i + 1)) (b[i] :: b.drop (i + 1)) = Z7x (a.drop (i + 1)) (b.drop (i + 1)):=by simp [Z7x,e]
    rw [e1]
    by_cases e2:Z7x (a.drop (i + 1)) (b.drop (i + 1)) = true
    ·rw [if_pos e2,if_pos e2]
     have:chs (a[i] :: a.drop (i + 1)) (b[i] :: b.drop (i + 1)) (i:Int) = Z5Q i false w.2 ++ Z5Q i true v.2 ++ chs (a.drop (i + 1)) (b.drop (i + 1)) ((i + 1:Nat):Int):=by
      rw [w5,v5]; rfl
     rw [this]
     simp [List.append_assoc]
    ·rw [if_neg e2,if_neg e2]
   ·rw [if_pos (by simp [e]),if_neg (by simp [Z7x,e])]
  ·conv=>lhs; unfold spec_Changes.l1
   rw [if_neg (dnl h),List.drop_of_length_le (by omega),List.drop_of_length_le (by omega)]
   simp [Z7x,chs]
theorem Z5D (har:∀ i (h:i < a.length) (h2:i < b.length),(a[i]).1 = (b[i]).1):∀ (k i:Nat) (out:List Ch),i ≤ a.length → a.length - i < k → out.length ≤ i * 800 →
  impl_Changes.l1 m a (a.length:Int) b (fun t=>some (t,true)) k (i:Int) out = some (out ++ chs (a.drop i) (b.drop i) (i:Int),true)
 | 0,i,out,hi,hk,ho=>absurd hk (Nat.not_lt_zero _)
 | k + 1,i,out,hi,hk,ho=>by
  have hA:=A.len
  by_cases h:i < a.length
  ·have h2:i < b.length:=by omega
   have ma:=List.getElem_mem h;have mb:=List.getElem_mem h2;have la:(a[i]).2.length ≤ 400:=(A.rel _ ma).2.2.1;have lb:(b[i]).2.length ≤ 400:=(B.rel _ mb).2.2.1;have da:=List.drop_eq_getElem_cons h;have db:=List.drop_eq_getElem_cons h2;have e:=har i h h2
   conv=>lhs; unfold impl_Changes.l1
   rw [if_pos (dlt h),if_pos (inl' h),if_pos (inl' h2),Z0P _ h,Z0P _ h2,wr1 (by omega),da,db];obtain ⟨w,w1,w2,_,w4⟩:=Z2u n m hn hm a[i] b[i] (A.sz _ ma) (A.ln _ ma) (B.sz _ mb) (B.ln _ mb);obtain ⟨v,v1,v2,_,v4⟩:=Z2u n m hn hm b[i] a[i] (B.sz _ mb) (B.ln _ mb) (A.sz _ ma) (A.ln _ ma);have w5:=w4 (A.ok _ ma) (B.ok _ mb) e;have v5:=v4 (B.ok _ mb) (A.ok _ ma) e.symm;have lw:w.2.length ≤ 400:=by rw [w5]; exact Nat.le_trans (Z2I _ _) la
   have lv:v.2.length ≤ 400:=by rw [v5]; exact Nat.le_trans (Z2I _ _) lb
   rw [w2];simp only [Option.bind_some];rw [show (0:Int) = ((0:Nat):Int) from rfl,Z7h m _ a _ _ b _ w _ m 0 out (Nat.zero_le _) (by omega) (by omega) (by omega)];rw [if_pos (by omega),v2];simp only [Option.bind_some];rw [Z7g m _ a _ _ b v _ m 0 _ (Nat.zero_le _) (by omega) (by
     rw [List.length_append,Z23,List.drop_zero]; omega) (by omega),List.drop_zero,List.drop_zero,Z5D har k (i + 1) _ (by omega) (by omega) (by
     rw [List.length_append,List.length_append,Z23,Z23]; omega)]
   have:chs (a[i] :: a.drop (i + 1)) (b[i] :: b.drop (i + 1)) (i:Int) = Z5Q i false w.2 ++ Z5Q i true v.2 ++ chs (a.drop (i + 1)) (b.drop (i + 1)) ((i + 1:Nat):Int):=by
    rw [w5,v5]; rfl
   rw [this]
   simp [List.append_assoc]
  ·conv=>lhs; unfold impl_Changes.l1
   rw [if_neg (dnl h),List.drop_of_length_le (by omega),List.drop_of_length_le (by omega)]
   simp [chs]
end
theorem Z6p:∀ {a b:List Re},Z7x a b = true → ∀ i (h:i < a.length) (h2:i < b.length),(a[i]).1 = (b[i]).1
 | [],_,_,i,h,_=>absurd h (Nat.not_lt_zero _)
 | _ :: _,[],_,i,_,h=>absurd h (Nat.not_lt_zero _)
 | x :: a,y :: b,e,i,h,h2=>by
  simp only [Z7x,Bool.and_eq_true,decide_eq_true_eq] at e;cases i with
  | zero=>exact e.1
  | succ i=>exact Z6p e.2 i (by simpa using h) (by simpa using h2)
theorem ZCB:∀ {a b:List Re} {i:Int} {c:Ch},c ∈ chs a b i → (∃ x ∈ a,c.2.1 ∈ x.2) ∨ ∃ x ∈ b,c.2.1 ∈ x.2
 | [],_,_,_,h=>by cases h
 | _ :: _,[],_,_,h=>by cases h
 | x :: a,y :: b,i,c,h=>by
  rcases List.mem_append.1 (show c ∈ chg i x y ++ chs a b (i + 1) from h) with h | h
  ·rcases List.mem_append.1 (show c ∈ Z5Q i false (Z0W x.2 y.2) ++ Z5Q i true (Z0W y.2 x.2) from h) with h | h
   ·obtain ⟨t,ht,rfl⟩:=List.mem_map.1 h
    exact .inl ⟨x,List.mem_cons_self,(List.mem_filter.1 ht).1⟩
   ·obtain ⟨t,ht,rfl⟩:=List.mem_map.1 h
    exact .inr ⟨y,List.mem_cons_self,(List.mem_filter.1 ht).1⟩
  ·rcases ZCB h with ⟨z,h1,h2⟩ | ⟨z,h1,h2⟩
   ·exact .inl ⟨z,List.mem_cons_of_mem _ h1,h2⟩
   ·exact .inr ⟨z,List.mem_cons_of_mem _ h1,h2⟩
theorem ZCC:∀ {a b:List Re} {i:Int},(∀ x ∈ a,x.2.length ≤ 400) → (∀ x ∈ b,x.2.length ≤ 400) → (chs a b i).length ≤ a.length * 800
 | [],_,_,_,_=>Nat.zero_le _
 | _ :: _,[],_,_,_=>Nat.zero_le _
 | x :: a,y :: b,i,h,h'=>by
  show (chg i x y ++ chs a b (i + 1)).length ≤ _;have h1:=chg_len i x y;have h2:=h x List.mem_cons_self;have h3:=h' y List.mem_cons_self;have h4:=ZCC (a:=a) (b:=b) (i:=i + 1) (fun z hz=>h z (List.mem_cons_of_mem _ hz)) (fun z hz=>h' z (List.mem_cons_of_mem _ hz));rw [List.length_append,List.length_cons];omega
theorem ZAf (n m:Nat) (hn:1100000 ≤ n) (hm:1100000 ≤ m) (a b:List Re) (ha:a.length ≤ 1048576) (hsa:∀ x ∈ a,∀ t ∈ x.2,∀ s ∈ t,s.size ≤ 1048576) (hla:∀ x ∈ a,∀ t ∈ x.2,t.length ≤ 1048576)
  (hb:b.length ≤ 1048576) (hsb:∀ x ∈ b,∀ t ∈ x.2,∀ s ∈ t,s.size ≤ 1048576) (hlb:∀ x ∈ b,∀ t ∈ x.2,t.length ≤ 1048576) :
  ∃ w,spec_Changes.F n a b = some w ∧ impl_Changes.F m a b = some w ∧ (w = ([],false) ∨ w = (chs a b 0,true) ∧ DbOk n m a ∧ DbOk n m b ∧ a.length = b.length ∧ Z7x a b = true):=by
 obtain ⟨p,p1,p2,p3⟩:=Z99 n m hn hm a ha hsa hla;obtain ⟨q,q1,q2,q3⟩:=Z99 n m hn hm b hb hsb hlb;unfold spec_Changes.F impl_Changes.F;rw [p1,p2,q1,q2];cases p with
 | false=>exact ⟨([],false),rfl,rfl,.inl rfl⟩
 | true =>
  cases q with
  | false=>exact ⟨([],false),rfl,rfl,.inl rfl⟩
  | true =>
   have A:=p3 rfl;have B:=q3 rfl;have hA:=A.len;simp only [Option.bind_some,Bool.not_true,if_true];unfold slices_EqualFunc_Rel_Rel_Rel_Rel.F
   by_cases hab:a.length = b.length
   ·have h1:=Z6x m a b hab ha m 0 (Nat.zero_le _) (by omega)
    have h2:=Z79 n m hn hm a b A B hab n 0 [] (Nat.zero_le _) (by omega) (by simp);rw [List.drop_zero,List.drop_zero,show ((0:Nat):Int) = 0 from rfl] at h1 h2;have c1:(!decide ((a.length:Int) = (b.length:Int))) = true ↔ False:=by simp [hab]
    rw [if_neg (fun h=>c1.1 h),if_neg (fun h=>c1.1 h),h1];unfold spec_Changes.j0;rw [h2];simp only [Option.bind_some]
    by_cases e:Z7x a b = true
    ·refine ⟨(chs a b 0,true),by rw [if_pos e]; rfl,?_,.inr ⟨rfl,A,B,hab,e⟩⟩
     rw [if_neg (by simp [e])];unfold impl_Changes.j0;have h3:=Z5D n m hn hm a b A B hab (Z6p e) m 0 [] (Nat.zero_le _) (by omega) (by simp);rw [List.drop_zero,List.drop_zero,show ((0:Nat):Int) = 0 from rfl] at h3;rw [h3]
     rfl
    ·refine ⟨([],false),by rw [if_neg e],?_,.inl rfl⟩
     rw [if_pos (by simp [e])]
   ·have c1:(!decide ((a.length:Int) = (b.length:Int))) = true:=by simp; omega
    refine ⟨([],false),by rw [if_pos c1],?_,.inl rfl⟩;rw [if_pos c1]
    rfl
end Go.Abs
