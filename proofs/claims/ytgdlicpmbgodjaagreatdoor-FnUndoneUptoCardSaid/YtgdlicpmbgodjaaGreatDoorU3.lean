/- Changes that were made: all rows are tuples; they are made back. Conditions: none. -/
import Derived.Test.YtgdlicpmbgodjaaGreatDoorR3
namespace Go.Abs
set_option linter.unusedVariables false
set_option linter.unusedSimpArgs false
theorem Z5g (n m:Nat) (hn:1100000 ≤ n) (hm:1100000 ≤ m) (a b:Int × List (List ByteArray)) (hsa:∀ t ∈ a.2,∀ s ∈ t,s.size ≤ 1048576) (hla:∀ t ∈ a.2,t.length ≤ 1048576) (hsb:∀ t ∈ b.2,∀ s ∈ t,s.size ≤ 1048576) (hlb:∀ t ∈ b.2,t.length ≤ 1048576)
  (ha:spec_RelOk.F n a = some true) (hb:spec_RelOk.F n b = some true) (har:a.1 = b.1):spec_RelLess.F n a b = some (a.1,Z10 a.2 b.2):=by
 obtain ⟨p,p1,p2,p3⟩:=Z79 n m hn hm a hsa hla;obtain ⟨q,q1,q2,q3⟩:=Z79 n m hn hm b hsb hlb;rw [ha] at p1;rw [hb] at q1;cases p1;cases q1;unfold spec_RelLess.F;rw [ha,hb];simp only [Option.bind_some,Bool.not_true,if_true];have hA:a.2.length ≤ 400:=(p3 rfl).2.2.1;have hB:b.2.length ≤ 400:=(q3 rfl).2.2.1;rw [if_neg (by simp [har])];unfold spec_RelLess.j0;have:=Z2p n a b (0,[]) (fun x=>some x) (by omega) (by omega) (by omega) (fun x hx=>by have:=hla x hx; omega) (fun x hx=>by have:=hlb x hx; omega) n 0 a.1 (Nat.zero_le _) (by omega);rw [show ((0:Nat):Int) = 0 from rfl,List.take_zero] at this;exact this
def arEq:List Re → List Re → Bool
 | a :: l,b :: r=>decide (a.1 = b.1) && arEq l r
 | _,_=>true
theorem Z3S (a b:List Tu):(Z10 a b).length ≤ a.length:=List.length_filter_le _ _
theorem Z3Z (i:Int) (f:Bool) (l:List Tu):(ZC3 i f l).length = l.length:=List.length_map ..
theorem chg_len (i:Int) (a b:Re):(chg i a b).length ≤ a.2.length + b.2.length:=by
 unfold chg;rw [List.length_append,Z3Z,Z3Z];exact Nat.add_le_add (Z3S _ _) (Z3S _ _)
theorem Z6z (n:Nat) (i:Int) (w1 w2:List Tu) (a b:List Re) (K:List Ch → Option (List Ch × Bool)):∀ (k j:Nat) (out:List Ch),j ≤ w1.length → w1.length - j < k → out.length + (w1.length - j) ≤ 4294967296 → w1.length ≤ 4294967296 →
  spec_Changes.l2 n i w1 w2 a b K k (j:Int) out = K (out ++ ZC3 i false (w1.drop j))
 | 0,j,out,hj,hk,ho,hw=>absurd hk (Nat.not_lt_zero _)
 | k + 1,j,out,hj,hk,ho,hw=>by
  by_cases h:j < w1.length
  ·conv=>lhs; unfold spec_Changes.l2
   rw [if_pos (dlt h),if_pos (inl' h),Z0c _ h,if_pos (by simp [lim]; omega),wr1 (by omega),Z6z n i w1 w2 a b K k (j + 1) _ (by omega) (by omega) (by simp; omega) hw,List.drop_eq_getElem_cons h,List.append_assoc]
   rfl
  ·conv=>lhs; unfold spec_Changes.l2
   rw [if_neg (dnl h),List.drop_of_length_le (by omega)]
   simp [ZC3]
theorem Z6y (n:Nat) (i:Int) (w1:List Tu) (a b:List Re) (K:List Ch → Option (List Ch × Bool)):∀ (k j:Nat) (out:List Ch),j ≤ w1.length → w1.length - j < k → out.length + (w1.length - j) ≤ 4294967296 → w1.length ≤ 4294967296 →
  spec_Changes.l3 n i w1 a b K k (j:Int) out = K (out ++ ZC3 i true (w1.drop j))
 | 0,j,out,hj,hk,ho,hw=>absurd hk (Nat.not_lt_zero _)
 | k + 1,j,out,hj,hk,ho,hw=>by
  by_cases h:j < w1.length
  ·conv=>lhs; unfold spec_Changes.l3
   rw [if_pos (dlt h),if_pos (inl' h),Z0c _ h,if_pos (by simp [lim]; omega),wr1 (by omega),Z6y n i w1 a b K k (j + 1) _ (by omega) (by omega) (by simp; omega) hw,List.drop_eq_getElem_cons h,List.append_assoc]
   rfl
  ·conv=>lhs; unfold spec_Changes.l3
   rw [if_neg (dnl h),List.drop_of_length_le (by omega)]
   simp [ZC3]
structure DbOk (n m:Nat) (d:List Re):Prop where
 len:d.length ≤ 20
 rel:∀ x ∈ d,okR x
 ok:∀ x ∈ d,spec_RelOk.F n x = some true
 ok':∀ x ∈ d,impl_isRel.F m x = some true
 sz:∀ x ∈ d,∀ t ∈ x.2,∀ s ∈ t,s.size ≤ 1048576
 ln:∀ x ∈ d,∀ t ∈ x.2,t.length ≤ 1048576
theorem Z8w (n m:Nat) (hn:1100000 ≤ n) (hm:1100000 ≤ m) (d:List Re) (hd:d.length ≤ 1048576) (hs:∀ x ∈ d,∀ t ∈ x.2,∀ s ∈ t,s.size ≤ 1048576) (hs2:∀ x ∈ d,∀ t ∈ x.2,t.length ≤ 1048576) :
  ∃ b,spec_DbShape.F n d = some b ∧ impl_isShape.F m d = some b ∧ (b = true → DbOk n m d):=by
 obtain ⟨b,b1,b2,b3⟩:=db_eq n m hn hm d hd hs hs2;refine ⟨b,b1,b2,fun hb=>?_⟩;subst hb;obtain ⟨h1,h2⟩:=b3 rfl;have h3:∀ x ∈ d,spec_RelOk.F n x = some true:=by
  unfold spec_DbShape.F at b1
  split at b1
  ·cases b1
  ·have:=Z4j n d hd (fun _=>some true) n 0 b1
   rwa [List.drop_zero] at this
 refine ⟨h1,h2,h3,fun x hx=>?_,hs,hs2⟩;obtain ⟨c,c1,c2,_⟩:=Z79 n m hn hm x (hs x hx) (hs2 x hx);rw [h3 x hx] at c1;rw [c2,← c1]
section
variable (n m:Nat) (hn:1100000 ≤ n) (hm:1100000 ≤ m) (a b:List Re) (A:DbOk n m a) (B:DbOk n m b) (hab:a.length = b.length)
include hn hm A B hab
theorem Z70:∀ (k i:Nat) (out:List Ch),i ≤ a.length → a.length - i < k → out.length ≤ i * 800 →
  spec_Changes.l1 n a b (fun t=>some (t,true)) k (i:Int) out = if arEq (a.drop i) (b.drop i) = true then some (out ++ chs (a.drop i) (b.drop i) (i:Int),true) else some ([],false)
 | 0,i,out,hi,hk,ho=>absurd hk (Nat.not_lt_zero _)
 | k + 1,i,out,hi,hk,ho=>by
  have hA:=A.len
  by_cases h:i < a.length
  ·have h2:i < b.length:=by omega
   have ma:=List.getElem_mem h;have mb:=List.getElem_mem h2;have la:(a[i]).2.length ≤ 400:=(A.rel _ ma).2.2.1;have lb:(b[i]).2.length ≤ 400:=(B.rel _ mb).2.2.1;have da:=List.drop_eq_getElem_cons h;have db:=List.drop_eq_getElem_cons h2
   conv=>lhs; unfold spec_Changes.l1
   rw [if_pos (dlt h),if_pos (inl' h),if_pos (inl' h2),Z0c _ h,Z0c _ h2,wr1 (by omega),da,db]
   by_cases e:(a[i]).1 = (b[i]).1
   ·have w1:=Z5g n m hn hm a[i] b[i] (A.sz _ ma) (A.ln _ ma) (B.sz _ mb) (B.ln _ mb) (A.ok _ ma) (B.ok _ mb) e
    have v1:=Z5g n m hn hm b[i] a[i] (B.sz _ mb) (B.ln _ mb) (A.sz _ ma) (A.ln _ ma) (B.ok _ mb) (A.ok _ ma) e.symm;obtain ⟨w,w5⟩:∃ w,w = ((a[i]).1,Z10 (a[i]).2 (b[i]).2):=⟨_,rfl⟩
    obtain ⟨v,v5⟩:∃ v,v = ((b[i]).1,Z10 (b[i]).2 (a[i]).2):=⟨_,rfl⟩
    rw [← w5] at w1;rw [← v5] at v1;have lw:w.2.length ≤ 400:=by rw [w5]; exact Nat.le_trans (Z3S _ _) la
    have lv:v.2.length ≤ 400:=by rw [v5]; exact Nat.le_trans (Z3S _ _) lb
    rw [if_neg (by simp [e]),if_pos (inl' h),if_pos (inl' h2),w1];simp only [Option.bind_some];rw [if_pos (inl' h2),if_pos (inl' h),v1];simp only [Option.bind_some];rw [show (0:Int) = ((0:Nat):Int) from rfl,Z6z n _ w.2 v.2 a b _ n 0 out (Nat.zero_le _) (by omega) (by omega) (by omega),Z6y n _ v.2 a b _ n 0 _ (Nat.zero_le _) (by omega) (by
     rw [List.length_append,Z3Z,List.drop_zero]; omega) (by omega),List.drop_zero,List.drop_zero,Z70 k (i + 1) _ (by omega) (by omega) (by
     rw [List.length_append,List.length_append,Z3Z,Z3Z]; omega)]
    have e1:arEq (a[i] :: a.drop (i + 1)) (b[i] :: b.drop (i + 1)) = arEq (a.drop (i + 1)) (b.drop (i + 1)):=by simp [arEq,e]
    rw [e1]
    by_cases e2:arEq (a.drop (i + 1)) (b.drop (i + 1)) = true
    ·rw [if_pos e2,if_pos e2]
     have:chs (a[i] :: a.drop (i + 1)) (b[i] :: b.drop (i + 1)) (i:Int) = ZC3 i false w.2 ++ ZC3 i true v.2 ++ chs (a.drop (i + 1)) (b.drop (i + 1)) ((i + 1:Nat):Int):=by
      rw [w5,v5]; rfl
     rw [this]
     simp [List.append_assoc]
    ·rw [if_neg e2,if_neg e2]
   ·rw [if_pos (by simp [e]),if_neg (by simp [arEq,e])]
  ·conv=>lhs; unfold spec_Changes.l1
   rw [if_neg (dnl h),List.drop_of_length_le (by omega),List.drop_of_length_le (by omega)]
   simp [arEq,chs]
end
theorem ZC1:∀ {a b:List Re} {i:Int} {c:Ch},c ∈ chs a b i → (∃ x ∈ a,c.2.1 ∈ x.2) ∨ ∃ x ∈ b,c.2.1 ∈ x.2
 | [],_,_,_,h=>by cases h
 | _ :: _,[],_,_,h=>by cases h
 | x :: a,y :: b,i,c,h=>by
  rcases List.mem_append.1 (show c ∈ chg i x y ++ chs a b (i + 1) from h) with h | h
  ·rcases List.mem_append.1 (show c ∈ ZC3 i false (Z10 x.2 y.2) ++ ZC3 i true (Z10 y.2 x.2) from h) with h | h
   ·obtain ⟨t,ht,rfl⟩:=List.mem_map.1 h
    exact .inl ⟨x,List.mem_cons_self,(List.mem_filter.1 ht).1⟩
   ·obtain ⟨t,ht,rfl⟩:=List.mem_map.1 h
    exact .inr ⟨y,List.mem_cons_self,(List.mem_filter.1 ht).1⟩
  ·rcases ZC1 h with ⟨z,h1,h2⟩ | ⟨z,h1,h2⟩
   ·exact .inl ⟨z,List.mem_cons_of_mem _ h1,h2⟩
   ·exact .inr ⟨z,List.mem_cons_of_mem _ h1,h2⟩
theorem ZC2:∀ {a b:List Re} {i:Int},(∀ x ∈ a,x.2.length ≤ 400) → (∀ x ∈ b,x.2.length ≤ 400) → (chs a b i).length ≤ a.length * 800
 | [],_,_,_,_=>Nat.zero_le _
 | _ :: _,[],_,_,_=>Nat.zero_le _
 | x :: a,y :: b,i,h,h'=>by
  show (chg i x y ++ chs a b (i + 1)).length ≤ _;have h1:=chg_len i x y;have h2:=h x List.mem_cons_self;have h3:=h' y List.mem_cons_self;have h4:=ZC2 (a:=a) (b:=b) (i:=i + 1) (fun z hz=>h z (List.mem_cons_of_mem _ hz)) (fun z hz=>h' z (List.mem_cons_of_mem _ hz));rw [List.length_append,List.length_cons];omega
theorem ZAZ (n m:Nat) (hn:1100000 ≤ n) (hm:1100000 ≤ m) (a b:List Re) (ha:a.length ≤ 1048576) (hsa:∀ x ∈ a,∀ t ∈ x.2,∀ s ∈ t,s.size ≤ 1048576) (hla:∀ x ∈ a,∀ t ∈ x.2,t.length ≤ 1048576)
  (hb:b.length ≤ 1048576) (hsb:∀ x ∈ b,∀ t ∈ x.2,∀ s ∈ t,s.size ≤ 1048576) (hlb:∀ x ∈ b,∀ t ∈ x.2,t.length ≤ 1048576) :
  ∃ w,spec_Changes.F n a b = some w ∧ (w = ([],false) ∨ w = (chs a b 0,true) ∧ DbOk n m a ∧ DbOk n m b ∧ a.length = b.length ∧ arEq a b = true):=by
 obtain ⟨p,p1,p2,p3⟩:=Z8w n m hn hm a ha hsa hla;obtain ⟨q,q1,q2,q3⟩:=Z8w n m hn hm b hb hsb hlb;unfold spec_Changes.F;rw [p1,q1];cases p with
 | false=>exact ⟨([],false),rfl,.inl rfl⟩
 | true =>
  cases q with
  | false=>exact ⟨([],false),rfl,.inl rfl⟩
  | true =>
   have A:=p3 rfl;have B:=q3 rfl;have hA:=A.len;simp only [Option.bind_some,Bool.not_true,if_true]
   by_cases hab:a.length = b.length
   ·have h2:=Z70 n m hn hm a b A B hab n 0 [] (Nat.zero_le _) (by omega) (by simp)
    rw [List.drop_zero,List.drop_zero,show ((0:Nat):Int) = 0 from rfl] at h2;have c1:(!decide ((a.length:Int) = (b.length:Int))) = true ↔ False:=by simp [hab]
    rw [if_neg (fun h=>c1.1 h)];unfold spec_Changes.j0;rw [h2]
    by_cases e:arEq a b = true
    ·exact ⟨(chs a b 0,true),by rw [if_pos e]; rfl,.inr ⟨rfl,A,B,hab,e⟩⟩
    ·exact ⟨([],false),by rw [if_neg e],.inl rfl⟩
   ·have c1:(!decide ((a.length:Int) = (b.length:Int))) = true:=by simp; omega
    exact ⟨([],false),by rw [if_pos c1],.inl rfl⟩
end Go.Abs
namespace Go.Abs
set_option linter.unusedVariables false
set_option linter.unusedSimpArgs false
theorem stepD_ok {d d':List Re} {c:Ch} {b:Bool} (D:DbR d) (hok:b = true → okT c.2.1) (h:Z1J d c b = some d'):okT c.2.1:=by
 unfold Z1J at h
 split at h
 ·rename_i hr
  obtain ⟨j,hj⟩:=Int.eq_ofNat_of_zero_le hr.1;have hjd:j < d.length:=by omega
  rw [hj,Int.toNat_natCast,getRe hjd] at h;have R:=D.rel _ (List.getElem_mem hjd)
  split at h
  ·split at h
   ·rename_i hf
    exact hok (Z8U hf).1
   ·cases h
  ·split at h
   ·rename_i hf
    exact R.base.2.2.2 _ (Z1C.1 hf)
   ·cases h
 ·cases h
theorem Z9m (n:Nat) (hn:1100000 ≤ n) (L:List Ch) (hL:L.length ≤ 1048576) (hsz:∀ c ∈ L,∀ s ∈ c.2.1,s.size ≤ 1048576):∀ (k i:Nat) (d:List Re),i ≤ L.length → L.length - i < k → DbR d →
  ∃ w,spec_Apply.l0 n L [] (fun t=>some (t,true)) k (i:Int) d = some w ∧ impl_Apply.l0 n L (L.length:Int) [] (fun t=>some (t,true)) k (i:Int) d = some w ∧ (w = ([],false) ∨ (w.2 = true ∧ DbR w.1 ∧ ∀ c ∈ L.drop i,okT c.2.1))
 | 0,i,d,hi,hk,_=>absurd hk (Nat.not_lt_zero _)
 | k + 1,i,d,hi,hk,D=>by
  by_cases h:i < L.length
  ·obtain ⟨b,b1,b2,b3⟩:=Z6G n n hn hn L[i].2.1 (hsz _ (List.getElem_mem h))
   rw [ZB2 n hn L hL k i h d D b b3 b1,Z7a n hn L hL k i h d D b b3 b2];cases hs:Z1J d L[i] b with
   | none=>exact ⟨([],false),rfl,rfl,.inl rfl⟩
   | some d' =>
    obtain ⟨w,w1,w2,w3⟩:=Z9m n hn L hL hsz k (i + 1) d' (by omega) (by omega) (Z4h D b3 hs);refine ⟨w,w1,w2,w3.imp id fun ⟨x,y,z⟩=>⟨x,y,fun c hc=>?_⟩⟩;rw [List.drop_eq_getElem_cons h] at hc;rcases List.mem_cons.1 hc with rfl | hc
    ·exact stepD_ok D b3 hs
    ·exact z c hc
  ·refine ⟨(d,true),?_,?_,.inr ⟨rfl,D,fun c hc=>?_⟩⟩
   ·conv=>lhs; unfold spec_Apply.l0
    rw [if_neg (dnl h)]
   ·conv=>lhs; unfold impl_Apply.l0
    rw [if_neg (dnl h)]
   ·rw [List.drop_of_length_le (by omega)] at hc
    cases hc
theorem apply_u (n:Nat) (hn:1100000 ≤ n) (d:List Re) (hd:d.length ≤ 1048576) (hs:∀ x ∈ d,∀ t ∈ x.2,∀ s ∈ t,s.size ≤ 1048576) (hs2:∀ x ∈ d,∀ t ∈ x.2,t.length ≤ 1048576)
  (L:List Ch) (hL:L.length ≤ 1048576) (hsz:∀ c ∈ L,∀ s ∈ c.2.1,s.size ≤ 1048576) :
  ∃ w,spec_Apply.F n d L = some w ∧ impl_Apply.F n d L = some w ∧ (w = ([],false) ∨ (w.2 = true ∧ DbR w.1 ∧ DbR d ∧ ∀ c ∈ L,okT c.2.1)):=by
 obtain ⟨b,b1,b2,b3⟩:=shape_is n n hn hn d hd hs hs2;unfold spec_Apply.F impl_Apply.F;rw [b1,b2,Option.bind_some,Option.bind_some];cases b with
 | false=>exact ⟨([],false),rfl,rfl,.inl rfl⟩
 | true =>
  have D:=b3 rfl;rw [if_neg (by simp),if_neg (by simp),ZAJ n hn d D,Z7g n hn d D,Option.bind_some,Option.bind_some];obtain ⟨w,w1,w2,w3⟩:=Z9m n hn L hL hsz n 0 d (Nat.zero_le _) (by omega) D;rw [show ((0:Nat):Int) = 0 from rfl] at w1 w2;exact ⟨w,w1,w2,w3.imp id fun ⟨x,y,z⟩=>⟨x,y,D,fun c hc=>z c (by rw [List.drop_zero]; exact hc)⟩⟩
theorem undone (n:Nat) (hn:1100000 ≤ n) (d:List Re) (L:List Ch) (hL:L.length ≤ 1048576) (w:List Re × Bool) (hw:impl_Apply.F n d L = some w) (ht:w.2 = true) (E:DbR w.1) (D:DbR d) (ok:∀ c ∈ L,okT c.2.1) :
  impl_Apply.F n w.1 (Z6j L) = some (d,true):=by
 rw [Z3U n hn d D L hL ok] at hw;cases hr:ZA7 d L with
 | none=>rw [hr] at hw; cases hw; cases ht
 | some e =>
  rw [hr] at hw;cases hw;have okb:∀ c ∈ Z6j L,okT c.2.1:=fun c hc=>by
   obtain ⟨x,hx,rfl⟩:=List.mem_map.1 hc;exact ok x (List.mem_reverse.1 hx)
  have hlb:(Z6j L).length ≤ 1048576:=by
   unfold Z6j;rw [List.length_map,List.length_reverse]; exact hL
  rw [Z3U n hn e E _ hlb okb,(Z8m L d e D ok hr).1]
end Go.Abs
