/- FnChanged: the law. Conditions: none. -/
import Derived.Test.YtgdlicpmbgodjaaGreatDoorC2
import Derived.Test.YtgdlicpmbgodjaaGreatDoorD3
namespace Go.Abs
set_option linter.unusedVariables false
set_option linter.unusedSimpArgs false
theorem dbOk_of {n:Nat} (hn:1100000 ≤ n) {d:List Re} (D:DbR d):DbOk n n d :=
 ⟨D.len,fun x hx=>(D.rel x hx).base,fun x hx=>Z6R n hn x (D.rel x hx),fun x hx=>Z9c n hn x (D.rel x hx),fun x hx t ht=>(Z1N ((D.rel x hx).base.2.2.2 t ht)).2,fun x hx t ht=>(Z1N ((D.rel x hx).base.2.2.2 t ht)).1⟩
theorem dbR_of {n m:Nat} (hn:1100000 ≤ n) {d:List Re} (D:DbOk n m d):DbR d:=⟨D.len,fun x hx=>relOk_is n hn x (D.rel x hx) (D.ok x hx)⟩
theorem Z7w:∀ a:List Re,Z7x a a = true
 | []=>rfl
 | x :: a=>by simp [Z7x,Z7w a]
theorem Z9s:∀ (a:List Re) (i:Int),chs a a i = []
 | [],_=>rfl
 | x :: a,i=>by
  have:Z0W x.2 x.2 = []:=by
   unfold Z0W;exact List.filter_eq_nil_iff.2 fun t ht=>by rw [Z1Q.2 ht]; simp
  show chg i x x ++ chs a a (i + 1) = [];rw [Z9s a (i + 1)]
  simp [chg,this,Z5Q]
theorem Z7p (n:Nat) (hn:1100000 ≤ n) (a:List Re) (D:DbR a):impl_Changes.F n a a = some ([],true):=by
 have A:=dbOk_of hn D;have h20:=D.len;unfold impl_Changes.F;rw [(Z6N n hn a D).2];simp only [Option.bind_some,Bool.not_true,if_true];unfold slices_EqualFunc_Rel_Rel_Rel_Rel.F;have h1:=Z6x n a a rfl (by omega) n 0 (Nat.zero_le _) (by omega);rw [List.drop_zero,show ((0:Nat):Int) = 0 from rfl] at h1;rw [if_neg (by simp),h1,Option.bind_some,Z7w,if_neg (by simp)];unfold impl_Changes.j0;have h3:=Z5D n n hn hn a a A A rfl (fun _ _ _=>rfl) n 0 [] (Nat.zero_le _) (by omega) (by simp);rw [List.drop_zero,show ((0:Nat):Int) = 0 from rfl,Z9s] at h3;rw [h3]
 rfl
theorem ZB9 (n:Nat) (a:Tu) (ha:a.length ≤ 1048576) (K:Unit → Option Bool):∀ (k i:Nat),i ≤ a.length → a.length - i < k → laws_sameTexts.l0 n a a K k (i:Int) = K ()
 | 0,i,hi,hk=>absurd hk (Nat.not_lt_zero _)
 | k + 1,i,hi,hk=>by
  by_cases h:i < a.length
  ·conv=>lhs; unfold laws_sameTexts.l0
   rw [if_pos (dlt h),if_pos (inl' h),if_pos (inl' h),Z8F,if_neg (by simp),wr1 (by omega)];exact ZB9 n a ha K k (i + 1) (by omega) (by omega)
  ·conv=>lhs; unfold laws_sameTexts.l0
   rw [if_neg (dnl h)]
theorem Z5d (n:Nat) (hn:1100000 ≤ n) (a:Tu) (ha:a.length ≤ 1048576):laws_sameTexts.F n a a = some true:=by
 unfold laws_sameTexts.F;have:=ZB9 n a ha (fun _=>some true) n 0 (Nat.zero_le _) (by omega);rw [show ((0:Nat):Int) = 0 from rfl] at this;rw [if_neg (by simp),this]
theorem ZBA (n:Nat) (hn:1100000 ≤ n) (a:List Tu) (ha:a.length ≤ 1048576) (hs:∀ t ∈ a,t.length ≤ 1048576) (K:Unit → Option Bool):∀ (k i:Nat),i ≤ a.length → a.length - i < k → laws_sameRows.l0 n a a K k (i:Int) = K ()
 | 0,i,hi,hk=>absurd hk (Nat.not_lt_zero _)
 | k + 1,i,hi,hk=>by
  by_cases h:i < a.length
  ·conv=>lhs; unfold laws_sameRows.l0
   rw [if_pos (dlt h),if_pos (inl' h),if_pos (inl' h),Z0P _ h,Z5d n hn _ (hs _ (List.getElem_mem h)),Option.bind_some,if_neg (by simp),wr1 (by omega)];exact ZBA n hn a ha hs K k (i + 1) (by omega) (by omega)
  ·conv=>lhs; unfold laws_sameRows.l0
   rw [if_neg (dnl h)]
theorem ZAG (n:Nat) (hn:1100000 ≤ n) (a:List Tu) (ha:a.length ≤ 1048576) (hs:∀ t ∈ a,t.length ≤ 1048576):laws_sameRows.F n a a = some true:=by
 unfold laws_sameRows.F;have:=ZBA n hn a ha hs (fun _=>some true) n 0 (Nat.zero_le _) (by omega);rw [show ((0:Nat):Int) = 0 from rfl] at this;rw [if_neg (by simp),this]
theorem ZBB (n:Nat) (hn:1100000 ≤ n) (d:List Re) (D:DbR d) (K:Unit → Option Bool):∀ (k i:Nat),i ≤ d.length → d.length - i < k → laws_sameDb.l0 n d d K k (i:Int) = K ()
 | 0,i,hi,hk=>absurd hk (Nat.not_lt_zero _)
 | k + 1,i,hi,hk=>by
  have h20:=D.len
  by_cases h:i < d.length
  ·have R:=D.rel _ (List.getElem_mem h)
   have h4:=R.base.2.2.1
   conv=>lhs; unfold laws_sameDb.l0
   rw [if_pos (dlt h),if_pos (inl' h),if_pos (inl' h),Z0P _ h];unfold laws_sameRel.F;rw [if_pos (by simp),ZAG n hn _ (by omega) (fun t ht=>(Z1N (R.base.2.2.2 t ht)).1),Option.bind_some,Option.bind_some,if_neg (by simp),wr1 (by omega)];exact ZBB n hn d D K k (i + 1) (by omega) (by omega)
  ·conv=>lhs; unfold laws_sameDb.l0
   rw [if_neg (dnl h)]
theorem Z5e (n:Nat) (hn:1100000 ≤ n) (d:List Re) (D:DbR d):laws_sameDb.F n d d = some true:=by
 have h20:=D.len;unfold laws_sameDb.F;have:=ZBB n hn d D (fun _=>some true) n 0 (Nat.zero_le _) (by omega);rw [show ((0:Nat):Int) = 0 from rfl] at this;rw [if_neg (by simp),this]
theorem ZBn (n:Nat) (hn:1100000 ≤ n) (l:List Ch) (hl:l.length ≤ 1048576) (ok:∀ c ∈ l,okT c.2.1) (a b:List Re) (K:Unit → Option Bool):∀ (k i:Nat),i ≤ l.length → l.length - i < k → laws_FnChanged.l1 n l l a b K k (i:Int) = K ()
 | 0,i,hi,hk=>absurd hk (Nat.not_lt_zero _)
 | k + 1,i,hi,hk=>by
  by_cases h:i < l.length
  ·conv=>lhs; unfold laws_FnChanged.l1
   simp only [if_pos (inl' h)];rw [if_pos (dlt h),if_pos (by simp),if_pos (by simp),Z0P _ h,Z5d n hn _ (Z1N (ok _ (List.getElem_mem h))).1,Option.bind_some,if_neg (by simp),wr1 (by omega)];exact ZBn n hn l hl ok a b K k (i + 1) (by omega) (by omega)
  ·conv=>lhs; unfold laws_FnChanged.l1
   rw [if_neg (dnl h)]
theorem back_eq (n:Nat) (l:List Ch) (hl:l.length ≤ 1048576) (ok:∀ c ∈ l,okT c.2.1):impl_Back.F n l = some (Z7v l):=by
 unfold impl_Back.F ZCO;rw [if_pos ⟨by show l.length ≤ 4294967296; omega,List.all_eq_true.2 fun c hc=>by
  have:=(ok c hc).1;show decide (c.2.1.length ≤ 4294967296) = true;exact decide_eq_true (by omega)⟩]
 rfl
theorem code_ok {l:List Int} (h:Kd.okv (.sl (.int .u8)) l):∀ b ∈ l,0 ≤ b ∧ b ≤ 255:=by
 intro b hb;have h1:=h b hb;have h1:(Lit.int .u8 b).wf = true:=h1;have h2:(decide (IntKind.u8.min ≤ b) && decide (b ≤ IntKind.u8.max)) = true:=h1;simp only [Bool.and_eq_true,decide_eq_true_eq] at h2;exact h2
theorem law_laws_FnChanged {n:Nat} (hn:big ≤ n) (a0:List Int) (ho0:Kd.okv (.sl (.int .u8)) a0) (hb0:Kd.bulk (.sl (.int .u8)) a0 ≤ 1048576):laws_FnChanged.F n a0 = some true:=by
 have hb:1100003 ≤ n:=by unfold big at hn; omega
 have hb1:1100000 ≤ n:=by omega
 unfold laws_FnChanged.F laws_big.F;rw [Option.bind_some]
 split
 ·rfl
 rename_i hc;simp only [decide_eq_true_eq] at hc;obtain ⟨a,b,e1,A,B⟩:=Z5Z hb a0 (code_ok ho0) (by omega);rw [e1,Option.bind_some];have szs:∀ {d:List Re},DbSm d → d.length ≤ 1048576 ∧ (∀ x ∈ d,∀ t ∈ x.2,∀ s ∈ t,s.size ≤ 1048576) ∧ ∀ x ∈ d,∀ t ∈ x.2,t.length ≤ 1048576:=fun {d} h =>
  ⟨by have:=h.1; omega,fun x hx t ht s hs=>by have:=((h.2 x hx).2 t ht).2 s hs; omega,fun x hx t ht=>by have:=((h.2 x hx).2 t ht).1; omega⟩
 obtain ⟨h1,h2,h3⟩:=szs A;obtain ⟨k1,k2,k3⟩:=szs B;obtain ⟨w,w1,w2,w3⟩:=ZAf n n hb1 hb1 a b h1 h2 h3 k1 k2 k3;rw [w2,Option.bind_some,w1,Option.bind_some,if_pos (by simp),if_neg (by simp)];unfold laws_FnChanged.j0;rcases w3 with rfl | ⟨rfl,DA,DB,hab,har⟩
 ·rfl
 ·rw [if_neg (by simp)]
  dsimp only;have RA:=dbR_of hb1 DA;have RB:=dbR_of hb1 DB;have ok:∀ c ∈ chs a b 0,okT c.2.1:=fun c hc=>by
   rcases ZCB hc with ⟨x,hx,ht⟩ | ⟨x,hx,ht⟩
   ·exact (RA.rel x hx).base.2.2.2 _ ht
   ·exact (RB.rel x hx).base.2.2.2 _ ht
  have hlen:=ZCC (a:=a) (b:=b) (i:=0) (fun x hx=>(RA.rel x hx).base.2.2.1) (fun x hx=>(RB.rel x hx).base.2.2.1);have h20:=RA.len;have hl:(chs a b 0).length ≤ 1048576:=by omega
  have hrun:Z5S a (chs a b 0) = some b:=by
   have:=ZCA a b [] hab RA.rel RB.rel (Z6p har);simpa using this
  have hund:=(Z8x (chs a b 0) a b RA ok hrun).1;have okb:∀ c ∈ Z7v (chs a b 0),okT c.2.1:=fun c hc=>by
   obtain ⟨x,hx,rfl⟩:=List.mem_map.1 hc;exact ok x (List.mem_reverse.1 hx)
  have hlb:(Z7v (chs a b 0)).length ≤ 1048576:=by
   unfold Z7v;rw [List.length_map,List.length_reverse]; exact hl
  have e0:=ZBn n hb1 (chs a b 0) hl ok a b (fun _ =>
   (impl_Apply.F n a (chs a b 0)).bind fun r17 =>
   (impl_Back.F n (chs a b 0)).bind fun r18 =>
   (impl_Apply.F n b r18).bind fun r19 =>
   (impl_Changes.F n a a).bind fun r20 =>
   if r17.2 = true then
   if r19.2 = true then
   (laws_sameDb.F n r17.1 b).bind fun r21 =>
   if r21 = true then
   (laws_sameDb.F n r19.1 a).bind fun r22 =>
   if r22 = true then
   if r20.2 = true then
   if (decide ((List.length r20.1:Int) = 0)) = true then
   (impl_DbShape.F n r17.1).bind fun r23 =>
   some r23
   else
   some false
   else
   some false
   else
   some false
   else
   some false
   else
   some false
   else
   some false) n 0 (Nat.zero_le _) (by omega)
  rw [show ((0:Nat):Int) = 0 from rfl] at e0;refine e0.trans ?_;rw [Z3Y n hb1 a RA _ hl ok,hrun,back_eq n _ hl ok,Option.bind_some,Option.bind_some,Z3Y n hb1 b RB _ hlb okb,hund,Option.bind_some,Z7p n hb1 a RA,Option.bind_some];dsimp only;rw [if_pos rfl,if_pos rfl,Z5e n hb1 b RB,Option.bind_some,if_pos rfl,Z5e n hb1 a RA,Option.bind_some,if_pos rfl,if_pos rfl,if_pos (by simp)];unfold impl_DbShape.F;rw [(Z6N n hb1 b RB).2]
  rfl
end Go.Abs
