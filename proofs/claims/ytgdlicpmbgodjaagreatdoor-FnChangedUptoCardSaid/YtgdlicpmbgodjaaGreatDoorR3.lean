/- The program's Apply of changes whose rows are tuples, at a Db of the right shape: the changes one by one. Conditions: none. -/
import Derived.Test.YtgdlicpmbgodjaaGreatDoorW3
namespace Go.Abs
set_option linter.unusedVariables false
set_option linter.unusedSimpArgs false
def Z5Q (i:Int) (f:Bool) (l:List Tu):List Ch:=l.map fun t=>(i,(t,f))
def chg (i:Int) (a b:Re):List Ch:=Z5Q i false (Z0W a.2 b.2) ++ Z5Q i true (Z0W b.2 a.2)
def chs:List Re → List Re → Int → List Ch
 | a :: l,b :: r,i=>chg i a b ++ chs l r (i + 1)
 | _,_,_=>[]
def Z5S:List Re → List Ch → Option (List Re)
 | d,[]=>some d
 | d,c :: l=>(Z1u d c true).bind fun d'=>Z5S d' l
theorem Z2Q:∀ (l r:List Ch) (d:List Re),Z5S d (l ++ r) = (Z5S d l).bind fun d'=>Z5S d' r
 | [],_,_=>rfl
 | c :: l,r,d=>by
  simp only [List.cons_append,Z5S];cases Z1u d c true with
  | none=>rfl
  | some d'=>exact Z2Q l r d'
theorem Z75 {l:List Tu} (ok:∀ x ∈ l,∀ s ∈ x,okS s) (h:srt l):l.Nodup:=by
 refine List.Pairwise.imp_of_mem (fun {a b} ha hb hlt e=>?_) h;subst e;have:=(tpc_ord.zero a a (ok a ha) (ok a ha)).2 rfl;omega
theorem getRe {d:List Re} {i:Nat} (h:i < d.length):d.getD i Re0 = d[i]:=by simp [h]
theorem Z95 {d:List Re} {i:Nat} (h:i < d.length) {t:Tu} (ht:t ∈ d[i].2):Z1u d ((i:Int),(t,false)) true = some (d.set i (d[i].1,Z0W d[i].2 [t])):=by
 unfold Z1u;dsimp only;rw [if_pos (by omega),if_neg (by simp),Int.toNat_natCast,getRe h,if_pos (Z1Q.2 ht)]
theorem Z96 {d:List Re} {i:Nat} (h:i < d.length) {t:Tu} (ht:¬ t ∈ d[i].2) (hl:(t.length:Int) = d[i].1) (h4:d[i].2.length < 400):Z1u d ((i:Int),(t,true)) true = some (d.set i (d[i].1,Z3G t d[i].2)):=by
 have hi:inL t d[i].2 = false:=by
  cases hc:inL t d[i].2 with
  | false=>rfl
  | true=>exact absurd (Z1Q.1 hc) ht
 unfold Z1u;dsimp only;rw [if_pos (by omega),if_pos rfl,Int.toNat_natCast,getRe h,if_pos (by simp [Z7k,hl,hi,h4])]
theorem ZBm (l:List Tu) (t:Tu) (r:List Tu):Z0W (Z0W l [t]) r = Z0W l (t :: r):=by
 unfold Z0W;rw [List.filter_filter]
 congr 1
 funext x
 have h1:inL x [t] = decide (t = x):=by simp [inL]
 rw [h1,Z6g];cases decide (t = x) <;> cases inL x r <;> rfl
theorem ZC6 (i:Nat):∀ (l:List Tu) (d:List Re) (h:i < d.length),(∀ t ∈ l,t ∈ d[i].2) → l.Nodup → Z5S d (Z5Q i false l) = some (d.set i (d[i].1,Z0W d[i].2 l))
 | [],d,h,_,_=>by
  have:Z0W d[i].2 [] = d[i].2:=by unfold Z0W; exact List.filter_eq_self.2 fun x _=>by simp [inL]
  rw [this];show some d = some (d.set i d[i]);rw [List.set_getElem_self]
 | t :: l,d,h,hm,hn=>by
  obtain ⟨n1,n2⟩:=List.nodup_cons.1 hn;show (Z1u d ((i:Int),(t,false)) true).bind (fun d'=>Z5S d' (Z5Q i false l)) = _;rw [Z95 h (hm t List.mem_cons_self),Option.bind_some];have h':i < (d.set i (d[i].1,Z0W d[i].2 [t])).length:=by rw [List.length_set]; exact h
  have e:(d.set i (d[i].1,Z0W d[i].2 [t]))[i] = (d[i].1,Z0W d[i].2 [t]):=by simp
  rw [ZC6 i l _ h' (fun x hx=>by
   rw [e];refine List.mem_filter.2 ⟨hm x (List.mem_cons_of_mem _ hx),?_⟩;have:¬ t = x:=fun e=>n1 (e ▸ hx)
   simp [inL,this]) n2,e,List.set_set,ZBm]
theorem ZCW (i:Nat):∀ (l:List Tu) (d:List Re) (h:i < d.length),Z2R d[i] → (∀ t ∈ l,okT t ∧ (t.length:Int) = d[i].1 ∧ ¬ t ∈ d[i].2) → l.Nodup → d[i].2.length + l.length ≤ 400 →
  ∃ rows,Z5S d (Z5Q i true l) = some (d.set i (d[i].1,rows)) ∧ Z2R (d[i].1,rows) ∧ ∀ x,x ∈ rows ↔ x ∈ d[i].2 ∨ x ∈ l
 | [],d,h,R,_,_,_=>⟨d[i].2,by
   show some d = some (d.set i d[i]);rw [List.set_getElem_self],R,fun x=>by simp⟩
 | t :: l,d,h,R,hm,hn,hl=>by
  obtain ⟨n1,n2⟩:=List.nodup_cons.1 hn;obtain ⟨T,t1,t2⟩:=hm t List.mem_cons_self;simp only [List.length_cons] at hl;have okr:∀ x ∈ d[i].2,∀ s ∈ x,okS s:=fun x hx=>(R.base.2.2.2 x hx).2
  have R':=Z7V R T t1 t2 (by omega);have hmem:=Z21 okr T.2;have hlen:=Z9e T.2 okr t2;have h':i < (d.set i (d[i].1,Z3G t d[i].2)).length:=by rw [List.length_set]; exact h
  have e:(d.set i (d[i].1,Z3G t d[i].2))[i] = (d[i].1,Z3G t d[i].2):=by simp
  obtain ⟨rows,r1,r2,r3⟩:=ZCW i l (d.set i (d[i].1,Z3G t d[i].2)) h' (by rw [e]; exact R') (fun x hx=>by
   rw [e];obtain ⟨x1,x2,x3⟩:=hm x (List.mem_cons_of_mem _ hx);refine ⟨x1,x2,fun hc=>?_⟩;rcases (hmem x).1 hc with rfl | hc
   ·exact n1 hx
   ·exact x3 hc) n2 (by rw [e]; show (Z3G t d[i].2).length + _ ≤ _; omega)
  rw [e] at r1 r2 r3;refine ⟨rows,?_,r2,fun x=>?_⟩
  ·show (Z1u d ((i:Int),(t,true)) true).bind (fun d'=>Z5S d' (Z5Q i true l)) = _
   rw [Z96 h t2 t1 (by omega),Option.bind_some,r1,List.set_set]
  ·rw [r3 x,hmem x,List.mem_cons]
   constructor
   ·rintro ((h | h) | h)
    ·exact .inr (.inl h)
    ·exact .inl h
    ·exact .inr (.inr h)
   ·rintro (h | h | h)
    ·exact .inl (.inr h)
    ·exact .inl (.inl h)
    ·exact .inr h
theorem Z0s {a b:List Tu} {x:Tu}:x ∈ Z0W a b ↔ x ∈ a ∧ ¬ x ∈ b:=by
 unfold Z0W;rw [List.mem_filter]
 constructor
 ·rintro ⟨h,h2⟩
  exact ⟨h,fun hb=>by rw [Z1Q.2 hb] at h2; cases h2⟩
 ·rintro ⟨h,h2⟩
  refine ⟨h,?_⟩;cases hc:inL x b with
  | false=>rfl
  | true=>exact absurd (Z1Q.1 hc) h2
theorem Z51 {α:Type} (p:α → Bool):∀ l:List α,(l.filter p).length + (l.filter fun x=>!p x).length = l.length
 | []=>rfl
 | x :: l=>by
  have:=Z51 p l;cases h:p x <;> simp [List.filter_cons,h] <;> omega
theorem chg_run {d:List Re} {i:Nat} (h:i < d.length) {y:Re} (X:Z2R d[i]) (Y:Z2R y) (har:d[i].1 = y.1):Z5S d (chg i d[i] y) = some (d.set i y):=by
 have okx:∀ x ∈ d[i].2,∀ s ∈ x,okS s:=fun x hx=>(X.base.2.2.2 x hx).2
 have oky:∀ x ∈ y.2,∀ s ∈ x,okS s:=fun x hx=>(Y.base.2.2.2 x hx).2
 have ndx:=Z75 okx X.srt;have ndy:=Z75 oky Y.srt;unfold chg;rw [Z2Q,ZC6 i _ d h (fun t ht=>(Z0s.1 ht).1) (List.Nodup.sublist List.filter_sublist ndx),Option.bind_some];have h':i < (d.set i (d[i].1,Z0W d[i].2 (Z0W d[i].2 y.2))).length:=by rw [List.length_set]; exact h
 have e:(d.set i (d[i].1,Z0W d[i].2 (Z0W d[i].2 y.2)))[i] = (d[i].1,Z0W d[i].2 (Z0W d[i].2 y.2)):=by simp
 have R:=Z5o X (Z0W d[i].2 y.2);have hboth:Z0W d[i].2 (Z0W d[i].2 y.2) = Z0W y.2 (Z0W y.2 d[i].2):=by
  refine Z76 (fun x hx=>okx x (Z0s.1 hx).1) (List.Pairwise.sublist List.filter_sublist X.srt) (List.Pairwise.sublist List.filter_sublist Y.srt) fun x=>?_
  rw [Z0s,Z0s,Z0s,Z0s]
  constructor
  ·rintro ⟨h1,h2⟩
   have h3:x ∈ y.2:=Classical.byContradiction fun hc=>h2 ⟨h1,hc⟩
   exact ⟨h3,fun hc=>hc.2 h1⟩
  ·rintro ⟨h1,h2⟩
   have h3:x ∈ d[i].2:=Classical.byContradiction fun hc=>h2 ⟨h1,hc⟩
   exact ⟨h3,fun hc=>hc.2 h1⟩
 have hsum:(Z0W y.2 (Z0W y.2 d[i].2)).length + (Z0W y.2 d[i].2).length = y.2.length:=by
  have h1:Z0W y.2 (Z0W y.2 d[i].2) = y.2.filter fun t=>inL t d[i].2:=by
   unfold Z0W;refine List.filter_congr fun x hx=>?_
   have:inL x (y.2.filter fun t=>!inL t d[i].2) = !inL x d[i].2:=by
    cases hc:inL x d[i].2 with
    | true =>
     cases hd:inL x (y.2.filter fun t=>!inL t d[i].2) with
     | false=>rfl
     | true =>
      have:=(List.mem_filter.1 (Z1Q.1 hd)).2;rw [hc] at this;cases this
    | false=>exact Z1Q.2 (List.mem_filter.2 ⟨hx,by rw [hc]; rfl⟩)
   rw [this,Bool.not_not]
  rw [h1];unfold Z0W;have:=Z51 (fun t=>inL t d[i].2) y.2;omega
 have h4:=Y.base.2.2.1;obtain ⟨rows,r1,r2,r3⟩:=ZCW i (Z0W y.2 d[i].2) _ h' (by rw [e]; exact R) (fun t ht=>by
  rw [e];obtain ⟨t1,t2⟩:=Z0s.1 ht;exact ⟨Y.base.2.2.2 t t1,by rw [har]; exact Y.len t t1,fun hc=>t2 (Z0s.1 hc).1⟩) (List.Nodup.sublist List.filter_sublist ndy) (by
  rw [e];show (Z0W d[i].2 (Z0W d[i].2 y.2)).length + _ ≤ 400;rw [hboth]; omega)
 rw [e] at r1 r2 r3;rw [r1,List.set_set];have:rows = y.2:=by
  refine Z76 (fun x hx=>(r2.base.2.2.2 x hx).2) r2.srt Y.srt fun x=>?_
  rw [r3 x,Z0s,Z0s,Z0s]
  constructor
  ·rintro (⟨h1,h2⟩ | h)
   ·exact Classical.byContradiction fun hc=>h2 ⟨h1,hc⟩
   ·exact h.1
  ·intro hy
   by_cases hx:x ∈ d[i].2
   ·exact .inl ⟨hx,fun hc=>hc.2 hy⟩
   ·exact .inr ⟨hy,hx⟩
 rw [this,har]
theorem ZCA:∀ (a b pre:List Re),a.length = b.length → (∀ x ∈ a,Z2R x) → (∀ x ∈ b,Z2R x) → (∀ i (h:i < a.length) (h2:i < b.length),(a[i]).1 = (b[i]).1) →
  Z5S (pre ++ a) (chs a b (pre.length:Int)) = some (pre ++ b)
 | [],[],pre,_,_,_,_=>by simp [chs,Z5S]
 | [],_ :: _,_,h,_,_,_=>by cases h
 | _ :: _,[],_,h,_,_,_=>by cases h
 | x :: a,y :: b,pre,h,A,B,har=>by
  have hi:pre.length < (pre ++ x :: a).length:=by simp
  have e:(pre ++ x :: a)[pre.length] = x:=by simp
  have h0:=chg_run (d:=pre ++ x :: a) (i:=pre.length) hi (y:=y) (by rw [e]; exact A x List.mem_cons_self) (B y List.mem_cons_self) (by rw [e]; exact har 0 (by simp) (by simp));rw [e] at h0;show Z5S (pre ++ x :: a) (chg (pre.length:Int) x y ++ chs a b ((pre.length:Int) + 1)) = _;rw [Z2Q,h0,Option.bind_some];have ih:=ZCA a b (pre ++ [y]) (by simpa using h) (fun z hz=>A z (List.mem_cons_of_mem _ hz)) (fun z hz=>B z (List.mem_cons_of_mem _ hz)) (fun i h1 h2=>by
   have:=har (i + 1) (by simpa using h1) (by simpa using h2);simpa using this)
  have e2:(pre ++ x :: a).set pre.length y = (pre ++ [y]) ++ a:=by simp [List.set_append]
  have e3:(((pre ++ [y]).length:Nat):Int) = (pre.length:Int) + 1:=by simp
  rw [e2];rw [e3] at ih;rw [ih]
  simp
end Go.Abs
namespace Go.Abs
set_option linter.unusedVariables false
set_option linter.unusedSimpArgs false
def flipC (c:Ch):Ch:=(c.1,(c.2.1,!c.2.2))
def Z7v (l:List Ch):List Ch:=l.reverse.map flipC
theorem ZAj (c:Ch) (l:List Ch):Z7v (c :: l) = Z7v l ++ [flipC c]:=by simp [Z7v]
theorem less_ins {t:Tu} {rows:List Tu} (ok:∀ x ∈ rows,∀ s ∈ x,okS s) (T:∀ s ∈ t,okS s) (hs:srt rows) (hn:¬ t ∈ rows):Z0W (Z3G t rows) [t] = rows:=by
 have hm:=Z21 ok T;refine Z76 (fun x hx=>?_) (List.Pairwise.sublist List.filter_sublist (Z4U ok T hs)) hs fun x=>?_
 ·rcases (hm x).1 (Z0s.1 hx).1 with rfl | h
  ·exact T
  ·exact ok x h
 ·rw [Z0s,hm x,List.mem_singleton]
  constructor
  ·rintro ⟨h | h,h2⟩
   ·exact absurd h h2
   ·exact h
  ·intro h
   exact ⟨.inr h,fun e=>hn (e ▸ h)⟩
theorem ins_less {t:Tu} {rows:List Tu} (ok:∀ x ∈ rows,∀ s ∈ x,okS s) (hs:srt rows) (hm:t ∈ rows):Z3G t (Z0W rows [t]) = rows:=by
 have T:=ok t hm;have ok':∀ x ∈ Z0W rows [t],∀ s ∈ x,okS s:=fun x hx=>ok x (Z0s.1 hx).1
 have hi:=Z21 ok' T;refine Z76 (fun x hx=>?_) (Z4U ok' T (List.Pairwise.sublist List.filter_sublist hs)) hs fun x=>?_
 ·rcases (hi x).1 hx with rfl | h
  ·exact T
  ·exact ok' x h
 ·rw [hi x,Z0s,List.mem_singleton]
  constructor
  ·rintro (rfl | h)
   ·exact hm
   ·exact h.1
  ·intro h
   by_cases e:x = t
   ·exact .inl e
   ·exact .inr ⟨h,e⟩
theorem less_lt {t:Tu} {rows:List Tu} (hm:t ∈ rows):(Z0W rows [t]).length < rows.length:=by
 have h:=Z51 (fun x=>inL x [t]) rows;have:0 < (rows.filter fun x=>inL x [t]).length:=List.length_pos_of_mem (List.mem_filter.2 ⟨hm,by simp [inL]⟩);unfold Z0W;omega
theorem Z9B {α:Type} {d:List α} {j:Nat} (h:j < d.length) (x:α) (y:α) (e:y = d[j]):(d.set j x).set j y = d:=by
 rw [List.set_set,e,List.set_getElem_self]
theorem ZB3 {d d':List Re} {c:Ch} (D:DbR d) (h:Z1u d c true = some d') (hok:c.2.2 = true → okT c.2.1):Z1u d' (flipC c) true = some d:=by
 obtain ⟨r,t,f⟩:=c;unfold Z1u at h;dsimp only at h hok
 split at h
 ·rename_i hr
  obtain ⟨j,rfl⟩:=Int.eq_ofNat_of_zero_le hr.1;have hj:j < d.length:=by omega
  rw [Int.toNat_natCast,getRe hj] at h;have R:=D.rel _ (List.getElem_mem hj);have okr:∀ x ∈ d[j].2,∀ s ∈ x,okS s:=fun x hx=>(R.base.2.2.2 x hx).2
  cases f with
  | true =>
   rw [if_pos rfl] at h
   split at h
   ·rename_i hf
    cases h;obtain ⟨_,f2,f3,f4⟩:=ZBx hf;have hn:¬ t ∈ d[j].2:=fun hm=>by rw [Z1Q.2 hm] at f3; cases f3
    have T:=hok rfl;have hj':j < (d.set j (d[j].1,Z3G t d[j].2)).length:=by rw [List.length_set]; exact hj
    have e:(d.set j (d[j].1,Z3G t d[j].2))[j] = (d[j].1,Z3G t d[j].2):=by simp
    show Z1u _ ((j:Int),(t,false)) true = _;rw [Z95 hj' (by rw [e]; exact (Z21 okr T.2 t).2 (.inl rfl)),e,less_ins okr T.2 R.srt hn,Z9B hj _ _ rfl]
   ·cases h
  | false =>
   rw [if_neg (by simp)] at h
   split at h
   ·rename_i hf
    cases h;have hm:=Z1Q.1 hf;have h4:=R.base.2.2.1;have hlt:=less_lt hm;have hj':j < (d.set j (d[j].1,Z0W d[j].2 [t])).length:=by rw [List.length_set]; exact hj
    have e:(d.set j (d[j].1,Z0W d[j].2 [t]))[j] = (d[j].1,Z0W d[j].2 [t]):=by simp
    show Z1u _ ((j:Int),(t,true)) true = _;rw [Z96 hj' (by rw [e]; intro hc; exact (Z0s.1 hc).2 (by simp)) (by rw [e]; exact R.len t hm) (by rw [e]; show (Z0W d[j].2 [t]).length < 400; omega),e,ins_less okr R.srt hm,Z9B hj _ _ rfl]
   ·cases h
 ·cases h
theorem Z8x:∀ (l:List Ch) (d d':List Re),DbR d → (∀ c ∈ l,okT c.2.1) → Z5S d l = some d' → Z5S d' (Z7v l) = some d ∧ DbR d'
 | [],d,d',D,_,h=>by cases h; exact ⟨rfl,D⟩
 | c :: l,d,d',D,ok,h=>by
  have h':(Z1u d c true).bind (fun d1=>Z5S d1 l) = some d':=h;cases hs:Z1u d c true with
  | none=>rw [hs] at h'; cases h'
  | some d1 =>
   rw [hs,Option.bind_some] at h';have okc:=ok c List.mem_cons_self;have D1:=Z74 D (fun _=>okc) hs;obtain ⟨ih,D2⟩:=Z8x l d1 d' D1 (fun x hx=>ok x (List.mem_cons_of_mem _ hx)) h';refine ⟨?_,D2⟩;rw [ZAj,Z2Q,ih,Option.bind_some];show (Z1u d1 (flipC c) true).bind (fun d2=>Z5S d2 []) = _;rw [ZB3 D hs (fun _=>okc),Option.bind_some]
   rfl
end Go.Abs
namespace Go.Abs
set_option linter.unusedVariables false
set_option linter.unusedSimpArgs false
theorem Z9A (n:Nat) (hn:1100000 ≤ n) (d:List Re) (D:DbR d) (K:Unit → Option Bool):∀ (k i:Nat),i ≤ d.length → d.length - i < k → spec_DbShape.l0 n d K k (i:Int) = K ()
 | 0,i,hi,hk=>absurd hk (Nat.not_lt_zero _)
 | k + 1,i,hi,hk=>by
  have h20:=D.len
  by_cases h:i < d.length
  ·conv=>lhs; unfold spec_DbShape.l0
   rw [if_pos (dlt h),if_pos (inl' h),Z0P _ h,Z6R n hn _ (D.rel _ (List.getElem_mem h)),Option.bind_some,if_neg (by simp),wr1 (by omega)];exact Z9A n hn d D K k (i + 1) (by omega) (by omega)
  ·conv=>lhs; unfold spec_DbShape.l0
   rw [if_neg (dnl h)]
theorem Z6N (n:Nat) (hn:1100000 ≤ n) (d:List Re) (D:DbR d):spec_DbShape.F n d = some true ∧ impl_isShape.F n d = some true:=by
 have h20:=D.len;have hs:spec_DbShape.F n d = some true:=by
  unfold spec_DbShape.F;have:=Z9A n hn d D (fun _=>some true) n 0 (Nat.zero_le _) (by omega);rw [show ((0:Nat):Int) = 0 from rfl] at this;rw [if_neg (by simp; omega),this]
 obtain ⟨b,b1,b2,_⟩:=db_eq n n hn hn d (by omega) (fun x hx t ht s hs=>(Z1N ((D.rel x hx).base.2.2.2 t ht)).2 s hs) (fun x hx t ht=>(Z1N ((D.rel x hx).base.2.2.2 t ht)).1);rw [hs] at b1;cases b1;exact ⟨hs,b2⟩
theorem ZAV (n:Nat) (hn:1100000 ≤ n) (t:Tu) (T:okT t):impl_isTuple.F n t = some true:=by
 obtain ⟨b,b1,b2,_⟩:=Z8z n n hn hn t (Z1N T).2;rw [Z5a n hn t T] at b1;cases b1;exact b2
theorem Z7y (n:Nat) (hn:1100000 ≤ n) (L:List Ch) (hL:L.length ≤ 1048576) (ok:∀ c ∈ L,okT c.2.1):∀ (k i:Nat) (d:List Re),i ≤ L.length → L.length - i < k → DbR d →
  impl_Apply.l0 n L (L.length:Int) [] (fun t=>some (t,true)) k (i:Int) d = match Z5S d (L.drop i) with | some d'=>some (d',true) | none=>some ([],false)
 | 0,i,d,hi,hk,_=>absurd hk (Nat.not_lt_zero _)
 | k + 1,i,d,hi,hk,D=>by
  by_cases h:i < L.length
  ·have T:=ok _ (List.getElem_mem h)
   rw [ZBv n hn L hL k i h d D true (fun _=>T) (ZAV n hn _ T),List.drop_eq_getElem_cons h];show _ = match (Z1u d L[i] true).bind (fun d'=>Z5S d' (L.drop (i + 1))) with | some d'=>some (d',true) | none=>some ([],false)
   cases hs:Z1u d L[i] true with
   | none=>rfl
   | some d' =>
    rw [Option.bind_some];exact Z7y n hn L hL ok k (i + 1) d' (by omega) (by omega) (Z74 D (fun _=>T) hs)
  ·conv=>lhs; unfold impl_Apply.l0
   rw [if_neg (dnl h),List.drop_of_length_le (by omega)]
   rfl
theorem Z3Y (n:Nat) (hn:1100000 ≤ n) (d:List Re) (D:DbR d) (L:List Ch) (hL:L.length ≤ 1048576) (ok:∀ c ∈ L,okT c.2.1) :
  impl_Apply.F n d L = match Z5S d L with | some d'=>some (d',true) | none=>some ([],false):=by
 unfold impl_Apply.F;rw [(Z6N n hn d D).2,Option.bind_some,if_neg (by simp),ZC9 n hn d D,Option.bind_some];have:=Z7y n hn L hL ok n 0 d (Nat.zero_le _) (by omega) D;rw [show ((0:Nat):Int) = 0 from rfl,List.drop_zero] at this;exact this
end Go.Abs
