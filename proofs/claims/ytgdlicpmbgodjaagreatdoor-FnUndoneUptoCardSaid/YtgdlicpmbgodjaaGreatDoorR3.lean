/- The program's Apply of changes whose rows are tuples, at a Db of the right shape: the changes one by one. Conditions: none. -/
import Derived.Test.YtgdlicpmbgodjaaGreatDoorW3
namespace Go.Abs
set_option linter.unusedVariables false
set_option linter.unusedSimpArgs false
def ZC3 (i:Int) (f:Bool) (l:List Tu):List Ch:=l.map fun t=>(i,(t,f))
def chg (i:Int) (a b:Re):List Ch:=ZC3 i false (Z10 a.2 b.2) ++ ZC3 i true (Z10 b.2 a.2)
def chs:List Re → List Re → Int → List Ch
 | a :: l,b :: r,i=>chg i a b ++ chs l r (i + 1)
 | _,_,_=>[]
def ZA7:List Re → List Ch → Option (List Re)
 | d,[]=>some d
 | d,c :: l=>(Z1J d c true).bind fun d'=>ZA7 d' l
theorem Z4q:∀ (l r:List Ch) (d:List Re),ZA7 d (l ++ r) = (ZA7 d l).bind fun d'=>ZA7 d' r
 | [],_,_=>rfl
 | c :: l,r,d=>by
  simp only [List.cons_append,ZA7];cases Z1J d c true with
  | none=>rfl
  | some d'=>exact Z4q l r d'
theorem getRe {d:List Re} {i:Nat} (h:i < d.length):d.getD i Re0 = d[i]:=by simp [h]
theorem step_del {d:List Re} {i:Nat} (h:i < d.length) {t:Tu} (ht:t ∈ d[i].2):Z1J d ((i:Int),(t,false)) true = some (d.set i (d[i].1,Z10 d[i].2 [t])):=by
 unfold Z1J;dsimp only;rw [if_pos (by omega),if_neg (by simp),Int.toNat_natCast,getRe h,if_pos (Z1C.2 ht)]
theorem step_add {d:List Re} {i:Nat} (h:i < d.length) {t:Tu} (ht:¬ t ∈ d[i].2) (hl:(t.length:Int) = d[i].1) (h4:d[i].2.length < 400):Z1J d ((i:Int),(t,true)) true = some (d.set i (d[i].1,Z3u t d[i].2)):=by
 have hi:inL t d[i].2 = false:=by
  cases hc:inL t d[i].2 with
  | false=>rfl
  | true=>exact absurd (Z1C.1 hc) ht
 unfold Z1J;dsimp only;rw [if_pos (by omega),if_pos rfl,Int.toNat_natCast,getRe h,if_pos (by simp [Z5K,hl,hi,h4])]
theorem Z3R {a b:List Tu} {x:Tu}:x ∈ Z10 a b ↔ x ∈ a ∧ ¬ x ∈ b:=by
 unfold Z10;rw [List.mem_filter]
 constructor
 ·rintro ⟨h,h2⟩
  exact ⟨h,fun hb=>by rw [Z1C.2 hb] at h2; cases h2⟩
 ·rintro ⟨h,h2⟩
  refine ⟨h,?_⟩;cases hc:inL x b with
  | false=>rfl
  | true=>exact absurd (Z1C.1 hc) h2
theorem Z7P {α:Type} (p:α → Bool):∀ l:List α,(l.filter p).length + (l.filter fun x=>!p x).length = l.length
 | []=>rfl
 | x :: l=>by
  have:=Z7P p l;cases h:p x <;> simp [List.filter_cons,h] <;> omega
end Go.Abs
namespace Go.Abs
set_option linter.unusedVariables false
set_option linter.unusedSimpArgs false
def flipC (c:Ch):Ch:=(c.1,(c.2.1,!c.2.2))
def Z6j (l:List Ch):List Ch:=l.reverse.map flipC
theorem ZAd (c:Ch) (l:List Ch):Z6j (c :: l) = Z6j l ++ [flipC c]:=by simp [Z6j]
theorem less_ins {t:Tu} {rows:List Tu} (ok:∀ x ∈ rows,∀ s ∈ x,okS s) (T:∀ s ∈ t,okS s) (hs:srt rows) (hn:¬ t ∈ rows):Z10 (Z3u t rows) [t] = rows:=by
 have hm:=Z2O ok T;refine ZB0 (fun x hx=>?_) (List.Pairwise.sublist List.filter_sublist (Z4W ok T hs)) hs fun x=>?_
 ·rcases (hm x).1 (Z3R.1 hx).1 with rfl | h
  ·exact T
  ·exact ok x h
 ·rw [Z3R,hm x,List.mem_singleton]
  constructor
  ·rintro ⟨h | h,h2⟩
   ·exact absurd h h2
   ·exact h
  ·intro h
   exact ⟨.inr h,fun e=>hn (e ▸ h)⟩
theorem ins_less {t:Tu} {rows:List Tu} (ok:∀ x ∈ rows,∀ s ∈ x,okS s) (hs:srt rows) (hm:t ∈ rows):Z3u t (Z10 rows [t]) = rows:=by
 have T:=ok t hm;have ok':∀ x ∈ Z10 rows [t],∀ s ∈ x,okS s:=fun x hx=>ok x (Z3R.1 hx).1
 have hi:=Z2O ok' T;refine ZB0 (fun x hx=>?_) (Z4W ok' T (List.Pairwise.sublist List.filter_sublist hs)) hs fun x=>?_
 ·rcases (hi x).1 hx with rfl | h
  ·exact T
  ·exact ok' x h
 ·rw [hi x,Z3R,List.mem_singleton]
  constructor
  ·rintro (rfl | h)
   ·exact hm
   ·exact h.1
  ·intro h
   by_cases e:x = t
   ·exact .inl e
   ·exact .inr ⟨h,e⟩
theorem less_lt {t:Tu} {rows:List Tu} (hm:t ∈ rows):(Z10 rows [t]).length < rows.length:=by
 have h:=Z7P (fun x=>inL x [t]) rows;have:0 < (rows.filter fun x=>inL x [t]).length:=List.length_pos_of_mem (List.mem_filter.2 ⟨hm,by simp [inL]⟩);unfold Z10;omega
theorem Z8y {α:Type} {d:List α} {j:Nat} (h:j < d.length) (x:α) (y:α) (e:y = d[j]):(d.set j x).set j y = d:=by
 rw [List.set_set,e,List.set_getElem_self]
theorem ZAy {d d':List Re} {c:Ch} (D:DbR d) (h:Z1J d c true = some d') (hok:c.2.2 = true → okT c.2.1):Z1J d' (flipC c) true = some d:=by
 obtain ⟨r,t,f⟩:=c;unfold Z1J at h;dsimp only at h hok
 split at h
 ·rename_i hr
  obtain ⟨j,rfl⟩:=Int.eq_ofNat_of_zero_le hr.1;have hj:j < d.length:=by omega
  rw [Int.toNat_natCast,getRe hj] at h;have R:=D.rel _ (List.getElem_mem hj);have okr:∀ x ∈ d[j].2,∀ s ∈ x,okS s:=fun x hx=>(R.base.2.2.2 x hx).2
  cases f with
  | true =>
   rw [if_pos rfl] at h
   split at h
   ·rename_i hf
    cases h;obtain ⟨_,f2,f3,f4⟩:=Z8U hf;have hn:¬ t ∈ d[j].2:=fun hm=>by rw [Z1C.2 hm] at f3; cases f3
    have T:=hok rfl;have hj':j < (d.set j (d[j].1,Z3u t d[j].2)).length:=by rw [List.length_set]; exact hj
    have e:(d.set j (d[j].1,Z3u t d[j].2))[j] = (d[j].1,Z3u t d[j].2):=by simp
    show Z1J _ ((j:Int),(t,false)) true = _;rw [step_del hj' (by rw [e]; exact (Z2O okr T.2 t).2 (.inl rfl)),e,less_ins okr T.2 R.srt hn,Z8y hj _ _ rfl]
   ·cases h
  | false =>
   rw [if_neg (by simp)] at h
   split at h
   ·rename_i hf
    cases h;have hm:=Z1C.1 hf;have h4:=R.base.2.2.1;have hlt:=less_lt hm;have hj':j < (d.set j (d[j].1,Z10 d[j].2 [t])).length:=by rw [List.length_set]; exact hj
    have e:(d.set j (d[j].1,Z10 d[j].2 [t]))[j] = (d[j].1,Z10 d[j].2 [t]):=by simp
    show Z1J _ ((j:Int),(t,true)) true = _;rw [step_add hj' (by rw [e]; intro hc; exact (Z3R.1 hc).2 (by simp)) (by rw [e]; exact R.len t hm) (by rw [e]; show (Z10 d[j].2 [t]).length < 400; omega),e,ins_less okr R.srt hm,Z8y hj _ _ rfl]
   ·cases h
 ·cases h
theorem Z8m:∀ (l:List Ch) (d d':List Re),DbR d → (∀ c ∈ l,okT c.2.1) → ZA7 d l = some d' → ZA7 d' (Z6j l) = some d ∧ DbR d'
 | [],d,d',D,_,h=>by cases h; exact ⟨rfl,D⟩
 | c :: l,d,d',D,ok,h=>by
  have h':(Z1J d c true).bind (fun d1=>ZA7 d1 l) = some d':=h;cases hs:Z1J d c true with
  | none=>rw [hs] at h'; cases h'
  | some d1 =>
   rw [hs,Option.bind_some] at h';have okc:=ok c List.mem_cons_self;have D1:=Z4h D (fun _=>okc) hs;obtain ⟨ih,D2⟩:=Z8m l d1 d' D1 (fun x hx=>ok x (List.mem_cons_of_mem _ hx)) h';refine ⟨?_,D2⟩;rw [ZAd,Z4q,ih,Option.bind_some];show (Z1J d1 (flipC c) true).bind (fun d2=>ZA7 d2 []) = _;rw [ZAy D hs (fun _=>okc),Option.bind_some]
   rfl
end Go.Abs
namespace Go.Abs
set_option linter.unusedVariables false
set_option linter.unusedSimpArgs false
theorem Z8x (n:Nat) (hn:1100000 ≤ n) (d:List Re) (D:DbR d) (K:Unit → Option Bool):∀ (k i:Nat),i ≤ d.length → d.length - i < k → spec_DbShape.l0 n d K k (i:Int) = K ()
 | 0,i,hi,hk=>absurd hk (Nat.not_lt_zero _)
 | k + 1,i,hi,hk=>by
  have h20:=D.len
  by_cases h:i < d.length
  ·conv=>lhs; unfold spec_DbShape.l0
   rw [if_pos (dlt h),if_pos (inl' h),Z0c _ h,Z4Q n hn _ (D.rel _ (List.getElem_mem h)),Option.bind_some,if_neg (by simp),wr1 (by omega)];exact Z8x n hn d D K k (i + 1) (by omega) (by omega)
  ·conv=>lhs; unfold spec_DbShape.l0
   rw [if_neg (dnl h)]
theorem shape_mk (n:Nat) (hn:1100000 ≤ n) (d:List Re) (D:DbR d):spec_DbShape.F n d = some true ∧ impl_isShape.F n d = some true:=by
 have h20:=D.len;have hs:spec_DbShape.F n d = some true:=by
  unfold spec_DbShape.F;have:=Z8x n hn d D (fun _=>some true) n 0 (Nat.zero_le _) (by omega);rw [show ((0:Nat):Int) = 0 from rfl] at this;rw [if_neg (by simp; omega),this]
 obtain ⟨b,b1,b2,_⟩:=db_eq n n hn hn d (by omega) (fun x hx t ht s hs=>(Z2C ((D.rel x hx).base.2.2.2 t ht)).2 s hs) (fun x hx t ht=>(Z2C ((D.rel x hx).base.2.2.2 t ht)).1);rw [hs] at b1;cases b1;exact ⟨hs,b2⟩
theorem ZAO (n:Nat) (hn:1100000 ≤ n) (t:Tu) (T:okT t):impl_isTuple.F n t = some true:=by
 obtain ⟨b,b1,b2,_⟩:=Z6G n n hn hn t (Z2C T).2;rw [Z3g n hn t T] at b1;cases b1;exact b2
theorem Z7o (n:Nat) (hn:1100000 ≤ n) (L:List Ch) (hL:L.length ≤ 1048576) (ok:∀ c ∈ L,okT c.2.1):∀ (k i:Nat) (d:List Re),i ≤ L.length → L.length - i < k → DbR d →
  impl_Apply.l0 n L (L.length:Int) [] (fun t=>some (t,true)) k (i:Int) d = match ZA7 d (L.drop i) with | some d'=>some (d',true) | none=>some ([],false)
 | 0,i,d,hi,hk,_=>absurd hk (Nat.not_lt_zero _)
 | k + 1,i,d,hi,hk,D=>by
  by_cases h:i < L.length
  ·have T:=ok _ (List.getElem_mem h)
   rw [Z7a n hn L hL k i h d D true (fun _=>T) (ZAO n hn _ T),List.drop_eq_getElem_cons h];show _ = match (Z1J d L[i] true).bind (fun d'=>ZA7 d' (L.drop (i + 1))) with | some d'=>some (d',true) | none=>some ([],false)
   cases hs:Z1J d L[i] true with
   | none=>rfl
   | some d' =>
    rw [Option.bind_some];exact Z7o n hn L hL ok k (i + 1) d' (by omega) (by omega) (Z4h D (fun _=>T) hs)
  ·conv=>lhs; unfold impl_Apply.l0
   rw [if_neg (dnl h),List.drop_of_length_le (by omega)]
   rfl
theorem Z3U (n:Nat) (hn:1100000 ≤ n) (d:List Re) (D:DbR d) (L:List Ch) (hL:L.length ≤ 1048576) (ok:∀ c ∈ L,okT c.2.1) :
  impl_Apply.F n d L = match ZA7 d L with | some d'=>some (d',true) | none=>some ([],false):=by
 unfold impl_Apply.F;rw [(shape_mk n hn d D).2,Option.bind_some,if_neg (by simp),Z7g n hn d D,Option.bind_some];have:=Z7o n hn L hL ok n 0 d (Nat.zero_le _) (by omega) D;rw [show ((0:Nat):Int) = 0 from rfl,List.drop_zero] at this;exact this
end Go.Abs
