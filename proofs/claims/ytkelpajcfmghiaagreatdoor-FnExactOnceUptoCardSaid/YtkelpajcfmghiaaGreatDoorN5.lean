/- Once: both sides. Conditions: none. -/
import Derived.Test.YtkelpajcfmghiaaGreatDoorK4
import Derived.Test.YtkelpajcfmghiaaGreatDoorY8
import Derived.Test.YtkelpajcfmghiaaGreatDoorMB
open Bool renaming eq_false_iff → JV,false_and → LG,not_eq_true' → L0,true_and → KD
open ByteArray renaming empty → Jq,size → Js
open Function renaming comp → O9
open Go.Abs renaming seq → Km
open Go.Abs.Kd renaming bulk → JE
open Go.IntKind renaming i64 → Ju
open Go.Lib renaming join → KG,join_nil → Of
open Int renaming toNat → Jt
open List renaming any_cons → MP,append_assoc → Ka,append_nil → KA,drop_eq_getElem_cons → JH,drop_of_length_le → JJ,drop_zero → JY,flatten_cons → Pa,foldl_cons → NE,getD → Jv,getElem_mem → JK,length → Jr,length_append → Jx,length_cons → Jw,length_map → Kp,length_nil → JB,length_pos_iff → Ly,length_take → Li,map_append → Kz,map_cons → JM,map_map → Lq,map_nil → KI,mem_append → KP,mem_cons_of_mem → JR,mem_cons_self → JN,mem_singleton → Kb,nil_append → Kx,sum_cons → Ko,take_append_drop → KR,take_of_length_le → JT,take_succ_eq_append_getElem → JG,take_zero → KF
open Nat renaming not_lt_zero → JL,zero_le → JQ
open Option renaming bind_some → Jp
open Prod renaming ext_iff → Mt
set_option linter.unusedVariables false
set_option linter.unusedSimpArgs false
namespace Go.Abs
theorem C1 (sep:By)(l:List By)(x:By):KG (l++[x]) sep=if l=[]then x else KG l sep++sep++x:=by
 cases l with
 |nil=>simp[Lib.join_one]
 |cons y l=>simp[kO,jE]
theorem Dp (sep:By)(l m:List By):∃t,KG (l++m) sep=KG l sep++t:=by
 cases l with
 |nil=>exact⟨KG m sep,by simp[Of]⟩
 |cons x l=>exact⟨jE sep m,by simp[kO,jE]⟩
def St (s A:By):Prop:=s=A\/(3000<s.length/\3000<A.length)
theorem St.more {s A:By}(h:St s A)(hl:3000<s.length)(B:By):St s (A++B):=by
 right
 refine⟨hl,?_⟩;rcases h with rfl|h
 ·simp;omega
 ·simp;omega
theorem St.app {s A:By}(h:St s A)(t:By):St (s++t) (A++t):=by
 rcases h with rfl|h
 ·exact .inl rfl
 ·right;simp;omega
theorem St.pre {s A:By}(h:St s A)(t:By):St (t++s) (t++A):=by
 rcases h with rfl|h
 ·exact .inl rfl
 ·right;simp;omega
def Dq (l:List ByteArray):By:=KG (l.map (·.data.toList)) [44,32]
def kW (c:ByteArray×List ByteArray):By:=c.1.data.toList++(if c.2=[]then []else [40]++Dq c.2++[41])
def zu (l:List (ByteArray×List ByteArray)):By:=KG (l.map kW) [32,124,32]
def pD (t:TD):By:=[116,121,112,101,32]++t.1.data.toList++[32,61,32]
def Ix (t:TD):By:=pD t++zu t.2++[46,10]
def Hy (m:Int):By:=if m=1 then [32,105,110,112,117,116]else if m=2 then [32,111,117,116,112,117,116]else if m=3 then [32,105,110,108,105,110,101]else []
def Hz (r:RD):By:=[114,101,108,32]++r.1.data.toList++[40]++Dq r.2.1++[41]++Hy r.2.2++[46,10]
noncomputable def If (r:Ru):By:=(fP r).data.toList++[10]
def jI (l:List TD):By:=(l.map Ix).flatten
def hJ (l:List RD):By:=(l.map Hz).flatten
noncomputable def jT (l:List Ru):By:=(l.map If).flatten
noncomputable def lN (p:PP):By:=jI p.1++hJ p.2.1++jT p.2.2
def Dr (p:PP):Prop:=∀r∈p.2.1,0<=r.2.2/\r.2.2<=3
def C2 (p:PP):Prop:=∀r∈p.2.2,¬Km (fP r) Jq=true
open Classical in
noncomputable def jA (p:PP):ByteArray:=if Dr p/\C2 p/\(lN p).length<=3000 then bt (lN p)else Jq
theorem ub {p:PP}(h1:Dr p)(h2:C2 p)(h3:(lN p).length<=3000):jA p=bt (lN p):=by unfold jA;rw[ab ⟨h1,h2,h3⟩]
theorem jU {p:PP}(h:¬(lN p).length<=3000):jA p=Jq:=by unfold jA;rw[ao (λx=>h x.2.2)]
theorem xi {p:PP}(h:¬Dr p):jA p=Jq:=by unfold jA;rw[ao (λx=>h x.1)]
theorem sh {p:PP}(h:¬C2 p):jA p=Jq:=by unfold jA;rw[ao (λx=>h x.2.1)]
theorem sk (r:Ru):(fP r).size<=3000:=by
 unfold fP
 split
 ·rw[ah];exact(‹_/\_›).2
 ·simp
def wS (l:List ByteArray):Nat:=(l.map λs=>s.size+1).sum+1
def wC (c:ByteArray×List ByteArray):Nat:=c.1.size+1+wS c.2
def wT (t:TD):Nat:=t.1.size+1+((t.2.map wC).sum+1)
def wR (r:RD):Nat:=r.1.size+1+(wS r.2.1+1)
abbrev Jj:Kd:=.sl .str
abbrev J6:Kd:=.st (.pair .str Jj)
abbrev KTD:Kd:=.st (.pair .str (.sl J6))
abbrev KRD:Kd:=.st (.pair .str (.pair Jj (.int .i64)))
abbrev HA:Kd:=.st (.pair (.sl KTD) (.pair (.sl KRD) (.sl oa)))
theorem oN (p:PP):JE HA p=((p.1.map wT).sum+1)+(((p.2.1.map wR).sum+1)+((p.2.2.map (JE oa)).sum+1)):=rfl
theorem sn {α:Type}(f:α->Nat):∀(l:List α) (i:Nat),((l.take i).map f).sum<=(l.map f).sum
 |[],i=>by simp
 |x::l,0=>by simp
 |x::l,i+1=>by have:=sn f l i;simp only[List.take_succ_cons,JM,Ko];omega
theorem dr {α:Type}(f:α->Nat)(h:∀x,1<=f x):∀l:List α,l.length<=(l.map f).sum
 |[]=>by simp
 |x::l=>by have:=dr f h l;have:=h x;simp only[JM,Ko,Jw];omega
theorem je {α:Type}(f:α->Nat):∀(l:List α) (x:α),x∈l->f x<=(l.map f).sum
 |y::l,x,h=>by
  simp only[JM,Ko];rcases List.mem_cons.1 h with rfl|h
  ·omega
  ·have:=je f l x h;omega
theorem oO (l:List ByteArray):(Dq l).length<=3*wS l:=by
 unfold Dq wS;rw[kl];have h1:((l.map (·.data.toList)).map Jr).sum<=(l.map λs=>s.size+1).sum:=by
  rw[Lq]
  induction l with
  |nil=>simp
  |cons x l ih=>simp only[JM,Ko,O9];have:x.data.toList.length=x.size:=rfl;omega
 have h2:=dr (λs:ByteArray=>s.size+1) (λ_=>by omega) l;simp only[Kp,Jw,JB];omega
theorem Ds (c:ByteArray×List ByteArray):(kW c).length<=3*wC c:=by
 unfold kW wC;have:=oO c.2;have h:c.1.data.toList.length=c.1.size:=rfl
 split<;>simp only[Jx,Jw,JB]<;>omega
theorem pE (c:ByteArray×List ByteArray):1<=wC c:=by unfold wC;omega
theorem AB (l:List (ByteArray×List ByteArray)):(zu l).length<=6*(l.map wC).sum:=by
 unfold zu;rw[kl];have h1:((l.map kW).map Jr).sum<=3*(l.map wC).sum:=by
  rw[Lq]
  induction l with
  |nil=>simp
  |cons x l ih=>simp only[JM,Ko,O9];have:=Ds x;omega
 have h2:=dr wC pE l;simp only[Kp,Jw,JB];omega
theorem FC (t:TD):(Ix t).length<=12*wT t:=by
 unfold Ix pD wT;have:=AB t.2;have h:t.1.data.toList.length=t.1.size:=rfl;simp only[Jx,Jw,JB];omega
theorem vt (m:Int):(Hy m).length<=7:=by
 unfold Hy
 split
 ·simp
 ·split
  ·simp
  ·split<;>simp
theorem FD (r:RD):(Hz r).length<=12*wR r:=by
 unfold Hz wR;have:=oO r.2.1;have:=vt r.2.2;have h:r.1.data.toList.length=r.1.size:=rfl;simp only[Jx,Jw,JB];omega
theorem so:∀l:List TD,(jI l).length<=12*(l.map wT).sum
 |[]=>by simp[jI]
 |t::l=>by have:=so l;have:=FC t;unfold jI at*;simp only[JM,Pa,Jx,Ko];omega
theorem pF:∀l:List RD,(hJ l).length<=12*(l.map wR).sum
 |[]=>by simp[hJ]
 |t::l=>by have:=pF l;have:=FD t;unfold hJ at*;simp only[JM,Pa,Jx,Ko];omega
theorem uc (l:List TD)(t:TD):jI (l++[t])=jI l++Ix t:=by simp[jI]
theorem sq (l:List RD)(t:RD):hJ (l++[t])=hJ l++Hz t:=by simp[hJ]
theorem ud (l:List Ru)(t:Ru):jT (l++[t])=jT l++If t:=by simp[jT]
theorem Dt (l m:List TD):jI (l++m)=jI l++jI m:=by simp[jI]
theorem C3 (l m:List RD):hJ (l++m)=hJ l++hJ m:=by simp[hJ]
theorem xj (l m:List Ru):jT (l++m)=jT l++jT m:=by simp[jT]
section
variable {n:Nat}
theorem bz (s:ByteArray):s=bt s.data.toList:=jK s
theorem FE (s:ByteArray):s.size=s.data.toList.length:=rfl
theorem ue {α:Type}(sep:By)(f:α->By)(l:List α){i:Nat}(h:i<l.length):KG ((l.take (i+1)).map f) sep=if i=0 then f l[i]else KG ((l.take i).map f) sep++sep++f l[i]:=by
 rw[JG h,Kz,JM,KI,C1]
 by_cases h0:i=0
 ·subst h0;simp
 ·rw[ao (λe=>by have:=congrArg Jr e;simp only[Kp,Li,JB]at this;omega),ao h0]
theorem nJ {α:Type}(sep:By)(f:α->By)(l:List α)(i:Nat):∃t,KG (l.map f) sep=KG ((l.take i).map f) sep++t:=by
 obtain⟨t,ht⟩:=Dp sep ((l.take i).map f) ((l.drop i).map f);exact⟨t,by rw[← ht,← Kz,KR]⟩
theorem Du {l:List ByteArray}{s:ByteArray}(h:s∈l):s.size+1<=wS l:=by
 have:=je (λs:ByteArray=>s.size+1) l s h;unfold wS;omega
theorem sr (l:List ByteArray)(hl:wS l<=1100000)(K:ByteArray->Option ByteArray):∀k i,i<=l.length->l.length - i<k->(KG ((l.take i).map (·.data.toList)) [44,32]).length<=1200000->
  ∃s,fV.l0 n l K k (bt (KG ((l.take i).map (·.data.toList)) [44,32])) (i:Int)=K (bt s)/\St s (Dq l)/\s.length<=1200000
 |0,i,_,hk,_=>by omega
 |k+1,i,hi,hk,hs=>by
  have hlen:l.length<=wS l:=by have:=dr (λs:ByteArray=>s.size+1) (λ_=>by omega) l;unfold wS;omega
  generalize hA:KG ((l.take i).map (·.data.toList)) [44,32]=A at hs;rw[fV.l0]
  by_cases h:i<l.length
  ·rw[ab (jq h)]
   by_cases h3:A.length<=3000
   ·rw[ab (by rw[ah,dg];omega)]
    have hm:=Du (JK h);have hT:=ue [44,32] (·.data.toList) l h;have hz:=FE l[i];unfold fV.j1;simp only[aE _ h]
    by_cases h0:i=0
    ·rw[ao (by simp[h0]),ab (inl' h),ab (by rw[ah];simp only[aT];omega),iY (by omega)]
     have hA0:A=[]:=by rw[← hA,h0];rfl
     have e:bt A++l[i]=bt (KG ((l.take (i+1)).map (·.data.toList)) [44,32]):=by
      conv=>lhs;rw[bz l[i]]
      rw[ap,hT,ab h0,hA0,Kx]
     rw[e];exact sr l hl K k (i+1) h (by omega) (by rw[hT,ab h0];omega)
    ·rw[ab (by simp;omega),ab (by rw[ah];simp only[aT];show A.length+2<=_;omega),ab (inl' h),ab (by
      rw[show(⟨#[44,32]⟩:ByteArray)=bt [44,32]from rfl,ap,ah,Jx];simp only[aT,Jw,JB];omega),iY (by omega)]
     have e:bt A++⟨#[44,32]⟩++l[i]=bt (KG ((l.take (i+1)).map (·.data.toList)) [44,32]):=by
      conv=>lhs;rw[bz l[i]]
      rw[show(⟨#[44,32]⟩:ByteArray)=bt [44,32]from rfl,ap,ap,hT,ao h0,hA]
     rw[e];refine sr l hl K k (i+1) h (by omega) ?_;rw[hT,ao h0,hA];simp only[Jx,Jw,JB];omega
   ·rw[ao (by rw[ah,dg];omega)]
    obtain⟨t,ht⟩:=nJ [44,32] (·.data.toList) l i;refine⟨A,rfl,?_,hs⟩;have e:Dq l=A++t:=by unfold Dq;rw[ht,hA]
    rw[e];exact(St.more (.inl rfl) (by omega) t)
  ·rw[ao (km h)]
   refine⟨A,rfl,.inl ?_,hs⟩;rw[← hA,JT (by omega)]
   rfl
theorem Dv (hn:1200000<=n)(l:List ByteArray)(hl:wS l<=1100000):∃s,fV.F n l=some (bt s)/\St s (Dq l)/\s.length<=1200000:=by
 have hlen:l.length<=wS l:=by have:=dr (λs:ByteArray=>s.size+1) (λ_=>by omega) l;unfold wS;omega
 obtain⟨s,h1,h2⟩:=sr (n:=n) l hl (λs10=>some s10) n 0 (JQ _) (by omega) (by simp[Of]);exact⟨s,h1,h2⟩
theorem AC (hn:1200000<=n)(c:ByteArray×List ByteArray)(hc:wC c<=1100000)(A:By)(hA:A.length<=4000)(a b:Int)(p:PP)(Kn:ByteArray->Option ByteArray):
  ∃s,bC.j4 n (bt A) a b p c Kn=Kn (bt (A++s))/\St s (kW c)/\s.length<=2400000:=by
 unfold wC at hc;have hz:=FE c.1;unfold bC.j4;rw[ab (by rw[ah];simp only[aT];omega)];have e:bt A++c.1=bt (A++c.1.data.toList):=by conv=>lhs;rw[bz c.1];rw[ap]
 by_cases h:c.2=[]
 ·rw[ao (by simp[h]),e]
  refine⟨c.1.data.toList,rfl,.inl ?_,by omega⟩;unfold kW;rw[ab h,KA]
 ·obtain⟨s,h1,h2,h3⟩:=Dv hn c.2 (by omega)
  have hp:0<c.2.length:=Ly.2 h;rw[ab (by simp;omega),e,show(⟨#[40]⟩:ByteArray)=bt [40]from rfl,show(⟨#[41]⟩:ByteArray)=bt [41]from rfl,ab (by simp only[ah,Jx,Jw,JB,aT];omega),h1,Jp,
   ab (by simp only[ap,ah,Jx,Jw,JB,aT];omega),ab (by simp only[ap,ah,Jx,Jw,JB,aT];omega)]
  simp only[ap];refine⟨c.1.data.toList++([40]++s++[41]),by simp only[Ka],?_,by simp only[Jx,Jw,JB];omega⟩;unfold kW;rw[ao h];exact((h2.pre [40]).app [41]).pre _
theorem pG (hn:1200000<=n)(p:PP){a:Nat}(ha:a<p.1.length)(hw:wT p.1[a]<=1100000)(A:By)(K:ByteArray->Option ByteArray):∀k j s,j<=(p.1[a]).2.length->(p.1[a]).2.length - j<k->s.length<=3000000->St s (A++zu ((p.1[a]).2.take j))->
  ∃s',bC.l2 n (a:Int) p K k (bt s) (j:Int)=K (bt s')/\St s' (A++zu (p.1[a]).2)/\s'.length<=3000000
 |0,j,s,_,hk,_,_=>by omega
 |k+1,j,s,hj,hk,hs,hst=>by
  unfold wT at hw;have hlen:=dr wC pE (p.1[a]).2;rw[bC.l2,ab (inl' ha)];simp only[aE _ ha];obtain⟨t,ht⟩:=nJ [32,124,32] kW (p.1[a]).2 j;have hcs:zu (p.1[a]).2=zu ((p.1[a]).2.take j)++t:=ht
  by_cases h:j<(p.1[a]).2.length
  ·rw[ab (jq h)]
   by_cases h3:s.length<=3000
   ·rw[ab (by rw[ah,dg];omega)]
    have hex:s=A++zu ((p.1[a]).2.take j):=by
     rcases hst with hst|hst
     ·exact hst
     ·omega
    have hc:=je wC (p.1[a]).2 _ (JK h);have hT:zu ((p.1[a]).2.take (j+1))=if j=0 then kW (p.1[a]).2[j]else zu ((p.1[a]).2.take j)++[32,124,32]++kW (p.1[a]).2[j]:=ue [32,124,32] kW (p.1[a]).2 h
    unfold bC.j3;simp only[aE _ ha];rw[ab (inl' ha),ab (inl' h),aE _ h]
    by_cases h0:j=0
    ·rw[ao (by simp[h0])]
     obtain⟨s1,e1,e2,e3⟩:=AC hn (p.1[a]).2[j] (by omega) s (by omega) (a:Int) (j:Int) p (λt23=>bC.l2 n (a:Int) p K k t23 (Ju.wrap ((j:Int)+1)));rw[e1,iY (by omega)];refine pG hn p ha (by unfold wT;omega) A K k (j+1) _ h (by omega) (by simp only[Jx];omega) ?_;rw[hT,ab h0,hex];have:zu ((p.1[a]).2.take j)=[]:=by rw[h0];rfl
     rw[this,KA];exact e2.pre A
    ·rw[ab (by simp;omega),show(⟨#[32,124,32]⟩:ByteArray)=bt [32,124,32]from rfl,ab (by simp only[ah,Jw,JB,aT];omega),ap]
     obtain⟨s1,e1,e2,e3⟩:=AC hn (p.1[a]).2[j] (by omega) (s++[32,124,32]) (by simp;omega) (a:Int) (j:Int) p (λt22=>bC.l2 n (a:Int) p K k t22 (Ju.wrap ((j:Int)+1)));rw[e1,iY (by omega)];refine pG hn p ha (by unfold wT;omega) A K k (j+1) _ h (by omega) (by simp only[Jx,Jw,JB];omega) ?_;rw[hT,ao h0,hex];have:=e2.pre (A++zu ((p.1[a]).2.take j)++[32,124,32]);simp only[Ka]at this⊢;exact this
   ·rw[ao (by rw[ah,dg];omega)]
    refine⟨s,rfl,?_,hs⟩;rw[hcs,← Ka];exact hst.more (by omega) t
  ·rw[ao (km h)]
   refine⟨s,rfl,?_,hs⟩;rw[JT (by omega)]at hst;exact hst
theorem types_loop' (hn:1200000<=n)(p:PP)(hw:(p.1.map wT).sum<=1100000)(K:ByteArray->Option ByteArray)(R:Option ByteArray)(hK:∀s,s.length<=4000000->St s (jI p.1)->K (bt s)=R):∀k i s,i<=p.1.length->p.1.length - i<k->s.length<=4000000->St s (jI (p.1.take i))->
  bC.l0 n p K k (bt s) (i:Int)=R
 |0,i,s,_,hk,_,_=>by omega
 |k+1,i,s,hi,hk,hs,hst=>by
  have hlen:=dr wT (λt=>by unfold wT;omega) p.1;rw[bC.l0]
  by_cases h:i<p.1.length
  ·rw[ab (jq h)]
   by_cases h3:s.length<=3000
   ·rw[ab (by rw[ah,dg];omega)]
    have hex:s=jI (p.1.take i):=by
     rcases hst with hst|hst
     ·exact hst
     ·omega
    have hc:=je wT p.1 _ (JK h);have hcl:=dr wC pE (p.1[i]).2;have hc':wT p.1[i]=(p.1[i]).1.size+1+(((p.1[i]).2.map wC).sum+1):=rfl;have hz:=FE (p.1[i]).1;unfold bC.j1;simp only[aE _ h];have e:∀x:By,bt x++(p.1[i]).1=bt (x++(p.1[i]).1.data.toList):=λx=>by conv=>lhs;rw[bz (p.1[i]).1];rw[ap]
    rw[show(⟨#[116,121,112,101,32]⟩:ByteArray)=bt [116,121,112,101,32]from rfl,show(⟨#[32,61,32]⟩:ByteArray)=bt [32,61,32]from rfl,ab (by simp only[ah,Jw,JB,aT];omega),ab (inl' h),ap,
     ab (by simp only[ah,Jx,Jw,JB,aT];omega),e,ab (by simp only[ah,Jx,Jw,JB,aT];omega),ap]
    obtain⟨s',e1,e2,e3⟩:=pG hn p h (by omega) (s++pD p.1[i]) (λt26=>
      if Js t26+Js ⟨#[46,10]⟩<=aT then bC.l0 n p K k (t26++⟨#[46,10]⟩) (Ju.wrap ((i:Int)+1))else none) n 0 (s++pD p.1[i]) (JQ _) (by omega) (by unfold pD;simp only[Jx,Jw,JB];omega) (.inl (by simp[zu,Of]))
    refine Eq.trans (b:=_) ?_ (e1.trans ?_)
    ·unfold pD;simp only[Ka];rfl
    ·rw[show(⟨#[46,10]⟩:ByteArray)=bt [46,10]from rfl,ab (by simp only[ah,Jw,JB,aT];omega),ap,iY (by omega)]
     refine types_loop' hn p hw K R hK k (i+1) _ h (by omega) (by simp only[Jx,Jw,JB];omega) ?_;rw[JG h,uc,← hex];have:=e2.app [46,10];unfold Ix;simp only[Ka]at this⊢;exact this
   ·rw[ao (by rw[ah,dg];omega)]
    refine hK s hs ?_;have:jI p.1=jI (p.1.take i)++jI (p.1.drop i):=by rw[← Dt,KR]
    rw[this];exact hst.more (by omega) _
  ·rw[ao (km h)]
   refine hK s hs ?_;rw[JT (by omega)]at hst;exact hst
theorem HB {m:Int}(h:0<=m/\m<=3):Jv ([Jq,⟨#[32,105,110,112,117,116]⟩,⟨#[32,111,117,116,112,117,116]⟩,⟨#[32,105,110,108,105,110,101]⟩]:List ByteArray) (Jt m) Jq=bt (Hy m):=by
 obtain⟨h0,h1⟩:=h;have:m=0\/m=1\/m=2\/m=3:=by omega
 rcases this with rfl|rfl|rfl|rfl<;>rfl
theorem rels_loop' (hn:1200000<=n)(p:PP)(hw:(p.2.1.map wR).sum<=1100000)(K:ByteArray->Option ByteArray)(A:By)
  (hK:∀s,s.length<=4000000->St s (A++hJ p.2.1)->(Dr p\/3000<s.length)->K (bt s)=some (jA p)):∀k i s,i<=p.2.1.length->p.2.1.length - i<k->s.length<=4000000->St s (A++hJ (p.2.1.take i))->
  ((∀r∈p.2.1.take i,0<=r.2.2/\r.2.2<=3)\/3000<s.length)->bC.l5 n p K k (bt s) (i:Int)=some (jA p)
 |0,i,s,_,hk,_,_,_=>by omega
 |k+1,i,s,hi,hk,hs,hst,hm=>by
  have hlen:=dr wR (λt=>by unfold wR;omega) p.2.1;rw[bC.l5]
  by_cases h:i<p.2.1.length
  ·rw[ab (jq h)]
   by_cases h3:s.length<=3000
   ·rw[ab (by rw[ah,dg];omega)]
    have hex:s=A++hJ (p.2.1.take i):=by
     rcases hst with hst|hst
     ·exact hst
     ·omega
    have hm':∀r∈p.2.1.take i,0<=r.2.2/\r.2.2<=3:=by
     rcases hm with hm|hm
     ·exact hm
     ·omega
    have hc:=je wR p.2.1 _ (JK h);have hc':wR p.2.1[i]=(p.2.1[i]).1.size+1+(wS (p.2.1[i]).2.1+1):=rfl;have hz:=FE (p.2.1[i]).1;unfold bC.j6;simp only[aE _ h];rw[ab (inl' h),dW,Jp]
    by_cases hmd:0<=(p.2.1[i]).2.2/\(p.2.1[i]).2.2<=3
    ·obtain⟨l,l1,l2,l3⟩:=Dv hn (p.2.1[i]).2.1 (by omega)
     have hml:=vt (p.2.1[i]).2.2;have e:∀x:By,bt x++(p.2.1[i]).1=bt (x++(p.2.1[i]).1.data.toList):=λx=>by conv=>lhs;rw[bz (p.2.1[i]).1];rw[ap]
     rw[ao (by simp[hmd]),show(⟨#[114,101,108,32]⟩:ByteArray)=bt [114,101,108,32]from rfl,show(⟨#[40]⟩:ByteArray)=bt [40]from rfl,show(⟨#[41]⟩:ByteArray)=bt [41]from rfl,show(⟨#[46,10]⟩:ByteArray)=bt [46,10]from rfl,
      ab (by simp only[ah,Jw,JB,aT];omega),ab (inl' h),ap,ab (by simp only[ah,Jx,Jw,JB,aT];omega),e,
      ab (by simp only[ah,Jx,Jw,JB,aT];omega),ab (inl' h),l1,Jp,ap,ab (by simp only[ah,Jx,Jw,JB,aT];omega),ap,
      ab (by simp only[ah,Jx,Jw,JB,aT];omega),ab (inl' h),ab (by simp;omega),HB hmd,ap,ab (by simp only[ah,Jx,Jw,JB,aT];omega),ap,
      ab (by simp only[ah,Jx,Jw,JB,aT];omega),ap,iY (by omega)]
     refine rels_loop' hn p hw K A hK k (i+1) _ h (by omega) (by simp only[Jx,Jw,JB];omega) ?_ (.inl ?_)
     ·rw[JG h,sq,← Ka,← hex]
      have:=(l2.pre (s++([114,101,108,32]++((p.2.1[i]).1.data.toList++[40])))).app ([41]++(Hy (p.2.1[i]).2.2++[46,10]));unfold Hz;simp only[Ka]at this⊢;exact this
     ·intro r hr
      rw[JG h]at hr;rcases KP.1 hr with hr|hr
      ·exact hm' r hr
      ·rw[Kb.1 hr];exact hmd
    ·rw[ab (by simp only[L0,vK];exact hmd),xi (λx=>hmd (x _ (JK h)))]
   ·rw[ao (by rw[ah,dg];omega)]
    refine hK s hs ?_ (.inr (by omega));have:hJ p.2.1=hJ (p.2.1.take i)++hJ (p.2.1.drop i):=by rw[← C3,KR]
    rw[this,← Ka];exact hst.more (by omega) _
  ·rw[ao (km h)]
   rw[JT (by omega)]at hst hm;exact hK s hs hst hm
theorem rules_loop' (hn:cZ<=n)(p:PP)(hw:(p.2.2.map (JE oa)).sum<=1048576)(K:ByteArray->Option ByteArray)(A:By)
  (hK:∀s,s.length<=4000000->St s (A++jT p.2.2)->(C2 p\/3000<s.length)->K (bt s)=some (jA p)):∀k i s,i<=p.2.2.length->p.2.2.length - i<k->s.length<=4000000->St s (A++jT (p.2.2.take i))->
  ((∀r∈p.2.2.take i,¬Km (fP r) Jq=true)\/3000<s.length)->bC.l7 n p K k (bt s) (i:Int)=some (jA p)
 |0,i,s,_,hk,_,_,_=>by omega
 |k+1,i,s,hi,hk,hs,hst,hm=>by
  have hlen:=dr (JE oa) (λt=>ki oa t) p.2.2;rw[bC.l7]
  by_cases h:i<p.2.2.length
  ·rw[ab (jq h)]
   by_cases h3:s.length<=3000
   ·rw[ab (by rw[ah,dg];omega)]
    have hex:s=A++jT (p.2.2.take i):=by
     rcases hst with hst|hst
     ·exact hst
     ·omega
    have hm':∀r∈p.2.2.take i,¬Km (fP r) Jq=true:=by
     rcases hm with hm|hm
     ·exact hm
     ·omega
    have hc:=je (JE oa) p.2.2 _ (JK h);unfold bC.j8;rw[ab (inl' h),aE _ h,sf hn (by omega),Jp]
    by_cases he:Km (fP p.2.2[i]) Jq=true
    ·rw[ab he,sh (λx=>x _ (JK h) he)]
    ·have hz:=sk p.2.2[i]
     have hz':=FE (fP p.2.2[i]);have e:bt s++fP p.2.2[i]=bt (s++(fP p.2.2[i]).data.toList):=by conv=>lhs;rw[bz (fP p.2.2[i])];rw[ap]
     rw[ao he,ab (by rw[ah];simp only[aT];omega),e,show(⟨#[10]⟩:ByteArray)=bt [10]from rfl,ab (by simp only[ah,Jx,Jw,JB,aT];omega),ap,iY (by omega)];refine rules_loop' hn p hw K A hK k (i+1) _ h (by omega) (by simp only[Jx,Jw,JB];omega) ?_ (.inl ?_)
     ·rw[JG h,ud,← Ka,← hex]
      unfold If;rw[Ka];exact .inl rfl
     ·intro r hr
      rw[JG h]at hr;rcases KP.1 hr with hr|hr
      ·exact hm' r hr
      ·rw[Kb.1 hr];exact he
   ·rw[ao (by rw[ah,dg];omega)]
    refine hK s hs ?_ (.inr (by omega));have:jT p.2.2=jT (p.2.2.take i)++jT (p.2.2.drop i):=by rw[← xj,KR]
    rw[this,← Ka];exact hst.more (by omega) _
  ·rw[ao (km h)]
   rw[JT (by omega)]at hst hm;exact hK s hs hst hm
theorem vu (hn:cZ<=n)(p:PP)(hb:JE HA p<=1048576):bC.F n p=some (jA p):=by
 have hn1:100000000<=n:=by unfold cZ at hn;omega
 rw[oN]at hb;have h1:=dr wT (λt=>by unfold wT;omega) p.1;have h2:=dr wR (λt=>by unfold wR;omega) p.2.1;have h3:=dr (JE oa) (λt=>ki oa t) p.2.2;unfold bC.F;refine types_loop' (by omega) p (by omega) _ _ ?_ n 0 [] (JQ _) (by omega) (by simp) (.inl (by simp[jI]));intro s hs hst;refine rels_loop' (by omega) p (by omega) _ (jI p.1) ?_ n 0 s (JQ _) (by omega) hs (by simpa[hJ]using hst) (.inl (by simp));intro s2 hs2 hst2 hmd;have hP:lN p=jI p.1++hJ p.2.1++jT p.2.2:=rfl;rcases hmd with hmd|hlong
 rotate_left
 ·obtain⟨g,rfl⟩:∃g,n=g+1:=⟨n - 1,by omega⟩
  have hl:¬(lN p).length<=3000:=by
   rw[hP];have:=(hst2.more hlong (jT p.2.2));rcases this with e|e
   ·rw[← e];omega
   ·omega
  rw[bC.l7]
  by_cases h0:0<p.2.2.length
  ·rw[ab (by simpa using h0),ao (by rw[ah,dg];omega),ab (by rw[ah,dg];omega),jU hl]
  ·rw[ao (by simpa using h0),ab (by rw[ah,dg];omega),jU hl]
 refine rules_loop' hn p (by omega) _ (jI p.1++hJ p.2.1) ?_ n 0 s2 (JQ _) (by omega) hs2 (by simpa[jT]using hst2) (.inl (by simp));intro s3 hs3 hst3 hrl;rw[← hP]at hst3;rcases hst3 with rfl|⟨h5,h6⟩
 ·by_cases h5:(lN p).length<=3000
  ·rw[ao (by rw[ah,dg];omega),ub ?_ ?_ h5]
   ·exact hmd
   ·rcases hrl with hrl|hrl
    ·exact hrl
    ·omega
  ·rw[ab (by rw[ah,dg];omega),jU h5]
 ·rw[ab (by rw[ah,dg];omega),jU (by omega)]
end
section
variable {n:Nat}
theorem Gn (l:List ByteArray)(sep:By)(h1:l.length<=aT)(h2:(KG (l.map (·.data.toList)) sep).length<=aT):cJ.F n l (bt sep)=some (bt (KG (l.map (·.data.toList)) sep)):=by
 unfold cJ.F;rw[eB sep,ab ⟨h1,h2⟩]
 rfl
theorem Gp (l:List ByteArray)(hl:wS l<=1100000):cJ.F n l (bt [44,32])=some (bt (Dq l)):=by
 have hlen:=dr (λs:ByteArray=>s.size+1) (λ_=>by omega) l;have h:=oO l;have hw:wS l=(l.map λs=>s.size+1).sum+1:=rfl;refine Gn l [44,32] (by simp only[aT];omega) ?_;show(Dq l).length<=aT;simp only[aT];omega
theorem Jk (cs:List (ByteArray×List ByteArray))(hw:(cs.map wC).sum<=1100000)(t7:ByteArray)(t8:List TD)(t9 t10:Int)(t14:PP)(t15:TD)(K:List ByteArray->Option ByteArray):∀k j,j<=cs.length->cs.length - j<k->
  da.l1 n t7 t8 t9 t10 cs (cs.length:Int) t14 t15 K k (j:Int) (((cs.take j).map kW).map bt)=K ((cs.map kW).map bt)
 |0,j,_,hk=>by omega
 |k+1,j,hj,hk=>by
  have hlen:=dr wC pE cs;rw[da.l1]
  by_cases h:j<cs.length
  ·have hc:=je wC cs _ (JK h)
   have hc':wC cs[j]=(cs[j]).1.size+1+wS (cs[j]).2:=rfl;have hz:=FE (cs[j]).1;have hls:=oO (cs[j]).2;have ih:=Jk cs hw t7 t8 t9 t10 t14 t15 K k (j+1) h (by omega);rw[JG h,Kz,Kz,JM,KI,JM,KI]at ih;rw[ab (jq h),ab (inl' h)];simp only[aE _ h];have lm:∀x:ByteArray,(((cs.take j).map kW).map bt).length+[x].length<=aT:=λx=>by simp only[Kp,Li,Jw,JB,aT];omega
   by_cases h0:(cs[j]).2=[]
   ·rw[ao (by simp[h0]),ab (lm _),iY (by omega)]
    have e:kW cs[j]=(cs[j]).1.data.toList:=by unfold kW;rw[ab h0,KA]
    rw[e,← bz]at ih;exact ih
   ·have hp:0<(cs[j]).2.length:=Ly.2 h0
    rw[ab (by simp;omega),show(⟨#[44,32]⟩:ByteArray)=bt [44,32]from rfl,Gp _ (by omega),Jp,show(⟨#[40]⟩:ByteArray)=bt [40]from rfl,show(⟨#[41]⟩:ByteArray)=bt [41]from rfl,
     ab (by simp only[ah,Jw,JB,aT];omega),ap,ab (by simp only[ah,Jx,Jw,JB,aT];omega),ap,
     ab (by rw[hz];simp only[ah,Jx,Jw,JB,aT];omega),ab (lm _),iY (by omega)]
    have e:(cs[j]).1++bt ([40]++Dq (cs[j]).2++[41])=bt (kW cs[j]):=by
     conv=>lhs;rw[bz (cs[j]).1]
     rw[ap];unfold kW;rw[ao h0]
    rw[e];exact ih
  ·rw[ao (km h),JT (by omega)]
theorem Iy (hn:1200000<=n)(l:List TD)(hw:(l.map wT).sum<=1100000)(t6:PP)(K:ByteArray->Option ByteArray):∀k i,i<=l.length->l.length - i<k->
  da.l0 n l (l.length:Int) t6 K k (bt (jI (l.take i))) (i:Int)=K (bt (jI l))
 |0,i,_,hk=>by omega
 |k+1,i,hi,hk=>by
  have hlen:=dr wT (λt=>by unfold wT;omega) l;rw[da.l0]
  by_cases h:i<l.length
  ·have hc:=je wT l _ (JK h)
   have hc':wT l[i]=(l[i]).1.size+1+(((l[i]).2.map wC).sum+1):=rfl;have hcl:=dr wC pE (l[i]).2;have hz:=FE (l[i]).1;have hcs:=AB (l[i]).2;have hty:=so (l.take i);have hty2:=sn wT l i;have ih:=Iy hn l hw t6 K k (i+1) h (by omega);rw[JG h,uc]at ih;rw[ab (jq h),ab (inl' h)];simp only[aE _ h];have e1:=λK=>Jk (n:=n) (l[i]).2 (by omega) (bt (jI (l.take i))) l (l.length:Int) (i:Int) t6 l[i] K n 0 (JQ _) (by omega)
   simp only[KF,KI,show((0:Nat):Int)=0 from rfl]at e1;rw[e1];have ej:cJ.F n (((l[i]).2.map kW).map bt) ⟨#[32,124,32]⟩=some (bt (zu (l[i]).2)):=by
    have em:(((l[i]).2.map kW).map bt).map (·.data.toList)=(l[i]).2.map kW:=by
     rw[Lq]
     conv=>rhs;rw[← List.map_id ((l[i]).2.map kW)]
     exact List.map_congr_left λa _=>eB a
    have:=Gn (n:=n) (((l[i]).2.map kW).map bt) [32,124,32] (by simp only[Kp,aT];omega) (by rw[em];show(zu (l[i]).2).length<=aT;simp only[aT];omega);rw[em]at this;exact this
   have e:∀x:By,bt x++(l[i]).1=bt (x++(l[i]).1.data.toList):=λx=>by conv=>lhs;rw[bz (l[i]).1];rw[ap]
   rw[show(⟨#[116,121,112,101,32]⟩:ByteArray)=bt [116,121,112,101,32]from rfl,show(⟨#[32,61,32]⟩:ByteArray)=bt [32,61,32]from rfl,show(⟨#[46,10]⟩:ByteArray)=bt [46,10]from rfl,
    ab (by rw[hz];simp only[ah,Jw,JB,aT];omega),e,ab (by simp only[ah,Jx,Jw,JB,aT];omega),ej,Jp,ap,
    ab (by simp only[ah,Jx,Jw,JB,aT];omega),ap,ab (by simp only[ah,Jx,Jw,JB,aT];omega),ap,
    ab (by simp only[ah,Jx,Jw,JB,aT];omega),ap,iY (by omega)]
   exact ih
  ·rw[ao (km h),JT (by omega)]
theorem Gq (hn:1200000<=n)(p:PP)(hw:(p.2.1.map wR).sum<=1100000)(A:By)(hA:A.length<=20000000)(t25:PP)(K:ByteArray->Option ByteArray)(hK:Dr p->K (bt (A++hJ p.2.1))=some (jA p)):∀k i,i<=p.2.1.length->p.2.1.length - i<k->(∀r∈p.2.1.take i,0<=r.2.2/\r.2.2<=3)->
  da.l2 n p.2.1 (p.2.1.length:Int) t25 K k (bt (A++hJ (p.2.1.take i))) (i:Int)=some (jA p)
 |0,i,_,hk,_=>by omega
 |k+1,i,hi,hk,hm=>by
  have hlen:=dr wR (λt=>by unfold wR;omega) p.2.1;rw[da.l2]
  by_cases h:i<p.2.1.length
  ·have hc:=je wR p.2.1 _ (JK h)
   have hc':wR p.2.1[i]=(p.2.1[i]).1.size+1+(wS (p.2.1[i]).2.1+1):=rfl;have hz:=FE (p.2.1[i]).1;have hls:=oO (p.2.1[i]).2.1;have hml:=vt (p.2.1[i]).2.2;have hty:=pF (p.2.1.take i);have hty2:=sn wR p.2.1 i;rw[ab (jq h),ab (inl' h)];simp only[aE _ h];rw[GS,Jp]
   by_cases hmd:0<=(p.2.1[i]).2.2/\(p.2.1[i]).2.2<=3
   ·have ih:=Gq hn p hw A hA t25 K hK k (i+1) h (by omega) (by
     intro r hr;rw[JG h]at hr;rcases KP.1 hr with hr|hr
     ·exact hm r hr
     ·rw[Kb.1 hr];exact hmd)
    rw[JG h,sq]at ih;have e:∀x:By,bt x++(p.2.1[i]).1=bt (x++(p.2.1[i]).1.data.toList):=λx=>by conv=>lhs;rw[bz (p.2.1[i]).1];rw[ap]
    rw[ao (by simp[hmd]),show(⟨#[114,101,108,32]⟩:ByteArray)=bt [114,101,108,32]from rfl,show(⟨#[40]⟩:ByteArray)=bt [40]from rfl,show(⟨#[41]⟩:ByteArray)=bt [41]from rfl,show(⟨#[46,10]⟩:ByteArray)=bt [46,10]from rfl,show(⟨#[44,32]⟩:ByteArray)=bt [44,32]from rfl,show(⟨#[32]⟩:ByteArray)=bt [32]from rfl,
     ab (by rw[hz];simp only[ah,Jw,JB,aT];omega),e,ab (by simp only[ah,Jx,Jw,JB,aT];omega),Gp _ (by omega),Jp,ap,
     ab (by simp only[ah,Jx,Jw,JB,aT];omega),ap,ab (by simp only[ah,Jx,Jw,JB,aT];omega),ap,
     ab (by simp only[ah,Jx,Jw,JB,aT];omega),ap]
    by_cases h0:(p.2.1[i]).2.2=0
    ·rw[ao (by simp[h0]),ab (by simp only[ah,Jx,Jw,JB,aT];omega),ap,iY (by omega)]
     have em:Hy (p.2.1[i]).2.2=[]:=by rw[h0];rfl
     unfold Hz at ih;rw[em]at ih;simp only[Ka,Kx]at ih⊢;exact ih
    ·have em:bt [32]++Jv ([Jq,⟨#[105,110,112,117,116]⟩,⟨#[111,117,116,112,117,116]⟩,⟨#[105,110,108,105,110,101]⟩]:List ByteArray) (Jt (p.2.1[i]).2.2) Jq=bt (Hy (p.2.1[i]).2.2)/\(Jv ([Jq,⟨#[105,110,112,117,116]⟩,⟨#[111,117,116,112,117,116]⟩,⟨#[105,110,108,105,110,101]⟩]:List ByteArray) (Jt (p.2.1[i]).2.2) Jq).size<=6:=by
      have:(p.2.1[i]).2.2=1\/(p.2.1[i]).2.2=2\/(p.2.1[i]).2.2=3:=by omega
      rcases this with e|e|e<;>rw[e]<;>exact⟨rfl,by decide⟩
     rw[ab (by simp[h0])];unfold fu.F;rw[Jp,ab (by simp;omega),ab (by have:=em.2;simp only[ah,Jw,JB,aT];omega),em.1,ab (by simp only[ah,Jx,Jw,JB,aT];omega),ap,
      ab (by simp only[ah,Jx,Jw,JB,aT];omega),ap,iY (by omega)]
     unfold Hz at ih;simp only[Ka]at ih⊢;exact ih
   ·rw[ab (by simp only[L0,vK];exact hmd),xi (λx=>hmd (x _ (JK h)))]
  ·rw[ao (km h),JT (by omega)]
   rw[JT (by omega)]at hm;exact hK hm
theorem Dw (hn:cZ<=n)(p:PP)(hw:(p.2.2.map (JE oa)).sum<=1048576)(A:By)(hP:lN p=A++jT p.2.2)(hA:A.length<=40000000)(K:ByteArray->Option ByteArray)(hK:C2 p->K (bt (lN p))=some (jA p)):∀k i,i<=p.2.2.length->p.2.2.length - i<k->(∀r∈p.2.2.take i,¬Km (fP r) Jq=true)->(A++jT (p.2.2.take i)).length<=50000000->
  da.l3 n p.2.2 (p.2.2.length:Int) K k (bt (A++jT (p.2.2.take i))) (i:Int)=some (jA p)
 |0,i,_,hk,_,_=>by omega
 |k+1,i,hi,hk,hm,hs=>by
  have hlen:=dr (JE oa) (λt=>ki oa t) p.2.2;rw[da.l3]
  by_cases h:i<p.2.2.length
  ·have hc:=je (JE oa) p.2.2 _ (JK h)
   rw[ab (jq h),ab (inl' h),aE _ h,ya n (by unfold cZ at hn;omega) _ (kV (by omega)).toSmR,Jp]
   by_cases he:Km (fP p.2.2[i]) Jq=true
   ·rw[ao (by rw[he];simp),sh (λx=>x _ (JK h) he)]
   ·rw[ab (JV.2 he)]
    by_cases h3:(A++jT (p.2.2.take i)).length<=3000
    ·have hz:=sk p.2.2[i]
     have hz':=FE (fP p.2.2[i]);have ih:=Dw hn p hw A hP hA K hK k (i+1) h (by omega) (by
      intro r hr;rw[JG h]at hr;rcases KP.1 hr with hr|hr
      ·exact hm r hr
      ·rw[Kb.1 hr];exact he)
     rw[JG h,ud]at ih;have e:fP p.2.2[i]++⟨#[10]⟩=bt (If p.2.2[i]):=by
      have:=ap (fP p.2.2[i]).data.toList [10];rw[← bz]at this;exact this
     have hr:(If p.2.2[i]).length<=3001:=by unfold If;simp only[Jx,Jw,JB];omega
     rw[ao (by rw[ah,dg];omega),ab (by simp only[aT];show(fP p.2.2[i]).size+1<=4294967296;omega),e,ab (by rw[ah,ah];simp only[aT];omega),ap,iY (by omega)];rw[Ka];exact ih (by rw[← Ka,Jx];omega)
    ·have hl:¬(lN p).length<=3000:=by
      have:jT p.2.2=jT (p.2.2.take i)++jT (p.2.2.drop i):=by rw[← xj,KR]
      rw[hP,this,← Ka,Jx];omega
     rw[ab (by rw[ah,dg];omega),jU hl]
  ·rw[ao (km h),JT (by omega),← hP]
   rw[JT (by omega)]at hm;exact hK hm
theorem vv (hn:cZ<=n)(p:PP)(hb:JE HA p<=1048576):da.F n p=some (jA p):=by
 have hn1:100000000<=n:=by unfold cZ at hn;omega
 rw[oN]at hb;have h1:=dr wT (λt=>by unfold wT;omega) p.1;have h2:=dr wR (λt=>by unfold wR;omega) p.2.1;have h3:=dr (JE oa) (λt=>ki oa t) p.2.2;have l1:=so p.1;have l2:=pF p.2.1;unfold da.F;have e0:=λK=>Iy (n:=n) (by omega) p.1 (by omega) p K n 0 (JQ _) (by omega)
 simp only[KF,show((0:Nat):Int)=0 from rfl,show jI []=[]from rfl]at e0;refine(e0 _).trans ?_;have hP:lN p=(jI p.1++hJ p.2.1)++jT p.2.2:=rfl;have e1:=λK hK=>Gq (n:=n) (by omega) p (by omega) (jI p.1) (by omega) p K hK n 0 (JQ _) (by omega) (by simp)
 simp only[KF,show((0:Nat):Int)=0 from rfl,show hJ []=[]from rfl,KA]at e1;refine e1 _ λhmd=>?_
 have e2:=λK hK=>Dw (n:=n) hn p (by omega) (jI p.1++hJ p.2.1) hP (by rw[Jx];omega) K hK n 0 (JQ _) (by omega) (by simp) (by simp only[KF,show jT []=[]from rfl,KA,Jx];omega)
 simp only[KF,show((0:Nat):Int)=0 from rfl,show jT []=[]from rfl,KA]at e2;refine e2 _ λhrl=>?_
 by_cases h5:(lN p).length<=3000
 ·rw[ao (by rw[ah,dg];omega),ub hmd hrl h5]
 ·rw[ab (by rw[ah,dg];omega),jU h5]
end
instance decRu:DecidableEq Ru:=λx y=>inferInstance
instance decRus:DecidableEq (List Ru):=inferInstance
instance decRR:DecidableEq (List RD×List Ru):=λx y=>inferInstance
instance decPP:DecidableEq PP:=λx y=>inferInstance
section
variable (n:Nat)
theorem Gr (a b:List ByteArray)(hab:a.length=b.length)(ha:a.length<=1048576):∀(k i:Nat),i<=a.length->a.length - i<k->fW.l0 n a b (λ_=>some true) k (i:Int)=some (decide (a.drop i=b.drop i))
 |0,i,_,hk=>bH hk (JL _)
 |k+1,i,hi,hk=>by
  by_cases h:i<a.length
  ·have h2:i<b.length:=by omega
   conv=>lhs;unfold fW.l0
   rw[ab (jq h),ab (inl' h),ab (inl' h2),aE _ h,aE _ h2,gX,JH h,JH h2]
   by_cases e:a[i]=b[i]
   ·rw[ao (by simp[e]),iY (by omega),Gr a b hab ha k (i+1) (by omega) (by omega),dO,iX e,KD]
   ·rw[ab (by simp[e]),dO,dq e,LG]
  ·conv=>lhs;unfold fW.l0
   rw[ao (km h),JJ (by omega),JJ (by omega)]
   rfl
theorem HC (hn:1100000<=n)(a b:List ByteArray)(ha:a.length<=1048576):fW.F n a b=some (decide (a=b)):=by
 unfold fW.F
 by_cases hab:a.length=b.length
 ·rw[ao (by simp[hab])]
  have:=Gr n a b hab ha n 0 (JQ _) (by omega);rw[show((0:Nat):Int)=0 from rfl,JY,JY]at this;exact this
 ·have:¬(a.length:Int)=(b.length:Int):=by omega
  rw[ab (by simp[this]),dq (λe=>hab (by rw[e]))]
theorem Gs (a b:List ByteArray)(hab:a.length=b.length)(ha:a.length<=1048576):∀(k i:Nat),i<=a.length->a.length - i<k->bA.l0 n a b (a.length:Int) (λ_=>some true) k (i:Int)=some (decide (a.drop i=b.drop i))
 |0,i,_,hk=>bH hk (JL _)
 |k+1,i,hi,hk=>by
  by_cases h:i<a.length
  ·have h2:i<b.length:=by omega
   conv=>lhs;unfold bA.l0
   rw[ab (jq h),ab (inl' h),ab (inl' h2),aE _ h,aE _ h2,gX,JH h,JH h2]
   by_cases e:a[i]=b[i]
   ·rw[ao (by simp[e]),iY (by omega),Gs a b hab ha k (i+1) (by omega) (by omega),dO,iX e,KD]
   ·rw[ab (by simp[e]),dO,dq e,LG]
  ·conv=>lhs;unfold bA.l0
   rw[ao (km h),JJ (by omega),JJ (by omega)]
   rfl
theorem Dx (hn:1100000<=n)(a b:List ByteArray)(ha:a.length<=1048576):bA.F n a b=some (decide (a=b)):=by
 unfold bA.F
 by_cases hab:a.length=b.length
 ·rw[ao (by simp[hab])]
  have:=Gs n a b hab ha n 0 (JQ _) (by omega);rw[show((0:Nat):Int)=0 from rfl,JY,JY]at this;exact this
 ·have:¬(a.length:Int)=(b.length:Int):=by omega
  rw[ab (by simp[this]),dq (λe=>hab (by rw[e]))]
theorem Dy (hn:1100000<=n)(a b:List ByteArray)(ha:a.length<=1048576):im.F n a b=some (decide (a=b)):=by
 unfold im.F;rw[HC n hn a b ha]
 rfl
abbrev CN:Type:=ByteArray×List ByteArray
theorem Gt (a b:List CN)(f:CN×CN×Unit->Option Bool)(hf:∀x∈a,∀y,f (x,y,())=some (decide (x=y)))(hab:a.length=b.length)(ha:a.length<=1048576):∀(k i:Nat),i<=a.length->a.length - i<k->br.l0 n b f a (a.length:Int) (λ_=>some true) k (i:Int)=some (decide (a.drop i=b.drop i))
 |0,i,_,hk=>bH hk (JL _)
 |k+1,i,hi,hk=>by
  by_cases h:i<a.length
  ·have h2:i<b.length:=by omega
   conv=>lhs;unfold br.l0
   rw[ab (jq h),ab (inl' h),ab (inl' h2),aE _ h,aE _ h2,hf _ (JK h),Jp,JH h,JH h2]
   by_cases e:a[i]=b[i]
   ·rw[ao (by simp[e]),iY (by omega),Gt a b f hf hab ha k (i+1) (by omega) (by omega),dO,iX e,KD]
   ·rw[ab (by simp[e]),dO,dq e,LG]
  ·conv=>lhs;unfold br.l0
   rw[ao (km h),JJ (by omega),JJ (by omega)]
   rfl
theorem HD (hn:1100000<=n)(a b:List CN)(f:CN×CN×Unit->Option Bool)(hf:∀x∈a,∀y,f (x,y,())=some (decide (x=y)))(ha:a.length<=1048576):br.F n a b f=some (decide (a=b)):=by
 unfold br.F
 by_cases hab:a.length=b.length
 ·rw[ao (by simp[hab])]
  have:=Gt n a b f hf hab ha n 0 (JQ _) (by omega);rw[show((0:Nat):Int)=0 from rfl,JY,JY]at this;exact this
 ·have:¬(a.length:Int)=(b.length:Int):=by omega
  rw[ab (by simp[this]),dq (λe=>hab (by rw[e]))]
theorem Gu (a b:List TD)(f:TD×TD×Unit->Option Bool)(hf:∀x∈a,∀y,f (x,y,())=some (decide (x=y)))(hab:a.length=b.length)(ha:a.length<=1048576):∀(k i:Nat),i<=a.length->a.length - i<k->aG.l0 n b f a (a.length:Int) (λ_=>some true) k (i:Int)=some (decide (a.drop i=b.drop i))
 |0,i,_,hk=>bH hk (JL _)
 |k+1,i,hi,hk=>by
  by_cases h:i<a.length
  ·have h2:i<b.length:=by omega
   conv=>lhs;unfold aG.l0
   rw[ab (jq h),ab (inl' h),ab (inl' h2),aE _ h,aE _ h2,hf _ (JK h),Jp,JH h,JH h2]
   by_cases e:a[i]=b[i]
   ·rw[ao (by simp[e]),iY (by omega),Gu a b f hf hab ha k (i+1) (by omega) (by omega),dO,iX e,KD]
   ·rw[ab (by simp[e]),dO,dq e,LG]
  ·conv=>lhs;unfold aG.l0
   rw[ao (km h),JJ (by omega),JJ (by omega)]
   rfl
theorem HE (hn:1100000<=n)(a b:List TD)(f:TD×TD×Unit->Option Bool)(hf:∀x∈a,∀y,f (x,y,())=some (decide (x=y)))(ha:a.length<=1048576):aG.F n a b f=some (decide (a=b)):=by
 unfold aG.F
 by_cases hab:a.length=b.length
 ·rw[ao (by simp[hab])]
  have:=Gu n a b f hf hab ha n 0 (JQ _) (by omega);rw[show((0:Nat):Int)=0 from rfl,JY,JY]at this;exact this
 ·have:¬(a.length:Int)=(b.length:Int):=by omega
  rw[ab (by simp[this]),dq (λe=>hab (by rw[e]))]
theorem Gv (a b:List RD)(f:RD×RD×Unit->Option Bool)(hf:∀x∈a,∀y,f (x,y,())=some (decide (x=y)))(hab:a.length=b.length)(ha:a.length<=1048576):∀(k i:Nat),i<=a.length->a.length - i<k->aL.l0 n b f a (a.length:Int) (λ_=>some true) k (i:Int)=some (decide (a.drop i=b.drop i))
 |0,i,_,hk=>bH hk (JL _)
 |k+1,i,hi,hk=>by
  by_cases h:i<a.length
  ·have h2:i<b.length:=by omega
   conv=>lhs;unfold aL.l0
   rw[ab (jq h),ab (inl' h),ab (inl' h2),aE _ h,aE _ h2,hf _ (JK h),Jp,JH h,JH h2]
   by_cases e:a[i]=b[i]
   ·rw[ao (by simp[e]),iY (by omega),Gv a b f hf hab ha k (i+1) (by omega) (by omega),dO,iX e,KD]
   ·rw[ab (by simp[e]),dO,dq e,LG]
  ·conv=>lhs;unfold aL.l0
   rw[ao (km h),JJ (by omega),JJ (by omega)]
   rfl
theorem HF (hn:1100000<=n)(a b:List RD)(f:RD×RD×Unit->Option Bool)(hf:∀x∈a,∀y,f (x,y,())=some (decide (x=y)))(ha:a.length<=1048576):aL.F n a b f=some (decide (a=b)):=by
 unfold aL.F
 by_cases hab:a.length=b.length
 ·rw[ao (by simp[hab])]
  have:=Gv n a b f hf hab ha n 0 (JQ _) (by omega);rw[show((0:Nat):Int)=0 from rfl,JY,JY]at this;exact this
 ·have:¬(a.length:Int)=(b.length:Int):=by omega
  rw[ab (by simp[this]),dq (λe=>hab (by rw[e]))]
theorem Gw (a b:List Ru)(f:Ru×Ru×Unit->Option Bool)(hf:∀x∈a,∀y,f (x,y,())=some (decide (x=y)))(hab:a.length=b.length)(ha:a.length<=1048576):∀(k i:Nat),i<=a.length->a.length - i<k->bm.l0 n b f a (a.length:Int) (λ_=>some true) k (i:Int)=some (decide (a.drop i=b.drop i))
 |0,i,_,hk=>bH hk (JL _)
 |k+1,i,hi,hk=>by
  by_cases h:i<a.length
  ·have h2:i<b.length:=by omega
   conv=>lhs;unfold bm.l0
   rw[ab (jq h),ab (inl' h),ab (inl' h2),aE _ h,aE _ h2,hf _ (JK h),Jp,JH h,JH h2]
   by_cases e:a[i]=b[i]
   ·rw[ao (by simp[e]),iY (by omega),Gw a b f hf hab ha k (i+1) (by omega) (by omega),dO,iX e,KD]
   ·rw[ab (by simp[e]),dO,dq e,LG]
  ·conv=>lhs;unfold bm.l0
   rw[ao (km h),JJ (by omega),JJ (by omega)]
   rfl
theorem HG (hn:1100000<=n)(a b:List Ru)(f:Ru×Ru×Unit->Option Bool)(hf:∀x∈a,∀y,f (x,y,())=some (decide (x=y)))(ha:a.length<=1048576):bm.F n a b f=some (decide (a=b)):=by
 unfold bm.F
 by_cases hab:a.length=b.length
 ·rw[ao (by simp[hab])]
  have:=Gw n a b f hf hab ha n 0 (JQ _) (by omega);rw[show((0:Nat):Int)=0 from rfl,JY,JY]at this;exact this
 ·have:¬(a.length:Int)=(b.length:Int):=by omega
  rw[ab (by simp[this]),dq (λe=>hab (by rw[e]))]
theorem lO {α β:Type} [DecidableEq α] [DecidableEq β](x y:α×β):decide (x=y)=(decide (x.1=y.1)&&decide (x.2=y.2)):=by
 obtain⟨a,b⟩:=x;obtain⟨d,e⟩:=y
 by_cases h1:a=d<;>by_cases h2:b=e<;>simp[h1,h2]
theorem J7 (hn:1100000<=n)(x y:CN)(hx:x.2.length<=1048576):eT.F n x y=some (decide (x=y)):=by
 unfold eT.F;rw[Dx n hn _ _ hx,gX,lO];cases decide (x.1=y.1)<;>cases decide (x.2=y.2)<;>rfl
theorem iTD (hn:1100000<=n)(x y:TD)(hx:x.2.length<=1048576)(hx2:∀c∈x.2,c.2.length<=1048576):fD.F n x y=some (decide (x=y)):=by
 unfold fD.F;rw[HD n hn x.2 y.2 _ (λc hc d=>by
  show((eT.F n c d).bind some)=_;rw[J7 n hn c d (hx2 c hc)]
  rfl) hx,gX,lO]
 cases decide (x.1=y.1)<;>cases decide (x.2=y.2)<;>rfl
theorem iRD (hn:1100000<=n)(x y:RD)(hx:x.2.1.length<=1048576):fH.F n x y=some (decide (x=y)):=by
 unfold fH.F;rw[Dx n hn _ _ hx,gX,lO,lO];cases decide (x.1=y.1)<;>cases decide (x.2.1=y.2.1)<;>cases decide (x.2.2=y.2.2)<;>rfl
structure zv (p:PP):Prop where
 tys:p.1.length<=1048576
 cons:∀t∈p.1,t.2.length<=1048576
 cty:∀t∈p.1,∀c∈t.2,c.2.length<=1048576
 rels:p.2.1.length<=1048576
 rty:∀r∈p.2.1,r.2.1.length<=1048576
 rules:p.2.2.length<=1048576
 rul:∀r∈p.2.2,JE oa r<=1048576
theorem Dz {p:PP}(hb:JE HA p<=1048576):zv p:=by
 rw[oN]at hb;have h1:=dr wT (λt=>by unfold wT;omega) p.1;have h2:=dr wR (λt=>by unfold wR;omega) p.2.1;have h3:=dr (JE oa) (λt=>ki oa t) p.2.2;have hS:∀l:List ByteArray,l.length<=wS l:=λl=>by have:=dr (λs:ByteArray=>s.size+1) (λ_=>by omega) l;unfold wS;omega
 refine⟨by omega,λt ht=>?_,λt ht c hc=>?_,by omega,λr hr=>?_,by omega,λr hr=>?_⟩
 ·have a1:=je wT p.1 t ht
  have a2:wT t=t.1.size+1+((t.2.map wC).sum+1):=rfl;have a3:=dr wC pE t.2;omega
 ·have a1:=je wT p.1 t ht
  have a2:wT t=t.1.size+1+((t.2.map wC).sum+1):=rfl;have a3:=je wC t.2 c hc;have a4:wC c=c.1.size+1+wS c.2:=rfl;have:=hS c.2;omega
 ·have a1:=je wR p.2.1 r hr
  have a2:wR r=r.1.size+1+(wS r.2.1+1):=rfl;have:=hS r.2.1;omega
 ·have a1:=je (JE oa) p.2.2 r hr
  omega
theorem C4 (hn:1100000<=n)(p q:PP)(S:zv p):j9.F n p q=some (decide (p=q)):=by
 unfold j9.F;rw[HE n hn p.1 q.1 _ (λc hc d=>by
  show((fD.F n c d).bind some)=_;rw[iTD n hn c d (S.cons c hc) (S.cty c hc)]
  rfl) S.tys,HF n hn p.2.1 q.2.1 _ (λc hc d=>by
  show((fH.F n c d).bind some)=_;rw[iRD n hn c d (S.rty c hc)]
  rfl) S.rels,HG n hn p.2.2 q.2.2 _ (λc hc d=>by
  show((fg.F n c d).bind some)=_;rw[qy n hn c d (kV (S.rul c hc)).toSmR]
  rfl) S.rules,lO p q,lO p.2 q.2]
 cases decide (p.1=q.1)<;>cases decide (p.2.1=q.2.1)<;>cases decide (p.2.2=q.2.2)<;>rfl
theorem lw {α:Type}{a b:List α}{i:Nat}(h:i<a.length)(h2:i<b.length):a.drop i=b.drop i↔a[i]=b[i]/\a.drop (i+1)=b.drop (i+1):=by
 rw[JH h,JH h2,sY]
theorem xk (hn:1100000<=n)(p q:PP)(S:zv p){a:Nat}(ha:a<p.1.length)(ha2:a<q.1.length)(hab:(p.1[a]).2.length=(q.1[a]).2.length)(K:Unit->Option Bool):∀(k i:Nat),i<=(p.1[a]).2.length->(p.1[a]).2.length - i<k->cf.l3 n (a:Int) p q K k (i:Int)=if(p.1[a]).2.drop i=(q.1[a]).2.drop i then K ()else some false
 |0,i,_,hk=>bH hk (JL _)
 |k+1,i,hi,hk=>by
  have hc:=S.cons _ (JK ha)
  by_cases h:i<(p.1[a]).2.length
  ·have h2:i<(q.1[a]).2.length:=by omega
   conv=>lhs;unfold cf.l3
   simp only[aE _ ha,aE _ ha2];simp only[aE _ h,aE _ h2];rw[ab (inl' ha),ab (jq h)];simp only[ab (inl' ha),ab (inl' ha2),ab (inl' h),ab (inl' h2)];rw[Dy n hn _ _ (S.cty _ (JK ha) _ (JK h)),Jp,gX,iY (by omega),xk hn p q S ha ha2 hab K k (i+1) (by omega) (by omega)];have e:=lw h h2;have e2:(p.1[a]).2[i]=(q.1[a]).2[i]↔((p.1[a]).2[i]).1=((q.1[a]).2[i]).1/\((p.1[a]).2[i]).2=((q.1[a]).2[i]).2:=Mt
   by_cases c1:((p.1[a]).2[i]).1=((q.1[a]).2[i]).1
   ·rw[ab (by simp[c1])]
    by_cases c2:((p.1[a]).2[i]).2=((q.1[a]).2[i]).2
    ·rw[ao (by simp[c2])]
     by_cases c3:(p.1[a]).2.drop (i+1)=(q.1[a]).2.drop (i+1)
     ·rw[ab c3,ab (e.2 ⟨e2.2 ⟨c1,c2⟩,c3⟩)]
     ·rw[ao c3,ao (λx=>c3 (e.1 x).2)]
    ·rw[ab (by simp[c2]),ao (λx=>c2 (e2.1 (e.1 x).1).2)]
   ·rw[ao (by simp[c1]),ao (λx=>c1 (e2.1 (e.1 x).1).1)]
  ·conv=>lhs;unfold cf.l3
   simp only[aE _ ha];rw[ab (inl' ha),ao (km h),JJ (by omega),JJ (by omega),ab rfl]
theorem xl (hn:1100000<=n)(p q:PP)(S:zv p)(hab:p.1.length=q.1.length)(K:Unit->Option Bool):∀(k i:Nat),i<=p.1.length->p.1.length - i<k->cf.l1 n p q K k (i:Int)=if p.1.drop i=q.1.drop i then K ()else some false
 |0,i,_,hk=>bH hk (JL _)
 |k+1,i,hi,hk=>by
  have hc:=S.tys
  by_cases h:i<p.1.length
  ·have h2:i<q.1.length:=by omega
   have hcc:=S.cons _ (JK h)
   conv=>lhs;unfold cf.l1
   simp only[aE _ h,aE _ h2];rw[ab (jq h)];simp only[ab (inl' h),ab (inl' h2)];have e:=lw h h2;have e2:p.1[i]=q.1[i]↔(p.1[i]).1=(q.1[i]).1/\(p.1[i]).2=(q.1[i]).2:=Mt;rw[gX]
   by_cases c1:(p.1[i]).1=(q.1[i]).1
   ·rw[ab (by simp[c1])]
    by_cases cl:(p.1[i]).2.length=(q.1[i]).2.length
    ·rw[ao (by simp[cl])]
     unfold cf.j2;have e3:=λK=>xk n hn p q S h h2 cl K n 0 (JQ _) (by omega)
     simp only[show((0:Nat):Int)=0 from rfl,JY]at e3;rw[e3,iY (by omega),xl hn p q S hab K k (i+1) (by omega) (by omega)]
     by_cases c2:(p.1[i]).2=(q.1[i]).2
     ·rw[ab c2]
      by_cases c3:p.1.drop (i+1)=q.1.drop (i+1)
      ·rw[ab c3,ab (e.2 ⟨e2.2 ⟨c1,c2⟩,c3⟩)]
      ·rw[ao c3,ao (λx=>c3 (e.1 x).2)]
     ·rw[ao c2,ao (λx=>c2 (e2.1 (e.1 x).1).2)]
    ·have:¬((p.1[i]).2.length:Int)=((q.1[i]).2.length:Int):=by omega
     rw[ab (by simp[this]),ao (λx=>cl (by rw[(e2.1 (e.1 x).1).2]))]
   ·rw[ao (by simp[c1]),ao (λx=>c1 (e2.1 (e.1 x).1).1)]
  ·conv=>lhs;unfold cf.l1
   rw[ao (km h),JJ (by omega),JJ (by omega),ab rfl]
theorem xm (hn:1100000<=n)(p q:PP)(S:zv p)(hab:p.2.1.length=q.2.1.length)(K:Unit->Option Bool):∀(k i:Nat),i<=p.2.1.length->p.2.1.length - i<k->cf.l4 n p q K k (i:Int)=if p.2.1.drop i=q.2.1.drop i then K ()else some false
 |0,i,_,hk=>bH hk (JL _)
 |k+1,i,hi,hk=>by
  have hc:=S.rels
  by_cases h:i<p.2.1.length
  ·have h2:i<q.2.1.length:=by omega
   conv=>lhs;unfold cf.l4
   simp only[aE _ h,aE _ h2];rw[ab (jq h)];simp only[ab (inl' h),ab (inl' h2)];have e:=lw h h2;have e2:p.2.1[i]=q.2.1[i]↔(p.2.1[i]).1=(q.2.1[i]).1/\(p.2.1[i]).2.1=(q.2.1[i]).2.1/\(p.2.1[i]).2.2=(q.2.1[i]).2.2:=by rw[Mt,Mt]
   rw[gX,Dy n hn _ _ (S.rty _ (JK h)),Jp,iY (by omega),xm hn p q S hab K k (i+1) (by omega) (by omega)]
   by_cases c1:(p.2.1[i]).1=(q.2.1[i]).1
   ·rw[ab (by simp[c1])]
    by_cases c2:(p.2.1[i]).2.2=(q.2.1[i]).2.2
    ·rw[ab (by simp[c2])]
     by_cases c4:(p.2.1[i]).2.1=(q.2.1[i]).2.1
     ·rw[ao (by simp[c4])]
      by_cases c3:p.2.1.drop (i+1)=q.2.1.drop (i+1)
      ·rw[ab c3,ab (e.2 ⟨e2.2 ⟨c1,c4,c2⟩,c3⟩)]
      ·rw[ao c3,ao (λx=>c3 (e.1 x).2)]
     ·rw[ab (by simp[c4]),ao (λx=>c4 (e2.1 (e.1 x).1).2.1)]
    ·rw[ao (by simp[c2]),ao (λx=>c2 (e2.1 (e.1 x).1).2.2)]
   ·rw[ao (by simp[c1]),ao (λx=>c1 (e2.1 (e.1 x).1).1)]
  ·conv=>lhs;unfold cf.l4
   rw[ao (km h),JJ (by omega),JJ (by omega),ab rfl]
theorem xn (hn:1100000<=n)(p q:PP)(S:zv p)(hab:p.2.2.length=q.2.2.length)(K:Unit->Option Bool):∀(k i:Nat),i<=p.2.2.length->p.2.2.length - i<k->cf.l5 n p q K k (i:Int)=if p.2.2.drop i=q.2.2.drop i then K ()else some false
 |0,i,_,hk=>bH hk (JL _)
 |k+1,i,hi,hk=>by
  have hc:=S.rules
  by_cases h:i<p.2.2.length
  ·have h2:i<q.2.2.length:=by omega
   conv=>lhs;unfold cf.l5
   rw[ab (jq h),ab (inl' h),ab (inl' h2),aE _ h,aE _ h2,qB n hn _ _ (kV (S.rul _ (JK h))).toSmR,Jp,iY (by omega),xn hn p q S hab K k (i+1) (by omega) (by omega)];have e:=lw h h2
   by_cases c2:p.2.2[i]=q.2.2[i]
   ·rw[ao (by simp[c2])]
    by_cases c3:p.2.2.drop (i+1)=q.2.2.drop (i+1)
    ·rw[ab c3,ab (e.2 ⟨c2,c3⟩)]
    ·rw[ao c3,ao (λx=>c3 (e.1 x).2)]
   ·rw[ab (by simp[c2]),ao (λx=>c2 (e.1 x).1)]
  ·conv=>lhs;unfold cf.l5
   rw[ao (km h),JJ (by omega),JJ (by omega),ab rfl]
theorem C5 (hn:1100000<=n)(p q:PP)(S:zv p):cf.F n p q=some (decide (p=q)):=by
 unfold cf.F;have e:p=q↔p.1=q.1/\p.2.1=q.2.1/\p.2.2=q.2.2:=by rw[Mt,Mt]
 by_cases h1:p.1.length=q.1.length
 ·rw[ab (by simp[h1])]
  by_cases h2:p.2.1.length=q.2.1.length
  ·rw[ab (by simp[h2])]
   by_cases h3:p.2.2.length=q.2.2.length
   ·rw[ao (by simp[h3])]
    unfold cf.j0;have e1:=λK=>xl n hn p q S h1 K n 0 (JQ _) (by have:=S.tys;omega)
    have e2:=λK=>xm n hn p q S h2 K n 0 (JQ _) (by have:=S.rels;omega)
    have e3:=λK=>xn n hn p q S h3 K n 0 (JQ _) (by have:=S.rules;omega)
    simp only[show((0:Nat):Int)=0 from rfl,JY]at e1 e2 e3;rw[e1,e2,e3]
    by_cases c1:p.1=q.1
    ·rw[ab c1]
     by_cases c2:p.2.1=q.2.1
     ·rw[ab c2]
      by_cases c3:p.2.2=q.2.2
      ·rw[ab c3,iX (e.2 ⟨c1,c2,c3⟩)]
      ·rw[ao c3,dq (λx=>c3 (e.1 x).2.2)]
     ·rw[ao c2,dq (λx=>c2 (e.1 x).2.1)]
    ·rw[ao c1,dq (λx=>c1 (e.1 x).1)]
   ·have:¬(p.2.2.length:Int)=(q.2.2.length:Int):=by omega
    rw[ab (by simp[this]),dq (λx=>h3 (by rw[x]))]
  ·have:¬(p.2.1.length:Int)=(q.2.1.length:Int):=by omega
   rw[ao (by simp[this]),dq (λx=>h2 (by rw[x]))]
 ·have:¬(p.1.length:Int)=(q.1.length:Int):=by omega
  rw[ao (by simp[this]),dq (λx=>h1 (by rw[x]))]
theorem zw (hn:200000<=n):ea.F n Jq=some (P0,0,0):=by
 obtain⟨g,rfl⟩:∃g,n=g+1:=⟨n - 1,by omega⟩
 have ht:az.F (g+1) Jq=some ([],0,0):=by
  unfold az.F;rw[ao (by decide),az.l0,ao (by decide)]
 unfold ea.F;rw[ht,Jp,ao (by decide),ea.l0,ab (by decide),ao (by decide)];exact GQ (L:=[]) (Z:=0) (k:=0) (m:=false) (E:=[]) (P:=P0)
theorem DA (hn:cZ<=n)(p:PP)(hb:JE HA p<=1048576):∃b,iJ.F n p=some b/\jF.F n p=some b/\(b=true->IG p/\(∀r∈p.2.2,¬Km (fP r) Jq=true)/\p.1.length<=20/\p.2.1.length<=20/\p.2.2.length<=40):=by
 have hn1:1100000<=n:=by unfold cZ at hn;omega
 have S:=Dz hb;obtain⟨R,r1,r2,r3⟩:=Do (n:=n) (by omega) (jA p);unfold iJ.F jF.F;rw[vu hn p hb,vv hn p hb,Jp,Jp,r1,r2,Jp,Jp]
 by_cases c:R.2.2=0
 ·rw[ab (by simp[c]),ab (by simp[c]),C5 n hn1 p R.1 S,C4 n hn1 p R.1 S,Jp]
  refine⟨_,rfl,rfl,λh=>?_⟩;have he:p=R.1:=of_decide_eq_true h;rcases r3 with⟨_,g1,g2,g3,g4⟩|⟨g,_⟩
  ·rw[← he]at g1 g2 g3 g4
   refine⟨g1,?_,g2,g3,g4⟩
   by_cases hr:C2 p
   ·exact hr
   ·exfalso
    have ht:=sh hr;rw[ht,zw n (by omega)]at r1;have:R.1=P0:=by have:=Option.some.inj r1;rw[← this]
    rw[this]at he;exact hr (by rw[he];intro r hx;cases hx)
  ·exact bH c g
 ·rw[ao (by simp[c]),ao (by simp[c])]
  exact⟨false,rfl,rfl,λh=>by cases h⟩
end
theorem FG (p:Nat)(h:p<=100000):(vT p).size<=9:=by
 have:=tf (p+1) (by omega);unfold vT;rw[ah,Jw];omega
theorem HH {names:List ByteArray}(hl:names.length<=1000)(e:Ex):bx (tz names e)<=bx e+9:=by
 unfold tz
 split
 ·have:=FG (kF names e.2.1) (by have:=List.findIdx_le_length (xs:=names) (p:=λx=>decide (x=e.2.1));unfold kF;omega)
  have h1:bx (e.1,(vT (kF names e.2.1),e.2.2))=3+(vT (kF names e.2.1)).size+e.2.2.length:=rfl;have h2:=pC e;omega
 ·omega
theorem C6 {r:Ru}(hE:r.1.length<=900):zO (gA r)<=zO r+9000:=by
 have hl:=lT r.1 [];simp only[JB,Nat.zero_add]at hl;have key:∀(names:List ByteArray),names.length<=1000->∀l:List Ex,((l.map (tz names)).map bx).sum<=(l.map bx).sum+9*l.length:=by
  intro names hn l
  induction l with
  |nil=>exact Nat.le_refl _
  |cons x l ih=>
   have:=HH hn x;simp only[JM,Ko,Jw];omega
 have:=key (bL [] r.1) (by omega) r.1;have h1:zO (gA r)=((r.1.map (tz (bL [] r.1))).map bx).sum+bx r.2.1+(r.2.2.map bx).sum:=rfl;have h2:=Az r;omega
theorem uf {r:Ru}(S:SmR r)(hE:r.1.length<=900)(h:zO r<=1048576):SmR (gA r):=by
 have hb:=C6 hE;refine⟨by unfold gA;rw[Kp];omega,S.body,λe he=>?_,S.args,by omega⟩;obtain⟨x,hx,rfl⟩:=List.mem_map.1 he;have:=S.kids x hx;unfold tz
 split<;>exact this
section
variable (n:Nat)
theorem Gx (r:Ru)(S:SmR r)(r7 r8:Ru)(x:Ex×List Ex)(K:Ru->Option Ru):∀(k i:Nat),i<=r.1.length->r.1.length - i<k->
  cc.l0 n r.1 (r.1.length:Int) r7 r8 K k (i:Int) (r.1.take i,x)=K (r.1,x)
 |0,i,_,hk=>bH hk (JL _)
 |k+1,i,hi,hk=>by
  have hE:=S.exps
  by_cases h:i<r.1.length
  ·have hke:=S.kids _ (JK h)
   have ih:=Gx r S r7 r8 x K k (i+1) (by omega) (by omega);rw[JG h]at ih
   conv=>lhs;unfold cc.l0
   simp only[aE _ h,Kx];rw[ab (jq h),ab (inl' h),ab (by simp[aT];omega)];unfold ja.F;rw[Jp,ab (by simp[aT];omega),iY (by omega)];exact ih
  ·conv=>lhs;unfold cc.l0
   rw[ao (km h),JT (by omega)]
theorem Gy (r:Ru)(S:SmR r)(t16:Ru)(E:List Ex)(hd:Ex)(K:Ru->Option Ru):∀(k i:Nat),i<=r.2.2.length->r.2.2.length - i<k->
  cc.l1 n r.2.2 (r.2.2.length:Int) t16 K k (i:Int) (E,(hd,r.2.2.take i))=K (E,(hd,r.2.2))
 |0,i,_,hk=>bH hk (JL _)
 |k+1,i,hi,hk=>by
  have hB:=S.body
  by_cases h:i<r.2.2.length
  ·have ih:=Gy r S t16 E hd K k (i+1) (by omega) (by omega)
   rw[JG h]at ih
   conv=>lhs;unfold cc.l1
   rw[ab (jq h),ab (inl' h),aE _ h,mu n _ (S.args _ (JR _ (JK h))),Jp,ab (by simp[aT];omega),iY (by omega)];exact ih
  ·conv=>lhs;unfold cc.l1
   rw[ao (km h),JT (by omega)]
theorem qh (hn:1100000<=n)(r:Ru)(S:SmR r):gj.F n r=some r:=by
 have hB:=S.body;have hE:=S.exps;unfold gj.F cc.F;rw[mu n _ (S.args _ JN),Jp];have e0:=λK=>Gx n r S r ([],(kY,[])) (r.2.1,[]) K n 0 (JQ _) (by omega)
 simp only[KF,show((0:Nat):Int)=0 from rfl]at e0;rw[e0];have e1:=λK=>Gy n r S ([],(kY,[])) r.1 r.2.1 K n 0 (JQ _) (by omega)
 simp only[KF,show((0:Nat):Int)=0 from rfl]at e1;rw[e1]
 rfl
theorem Gz (cs:List CN)(h1:cs.length<=1048576)(h2:∀c∈cs,c.2.length<=1048576)(t8:List TD)(t9 t10:Int)(t14 t15 t16:PP)(t17:TD)(K:List CN->Option PP):∀(k i:Nat),i<=cs.length->cs.length - i<k->
  ch.l1 n t8 t9 t10 cs (cs.length:Int) t14 t15 t16 t17 K k (i:Int) (cs.take i)=K cs
 |0,i,_,hk=>bH hk (JL _)
 |k+1,i,hi,hk=>by
  by_cases h:i<cs.length
  ·have hc:=h2 _ (JK h)
   have ih:=Gz cs h1 h2 t8 t9 t10 t14 t15 t16 t17 K k (i+1) (by omega) (by omega);rw[JG h]at ih
   conv=>lhs;unfold ch.l1
   simp only[aE _ h,Kx];rw[ab (jq h),ab (inl' h),ab (by simp[aT];omega),ab (by simp[aT];omega),iY (by omega)];exact ih
  ·conv=>lhs;unfold ch.l1
   rw[ao (km h),JT (by omega)]
theorem GA (hn:1100000<=n)(p:PP)(S:zv p)(t5 t6:PP)(x:List RD×List Ru)(K:PP->Option PP):∀(k i:Nat),i<=p.1.length->p.1.length - i<k->
  ch.l0 n p.1 (p.1.length:Int) t5 t6 K k (i:Int) (p.1.take i,x)=K (p.1,x)
 |0,i,_,hk=>bH hk (JL _)
 |k+1,i,hi,hk=>by
  have h1:=S.tys
  by_cases h:i<p.1.length
  ·have ih:=GA hn p S t5 t6 x K k (i+1) (by omega) (by omega)
   rw[JG h]at ih;have hc:=S.cons _ (JK h)
   conv=>lhs;unfold ch.l0
   simp only[aE _ h];rw[ab (jq h),ab (inl' h)];have e:=λK=>Gz n (p.1[i]).2 hc (S.cty _ (JK h)) p.1 (p.1.length:Int) (i:Int) t5 t6 (p.1.take i,x) p.1[i] K n 0 (JQ _) (by omega)
   simp only[KF,show((0:Nat):Int)=0 from rfl]at e;rw[e,ab (by simp[aT];omega),iY (by omega)];exact ih
  ·conv=>lhs;unfold ch.l0
   rw[ao (km h),JT (by omega)]
theorem GB (p:PP)(S:zv p)(t5 t6:PP)(T:List TD)(U:List Ru)(K:PP->Option PP):∀(k i:Nat),i<=p.2.1.length->p.2.1.length - i<k->
  ch.l2 n p.2.1 (p.2.1.length:Int) t5 t6 K k (i:Int) (T,(p.2.1.take i,U))=K (T,(p.2.1,U))
 |0,i,_,hk=>bH hk (JL _)
 |k+1,i,hi,hk=>by
  have h1:=S.rels
  by_cases h:i<p.2.1.length
  ·have ih:=GB p S t5 t6 T U K k (i+1) (by omega) (by omega)
   rw[JG h]at ih;have hc:=S.rty _ (JK h)
   conv=>lhs;unfold ch.l2
   simp only[aE _ h,Kx];rw[ab (jq h),ab (inl' h),ab (by simp[aT];omega),ab (by simp[aT];omega),iY (by omega)];exact ih
  ·conv=>lhs;unfold ch.l2
   rw[ao (km h),JT (by omega)]
theorem GC (hn:1100000<=n)(p:PP)(S:zv p)(t5:PP)(T:List TD)(D:List RD)(K:PP->Option PP):∀(k i:Nat),i<=p.2.2.length->p.2.2.length - i<k->
  ch.l3 n p.2.2 (p.2.2.length:Int) t5 K k (i:Int) (T,(D,p.2.2.take i))=K (T,(D,p.2.2))
 |0,i,_,hk=>bH hk (JL _)
 |k+1,i,hi,hk=>by
  have h1:=S.rules
  by_cases h:i<p.2.2.length
  ·have ih:=GC hn p S t5 T D K k (i+1) (by omega) (by omega)
   rw[JG h]at ih
   conv=>lhs;unfold ch.l3
   rw[ab (jq h),ab (inl' h),aE _ h,qh n hn _ (kV (S.rul _ (JK h))).toSmR,Jp,ab (by simp[aT];omega),iY (by omega)];exact ih
  ·conv=>lhs;unfold ch.l3
   rw[ao (km h),JT (by omega)]
theorem xo (hn:1100000<=n)(p:PP)(S:zv p):ch.F n p=some p:=by
 unfold ch.F;have e0:=λK=>GA n hn p S p P0 ([],[]) K n 0 (JQ _) (by have:=S.tys;omega)
 have e2:=λT U K=>GB n p S p P0 T U K n 0 (JQ _) (by have:=S.rels;omega)
 have e3:=λT D K=>GC n hn p S P0 T D K n 0 (JQ _) (by have:=S.rules;omega)
 simp only[KF,show((0:Nat):Int)=0 from rfl]at e0 e2 e3;refine(e0 _).trans ?_;refine(e2 _ _ _).trans ?_;exact e3 _ _ _
theorem GD (p:PP)(S:zv p){a:Nat}(ha:a<p.1.length)(t9 t10:PP)(nm:ByteArray)(K:TD->Option PP):∀(k i:Nat),i<=(p.1[a]).2.length->(p.1[a]).2.length - i<k->
  cU.l1 n (a:Int) p t9 t10 K k (i:Int) (nm,(p.1[a]).2.take i)=K (nm,(p.1[a]).2)
 |0,i,_,hk=>bH hk (JL _)
 |k+1,i,hi,hk=>by
  have h1:=S.cons _ (JK ha)
  by_cases h:i<(p.1[a]).2.length
  ·have hc:=S.cty _ (JK ha) _ (JK h)
   have ih:=GD p S ha t9 t10 nm K k (i+1) (by omega) (by omega);rw[JG h]at ih
   conv=>lhs;unfold cU.l1
   simp only[aE _ ha];simp only[aE _ h,Kx];rw[ab (inl' ha),ab (jq h)];simp only[ab (inl' ha),ab (inl' h)];rw[ab (by simp[aT];omega),ab (by simp[aT];omega),iY (by omega)];exact ih
  ·conv=>lhs;unfold cU.l1
   simp only[aE _ ha];rw[ab (inl' ha),ao (km h),JT (by omega)]
theorem GF (hn:1100000<=n)(p:PP)(S:zv p)(t4:PP)(x:List RD×List Ru)(K:PP->Option PP):∀(k i:Nat),i<=p.1.length->p.1.length - i<k->
  cU.l0 n p t4 K k (i:Int) (p.1.take i,x)=K (p.1,x)
 |0,i,_,hk=>bH hk (JL _)
 |k+1,i,hi,hk=>by
  have h1:=S.tys
  by_cases h:i<p.1.length
  ·have ih:=GF hn p S t4 x K k (i+1) (by omega) (by omega)
   rw[JG h]at ih;have hc:=S.cons _ (JK h)
   conv=>lhs;unfold cU.l0
   simp only[aE _ h];rw[ab (jq h),ab (inl' h)];have e:=λnm K=>GD n p S h t4 (p.1.take i,x) nm K n 0 (JQ _) (by omega)
   simp only[KF,show((0:Nat):Int)=0 from rfl]at e;rw[e,ab (by simp[aT];omega),iY (by omega)];exact ih
  ·conv=>lhs;unfold cU.l0
   rw[ao (km h),JT (by omega)]
theorem GG (p:PP)(S:zv p)(t4:PP)(T:List TD)(U:List Ru)(K:PP->Option PP):∀(k i:Nat),i<=p.2.1.length->p.2.1.length - i<k->
  cU.l2 n p t4 K k (i:Int) (T,(p.2.1.take i,U))=K (T,(p.2.1,U))
 |0,i,_,hk=>bH hk (JL _)
 |k+1,i,hi,hk=>by
  have h1:=S.rels
  by_cases h:i<p.2.1.length
  ·have ih:=GG p S t4 T U K k (i+1) (by omega) (by omega)
   rw[JG h]at ih;have hc:=S.rty _ (JK h)
   conv=>lhs;unfold cU.l2
   simp only[aE _ h,Kx];rw[ab (jq h)];simp only[ab (inl' h)];rw[ab (by simp[aT];omega),ab (by simp[aT];omega),iY (by omega)];exact ih
  ·conv=>lhs;unfold cU.l2
   rw[ao (km h),JT (by omega)]
theorem DB (hn:1100000<=n)(p:PP)(S:zv p):cU.F n p=some (p.1,(p.2.1,[])):=by
 unfold cU.F;have e0:=λK=>GF n hn p S P0 ([],[]) K n 0 (JQ _) (by have:=S.tys;omega)
 have e2:=λT U K=>GG n p S P0 T U K n 0 (JQ _) (by have:=S.rels;omega)
 simp only[KF,show((0:Nat):Int)=0 from rfl]at e0 e2;refine(e0 _).trans ?_;exact e2 _ _ _
end
def kh (c:Ru)(o:Ru):Bool:=decide (gA o=c)
def kG (acc:List Ru)(r:Ru):List Ru:=if acc.any (kh (gA r))=true then acc else acc++[r]
def iW (l:List Ru):List Ru:=l.foldl kG []
theorem xp (c:Ru):∀(l acc:List Ru),(l.foldl kG acc).any (kh c)=(acc.any (kh c)||l.any (kh c))
 |[],acc=>by simp
 |x::l,acc=>by
  rw[NE,xp c l,MP,← Bool.or_assoc]
  congr 1
  unfold kG
  by_cases h:acc.any (kh (gA x))=true
  ·rw[ab h]
   by_cases hx:kh c x=true
   ·have:gA x=c:=of_decide_eq_true hx
    rw[this]at h;rw[h,hx];rfl
   ·rw[JV.2 hx,Bool.or_false]
  ·rw[ao h,List.any_append]
   simp
theorem xq (c:Ru)(l:List Ru):(iW l).any (kh c)=l.any (kh c):=by
 unfold iW;rw[xp]
 rfl
theorem ug (l:List Ru)(r:Ru):iW (l++[r])=if l.any (kh (gA r))=true then iW l else iW l++[r]:=by
 have:iW (l++[r])=kG (iW l) r:=by unfold iW;rw[List.foldl_append];rfl
 rw[this];unfold kG;rw[xq]
theorem ss:∀(l acc:List Ru),(l.foldl kG acc).length<=acc.length+l.length
 |[],acc=>by simp
 |x::l,acc=>by
  have:=ss l (kG acc x);have h2:(kG acc x).length<=acc.length+1:=by unfold kG;split<;>simp
  simp only[NE,Jw];omega
theorem xr:∀(l acc:List Ru),((l.foldl kG acc).map (JE oa)).sum<=(acc.map (JE oa)).sum+(l.map (JE oa)).sum
 |[],acc=>by simp
 |x::l,acc=>by
  have:=xr l (kG acc x);have h2:((kG acc x).map (JE oa)).sum<=(acc.map (JE oa)).sum+JE oa x:=by
   unfold kG
   split
   ·omega
   ·rw[Kz,List.sum_append];simp
  simp only[NE,JM,Ko];omega
section
variable {n:Nat}
structure Ig (p:PP):Prop where
 few:p.2.2.length<=40
 txt:∀r∈p.2.2,¬Km (fP r) Jq=true
 exs:∀r∈p.2.2,r.1.length<=60
 blk:∀r∈p.2.2,JE oa r<=1048576
theorem DC (hn:cZ<=n){p:PP}(F:Ig p){a b:Ru}(ha:a∈p.2.2)(hb:b∈p.2.2):li.F n a b=some (kh (gA b) a):=by
 have hn':1100000<=n:=by unfold cZ at hn;omega
 have ba:=F.blk a ha;have bb:=F.blk b hb;have Sa:=(kV ba).toSmR;have Sb:=(kV bb).toSmR;have e1:=F.exs a ha;have e2:=F.exs b hb;have Sc:=uf Sa (by omega) (AA ba);have t1:=F.txt a ha;have t2:=F.txt b hb;unfold li.F;rw[sf hn ba,Jp,ab (by simp[t1]),sf hn bb,Jp,ab (by simp[t2]),pa n hn' a Sa (by omega),Jp,pa n hn' b Sb (by omega),Jp,qB n hn' _ _ Sc,Jp]
 rfl
theorem DD (hn:cZ<=n){p:PP}(F:Ig p){a b:Ru}(ha:a∈p.2.2)(hb:b∈p.2.2):jo.F n a b=some (kh (gA b) a):=by
 have hn':1100000<=n:=by unfold cZ at hn;omega
 have ba:=F.blk a ha;have bb:=F.blk b hb;have Sa:=(kV ba).toSmR;have Sb:=(kV bb).toSmR;have e1:=F.exs a ha;have e2:=F.exs b hb;have Sc:=uf Sa (by omega) (AA ba);unfold jo.F;rw[oZ n hn' a Sa (by omega),Jp,oZ n hn' b Sb (by omega),Jp,qy n hn' _ _ Sc,Jp]
 rfl
theorem tv (q:Ru->Bool)(l:List Ru){j:Nat}(h:j<l.length):(l.take (j+1)).any q=((l.take j).any q||q l[j]):=by
 rw[JG h,List.any_append]
 simp
theorem AD (hn:cZ<=n){p:PP}(F:Ig p){i:Nat}(hi:i<p.2.2.length)(t12 out:PP)(K:Bool->Option PP):∀(k j:Nat),j<=i->i - j<k->
  iT.l1 n (i:Int) p t12 out K k ((p.2.2.take j).any (kh (gA p.2.2[i]))) (j:Int)=K ((p.2.2.take i).any (kh (gA p.2.2[i])))
 |0,j,_,hk=>bH hk (JL _)
 |k+1,j,hj,hk=>by
  have hf:=F.few
  conv=>lhs;unfold iT.l1
  by_cases h:j<i
  ·have hj2:j<p.2.2.length:=by omega
   have ih:=AD hn F hi t12 out K k (j+1) (by omega) (by omega);rw[tv _ _ hj2]at ih;rw[ab (by simpa using h),iY (by omega)];cases hc:(p.2.2.take j).any (kh (gA p.2.2[i]))with
   |false=>
    rw[ab rfl,ab (inl' hj2),ab (inl' hi),aE _ hj2,aE _ hi,DC hn F (JK hj2) (JK hi),Jp];rw[hc,Bool.false_or]at ih;exact ih
   |true=>
    rw[ao (by simp)];rw[hc,Bool.true_or]at ih;exact ih
  ·have:j=i:=by omega
   subst this;rw[ao (by simp)]
theorem AE (hn:cZ<=n){p:PP}(F:Ig p)(t6:PP)(T:List TD)(D:List RD)(K:PP->Option PP):∀(k i:Nat),i<=p.2.2.length->p.2.2.length - i<k->
  iT.l0 n p t6 K k (i:Int) (T,(D,iW (p.2.2.take i)))=K (T,(D,iW p.2.2))
 |0,i,_,hk=>bH hk (JL _)
 |k+1,i,hi,hk=>by
  have hn':1100000<=n:=by unfold cZ at hn;omega
  have hf:=F.few
  conv=>lhs;unfold iT.l0
  by_cases h:i<p.2.2.length
  ·have ih:=AE hn F t6 T D K k (i+1) (by omega) (by omega)
   rw[JG h,ug]at ih;rw[ab (jq h)];have e1:=λK=>AD hn F h t6 (T,(D,iW (p.2.2.take i))) K n 0 (JQ _) (by omega)
   simp only[KF,List.any_nil,show((0:Nat):Int)=0 from rfl]at e1;rw[e1,iY (by omega)]
   by_cases hc:(p.2.2.take i).any (kh (gA p.2.2[i]))=true
   ·rw[ab hc]at ih
    rw[hc,ao (by simp)];exact ih
   ·rw[ao hc]at ih
    have hlen:=ss (p.2.2.take i) [];simp only[JB,Li]at hlen;have hl2:(iW (p.2.2.take i)).length<=100:=by unfold iW;omega
    rw[JV.2 hc,ab (by simp),ab (inl' h),aE _ h,Bi n hn' _ (kV (F.blk _ (JK h))).toSmR,Jp,ab (cC (by show(iW _).length<=_;omega))];exact ih
  ·rw[ao (km h),JT (by omega)]
theorem xt (l:List Ru)(f:Ru×Unit->Option Bool)(q:Ru->Bool)(hf:∀x∈l,f (x,())=some (q x))(hl:l.length<=1048576):∀(k i:Nat),i<=l.length->l.length - i<k->
  ∃v,cS.l0 n l f (l.length:Int) (λ_=>some (-1)) k (i:Int)=some v/\decide (v>=0)=(l.drop i).any q
 |0,i,_,hk=>bH hk (JL _)
 |k+1,i,hi,hk=>by
  unfold cS.l0
  by_cases h:i<l.length
  ·rw[ab (jq h),ab (inl' h),aE _ h,hf _ (JK h),Jp,JH h,MP]
   by_cases hq:q l[i]=true
   ·rw[ab hq]
    exact⟨_,rfl,by rw[hq,Bool.true_or];simp⟩
   ·rw[ao hq,iY (by omega),JV.2 hq,Bool.false_or]
    exact xt l f q hf hl k (i+1) (by omega) (by omega)
  ·rw[ao (km h),JJ (by omega)]
   exact⟨-1,rfl,rfl⟩
theorem tw (hn:cZ<=n)(l:List Ru)(f:Ru×Unit->Option Bool)(q:Ru->Bool)(hf:∀x∈l,f (x,())=some (q x))(hl:l.length<=1048576):cV.F n l f=some (l.any q):=by
 unfold cV.F cS.F;obtain⟨v,h1,h2⟩:=xt (n:=n) l f q hf hl n 0 (JQ _) (by unfold cZ at hn;omega);rw[show((0:Nat):Int)=0 from rfl]at h1;rw[h1,Jp,h2,JY]
theorem xu:∀(l acc:List Ru) (x:Ru),x∈l.foldl kG acc->x∈acc\/x∈l
 |[],acc,x,h=>.inl h
 |y::l,acc,x,h=>by
  rcases xu l (kG acc y) x h with h|h
  ·unfold kG at h
   split at h
   ·exact .inl h
   ·rcases KP.1 h with h|h
    ·exact .inl h
    ·exact .inr (by rw[Kb.1 h];exact JN)
  ·exact .inr (JR _ h)
theorem xw (hn:cZ<=n){p:PP}(F:Ig p)(t7:PP)(T:List TD)(D:List RD)(K:PP->Option PP):∀(k i:Nat),i<=p.2.2.length->p.2.2.length - i<k->
  jn.l0 n p.2.2 (p.2.2.length:Int) t7 K k (i:Int) (T,(D,iW (p.2.2.take i)))=K (T,(D,iW p.2.2))
 |0,i,_,hk=>bH hk (JL _)
 |k+1,i,hi,hk=>by
  have hn':1100000<=n:=by unfold cZ at hn;omega
  have hf:=F.few
  conv=>lhs;unfold jn.l0
  by_cases h:i<p.2.2.length
  ·have ih:=xw hn F t7 T D K k (i+1) (by omega) (by omega)
   rw[JG h,ug]at ih;have hlen:=ss (p.2.2.take i) [];simp only[JB,Li]at hlen;have hl2:(iW (p.2.2.take i)).length<=100:=by unfold iW;omega
   rw[ab (jq h),ab (inl' h),aE _ h];rw[tw hn (iW (p.2.2.take i)) _ (kh (gA p.2.2[i])) (λx hx=>by
    show(jo.F n x p.2.2[i]).bind some=_;have hx':x∈p.2.2:=by
     rcases xu (p.2.2.take i) [] x hx with h|h
     ·cases h
     ·exact List.mem_of_mem_take h
    rw[DD hn F hx' (JK h)]
    rfl) (by omega),Jp,xq,iY (by omega)]
   by_cases hc:(p.2.2.take i).any (kh (gA p.2.2[i]))=true
   ·rw[ab hc]at ih
    rw[hc,ao (by simp)];exact ih
   ·rw[ao hc]at ih
    rw[JV.2 hc,ab (by simp),qh n hn' _ (kV (F.blk _ (JK h))).toSmR,Jp,ab (cC (by show(iW _).length<=_;omega))];exact ih
  ·rw[ao (km h),JT (by omega)]
theorem C7 (hn:cZ<=n)(p:PP)(hb:JE HA p<=1048576):∃w,iT.F n p=some w/\jn.F n p=some w/\JE HA w<=1048576:=by
 have hn':1100000<=n:=by unfold cZ at hn;omega
 have S:=Dz hb;obtain⟨b,b1,b2,b3⟩:=DA n hn p hb;unfold iT.F jn.F;rw[b1,b2,Jp,Jp];cases b with
 |false=>exact⟨P0,rfl,rfl,by rw[oN];simp⟩
 |true=>
  obtain⟨c1,c2,c3,c4,c5⟩:=b3 rfl;have F:Ig p:=⟨c5,c2,λr hr=>(c1.2.2 r hr).1,S.rul⟩;rw[ao (by simp),ao (by simp),DB n hn' p S,xo n hn' p S,Jp,Jp];have e1:=λK=>AE hn F P0 p.1 p.2.1 K n 0 (JQ _) (by omega)
  have e2:=λK=>xw hn F P0 p.1 p.2.1 K n 0 (JQ _) (by omega)
  simp only[KF,show((0:Nat):Int)=0 from rfl,show iW []=[]from rfl]at e1 e2;refine⟨_,e1 _,e2 _,?_⟩;have:=xr p.2.2 [];rw[oN]at hb⊢;simp only[KI,List.sum_nil,Nat.zero_add]at this
  simp only
  unfold iW;omega
end
end Go.Abs
