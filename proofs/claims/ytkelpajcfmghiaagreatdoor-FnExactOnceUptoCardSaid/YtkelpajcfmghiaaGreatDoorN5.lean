/- Once: both sides. Conditions: none. -/
import Derived.Test.YtkelpajcfmghiaaGreatDoorK4
import Derived.Test.YtkelpajcfmghiaaGreatDoorY8
import Derived.Test.YtkelpajcfmghiaaGreatDoorMB
open Bool renaming eq_false_iff → JT,false_and → LD,not_eq_true' → LY,true_and → KB
open ByteArray renaming empty → Jo,size → Jq
open Function renaming comp → O7
open Go.Abs renaming seq → Kk
open Go.Abs.Kd renaming bulk → JC
open Go.IntKind renaming i64 → Js
open Go.Lib renaming join → KE,join_nil → Od
open Int renaming toNat → Jr
open List renaming any_cons → MN,append_assoc → JY,append_nil → Ky,drop_eq_getElem_cons → JF,drop_of_length_le → JH,drop_zero → JW,flatten_cons → O8,foldl_cons → NC,getD → Jt,getElem_mem → JI,length → Jp,length_append → Jv,length_cons → Ju,length_map → Km,length_nil → Jz,length_pos_iff → Lw,length_take → Lg,map_append → Kx,map_cons → JK,map_map → Lo,map_nil → KG,mem_append → KM,mem_cons_of_mem → JP,mem_cons_self → JL,mem_singleton → JZ,nil_append → Kv,sum_cons → Kl,take_append_drop → KP,take_of_length_le → JR,take_succ_eq_append_getElem → JE,take_zero → KD
open Nat renaming not_lt_zero → JJ,zero_le → JO
open Option renaming bind_some → Jn
open Prod renaming ext_iff → Mr
namespace Go.Abs
theorem C0 (sep:By)(l:List By)(x:By):KE (l++[x]) sep=if l=[]then x else KE l sep++sep++x:=by
 cases l with
 |nil=>simp[Lib.join_one]
 |cons y l=>simp[kN,jE]
theorem Do (sep:By)(l m:List By):∃t,KE (l++m) sep=KE l sep++t:=by
 cases l with
 |nil=>exact⟨KE m sep,by simp[Od]⟩
 |cons x l=>exact⟨jE sep m,by simp[kN,jE]⟩
def St (s A:By):Prop:=s=A\/(3000<s.length/\3000<A.length)
theorem St.more {s A:By}(h:St s A)(hl:3000<s.length)(B:By):St s (A++B):=by
 right
 refine⟨hl,?_⟩;rcases h with rfl|h
 ·simp;omega
 ·simp;omega
theorem St.app {s A:By}(h:St s A)(t:By):St (s++t) (A++t):=by
 rcases h with rfl|h
 ·exact .inl rfl
 ·right;simp;omega
theorem St.pre {s A:By}(h:St s A)(t:By):St (t++s) (t++A):=by
 rcases h with rfl|h
 ·exact .inl rfl
 ·right;simp;omega
def Dp (l:List ByteArray):By:=KE (l.map (·.data.toList)) [44,32]
def kV (c:ByteArray×List ByteArray):By:=c.1.data.toList++(if c.2=[]then []else [40]++Dp c.2++[41])
def zt (l:List (ByteArray×List ByteArray)):By:=KE (l.map kV) [32,124,32]
def pD (t:TD):By:=[116,121,112,101,32]++t.1.data.toList++[32,61,32]
def Iv (t:TD):By:=pD t++zt t.2++[46,10]
def Hw (m:Int):By:=if m=1 then [32,105,110,112,117,116]else if m=2 then [32,111,117,116,112,117,116]else if m=3 then [32,105,110,108,105,110,101]else []
def Hx (r:RD):By:=[114,101,108,32]++r.1.data.toList++[40]++Dp r.2.1++[41]++Hw r.2.2++[46,10]
noncomputable def Ic (r:Ru):By:=(fP r).data.toList++[10]
def jI (l:List TD):By:=(l.map Iv).flatten
def gZ (l:List RD):By:=(l.map Hx).flatten
noncomputable def jS (l:List Ru):By:=(l.map Ic).flatten
noncomputable def lM (p:PP):By:=jI p.1++gZ p.2.1++jS p.2.2
def Dq (p:PP):Prop:=∀r∈p.2.1,0<=r.2.2/\r.2.2<=3
def C1 (p:PP):Prop:=∀r∈p.2.2,¬Kk (fP r) Jo=true
open Classical in
noncomputable def jA (p:PP):ByteArray:=if Dq p/\C1 p/\(lM p).length<=3000 then bt (lM p)else Jo
theorem ua {p:PP}(h1:Dq p)(h2:C1 p)(h3:(lM p).length<=3000):jA p=bt (lM p):=by unfold jA;rw[ab ⟨h1,h2,h3⟩]
theorem jT {p:PP}(h:¬(lM p).length<=3000):jA p=Jo:=by unfold jA;rw[ao (λx=>h x.2.2)]
theorem xh {p:PP}(h:¬Dq p):jA p=Jo:=by unfold jA;rw[ao (λx=>h x.1)]
theorem sh {p:PP}(h:¬C1 p):jA p=Jo:=by unfold jA;rw[ao (λx=>h x.2.1)]
theorem sk (r:Ru):(fP r).size<=3000:=by
 unfold fP
 split
 ·rw[ah];exact(‹_/\_›).2
 ·simp
def wS (l:List ByteArray):Nat:=(l.map λs=>s.size+1).sum+1
def wC (c:ByteArray×List ByteArray):Nat:=c.1.size+1+wS c.2
def wT (t:TD):Nat:=t.1.size+1+((t.2.map wC).sum+1)
def wR (r:RD):Nat:=r.1.size+1+(wS r.2.1+1)
abbrev Jh:Kd:=.sl .str
abbrev J4:Kd:=.st (.pair .str Jh)
abbrev KTD:Kd:=.st (.pair .str (.sl J4))
abbrev KRD:Kd:=.st (.pair .str (.pair Jh (.int .i64)))
abbrev Hy:Kd:=.st (.pair (.sl KTD) (.pair (.sl KRD) (.sl o9)))
theorem oM (p:PP):JC Hy p=((p.1.map wT).sum+1)+(((p.2.1.map wR).sum+1)+((p.2.2.map (JC o9)).sum+1)):=rfl
theorem sn {α:Type}(f:α->Nat):∀(l:List α) (i:Nat),((l.take i).map f).sum<=(l.map f).sum
 |[],i=>by simp
 |x::l,0=>by simp
 |x::l,i+1=>by have:=sn f l i;simp only[List.take_succ_cons,JK,Kl];omega
theorem dr {α:Type}(f:α->Nat)(h:∀x,1<=f x):∀l:List α,l.length<=(l.map f).sum
 |[]=>by simp
 |x::l=>by have:=dr f h l;have:=h x;simp only[JK,Kl,Ju];omega
theorem jd {α:Type}(f:α->Nat):∀(l:List α) (x:α),x∈l->f x<=(l.map f).sum
 |y::l,x,h=>by
  simp only[JK,Kl];rcases List.mem_cons.1 h with rfl|h
  ·omega
  ·have:=jd f l x h;omega
theorem oN (l:List ByteArray):(Dp l).length<=3*wS l:=by
 unfold Dp wS;rw[kj];have h1:((l.map (·.data.toList)).map Jp).sum<=(l.map λs=>s.size+1).sum:=by
  rw[Lo]
  induction l with
  |nil=>simp
  |cons x l ih=>simp only[JK,Kl,O7];have:x.data.toList.length=x.size:=rfl;omega
 have h2:=dr (λs:ByteArray=>s.size+1) (λ_=>by omega) l;simp only[Km,Ju,Jz];omega
theorem Dr (c:ByteArray×List ByteArray):(kV c).length<=3*wC c:=by
 unfold kV wC;have:=oN c.2;have h:c.1.data.toList.length=c.1.size:=rfl
 split<;>simp only[Jv,Ju,Jz]<;>omega
theorem pE (c:ByteArray×List ByteArray):1<=wC c:=by unfold wC;omega
theorem AA (l:List (ByteArray×List ByteArray)):(zt l).length<=6*(l.map wC).sum:=by
 unfold zt;rw[kj];have h1:((l.map kV).map Jp).sum<=3*(l.map wC).sum:=by
  rw[Lo]
  induction l with
  |nil=>simp
  |cons x l ih=>simp only[JK,Kl,O7];have:=Dr x;omega
 have h2:=dr wC pE l;simp only[Km,Ju,Jz];omega
theorem FB (t:TD):(Iv t).length<=12*wT t:=by
 unfold Iv pD wT;have:=AA t.2;have h:t.1.data.toList.length=t.1.size:=rfl;simp only[Jv,Ju,Jz];omega
theorem vr (m:Int):(Hw m).length<=7:=by
 unfold Hw
 split
 ·simp
 ·split
  ·simp
  ·split<;>simp
theorem FC (r:RD):(Hx r).length<=12*wR r:=by
 unfold Hx wR;have:=oN r.2.1;have:=vr r.2.2;have h:r.1.data.toList.length=r.1.size:=rfl;simp only[Jv,Ju,Jz];omega
theorem so:∀l:List TD,(jI l).length<=12*(l.map wT).sum
 |[]=>by simp[jI]
 |t::l=>by have:=so l;have:=FB t;unfold jI at*;simp only[JK,O8,Jv,Kl];omega
theorem pF:∀l:List RD,(gZ l).length<=12*(l.map wR).sum
 |[]=>by simp[gZ]
 |t::l=>by have:=pF l;have:=FC t;unfold gZ at*;simp only[JK,O8,Jv,Kl];omega
theorem ub (l:List TD)(t:TD):jI (l++[t])=jI l++Iv t:=by simp[jI]
theorem sq (l:List RD)(t:RD):gZ (l++[t])=gZ l++Hx t:=by simp[gZ]
theorem uc (l:List Ru)(t:Ru):jS (l++[t])=jS l++Ic t:=by simp[jS]
theorem Ds (l m:List TD):jI (l++m)=jI l++jI m:=by simp[jI]
theorem C2 (l m:List RD):gZ (l++m)=gZ l++gZ m:=by simp[gZ]
theorem xi (l m:List Ru):jS (l++m)=jS l++jS m:=by simp[jS]
section
variable {n:Nat}
theorem bz (s:ByteArray):s=bt s.data.toList:=jl s
theorem FD (s:ByteArray):s.size=s.data.toList.length:=rfl
theorem ud {α:Type}(sep:By)(f:α->By)(l:List α){i:Nat}(h:i<l.length):KE ((l.take (i+1)).map f) sep=if i=0 then f l[i]else KE ((l.take i).map f) sep++sep++f l[i]:=by
 rw[JE h,Kx,JK,KG,C0]
 by_cases h0:i=0
 ·subst h0;simp
 ·rw[ao (λe=>by have:=congrArg Jp e;simp only[Km,Lg,Jz]at this;omega),ao h0]
theorem nI {α:Type}(sep:By)(f:α->By)(l:List α)(i:Nat):∃t,KE (l.map f) sep=KE ((l.take i).map f) sep++t:=by
 obtain⟨t,ht⟩:=Do sep ((l.take i).map f) ((l.drop i).map f);exact⟨t,by rw[← ht,← Kx,KP]⟩
theorem Dt {l:List ByteArray}{s:ByteArray}(h:s∈l):s.size+1<=wS l:=by
 have:=jd (λs:ByteArray=>s.size+1) l s h;unfold wS;omega
theorem sr (l:List ByteArray)(hl:wS l<=1100000)(K:ByteArray->Option ByteArray):∀k i,i<=l.length->l.length - i<k->(KE ((l.take i).map (·.data.toList)) [44,32]).length<=1200000->
  ∃s,fV.l0 n l K k (bt (KE ((l.take i).map (·.data.toList)) [44,32])) (i:Int)=K (bt s)/\St s (Dp l)/\s.length<=1200000
 |0,i,_,hk,_=>by omega
 |k+1,i,hi,hk,hs=>by
  have hlen:l.length<=wS l:=by have:=dr (λs:ByteArray=>s.size+1) (λ_=>by omega) l;unfold wS;omega
  generalize hA:KE ((l.take i).map (·.data.toList)) [44,32]=A at hs;rw[fV.l0]
  by_cases h:i<l.length
  ·rw[ab (jq h)]
   by_cases h3:A.length<=3000
   ·rw[ab (by rw[ah,dg];omega)]
    have hm:=Dt (JI h);have hT:=ud [44,32] (·.data.toList) l h;have hz:=FD l[i];unfold fV.j1;simp only[aE _ h]
    by_cases h0:i=0
    ·rw[ao (by simp[h0]),ab (inl' h),ab (by rw[ah];simp only[aT];omega),iX (by omega)]
     have hA0:A=[]:=by rw[← hA,h0];rfl
     have e:bt A++l[i]=bt (KE ((l.take (i+1)).map (·.data.toList)) [44,32]):=by
      conv=>lhs;rw[bz l[i]]
      rw[ap,hT,ab h0,hA0,Kv]
     rw[e];exact sr l hl K k (i+1) h (by omega) (by rw[hT,ab h0];omega)
    ·rw[ab (by simp;omega),ab (by rw[ah];simp only[aT];show A.length+2<=_;omega),ab (inl' h),ab (by
      rw[show(⟨#[44,32]⟩:ByteArray)=bt [44,32]from rfl,ap,ah,Jv];simp only[aT,Ju,Jz];omega),iX (by omega)]
     have e:bt A++⟨#[44,32]⟩++l[i]=bt (KE ((l.take (i+1)).map (·.data.toList)) [44,32]):=by
      conv=>lhs;rw[bz l[i]]
      rw[show(⟨#[44,32]⟩:ByteArray)=bt [44,32]from rfl,ap,ap,hT,ao h0,hA]
     rw[e];refine sr l hl K k (i+1) h (by omega) ?_;rw[hT,ao h0,hA];simp only[Jv,Ju,Jz];omega
   ·rw[ao (by rw[ah,dg];omega)]
    obtain⟨t,ht⟩:=nI [44,32] (·.data.toList) l i;refine⟨A,rfl,?_,hs⟩;have e:Dp l=A++t:=by unfold Dp;rw[ht,hA]
    rw[e];exact(St.more (.inl rfl) (by omega) t)
  ·rw[ao (kl h)]
   refine⟨A,rfl,.inl ?_,hs⟩;rw[← hA,JR (by omega)]
   rfl
theorem Du (hn:1200000<=n)(l:List ByteArray)(hl:wS l<=1100000):∃s,fV.F n l=some (bt s)/\St s (Dp l)/\s.length<=1200000:=by
 have hlen:l.length<=wS l:=by have:=dr (λs:ByteArray=>s.size+1) (λ_=>by omega) l;unfold wS;omega
 obtain⟨s,h1,h2⟩:=sr (n:=n) l hl (λs10=>some s10) n 0 (JO _) (by omega) (by simp[Od]);exact⟨s,h1,h2⟩
theorem AB (hn:1200000<=n)(c:ByteArray×List ByteArray)(hc:wC c<=1100000)(A:By)(hA:A.length<=4000)(a b:Int)(p:PP)(Kn:ByteArray->Option ByteArray):
  ∃s,bA.j4 n (bt A) a b p c Kn=Kn (bt (A++s))/\St s (kV c)/\s.length<=2400000:=by
 unfold wC at hc;have hz:=FD c.1;unfold bA.j4;rw[ab (by rw[ah];simp only[aT];omega)];have e:bt A++c.1=bt (A++c.1.data.toList):=by conv=>lhs;rw[bz c.1];rw[ap]
 by_cases h:c.2=[]
 ·rw[ao (by simp[h]),e]
  refine⟨c.1.data.toList,rfl,.inl ?_,by omega⟩;unfold kV;rw[ab h,Ky]
 ·obtain⟨s,h1,h2,h3⟩:=Du hn c.2 (by omega)
  have hp:0<c.2.length:=Lw.2 h;rw[ab (by simp;omega),e,show(⟨#[40]⟩:ByteArray)=bt [40]from rfl,show(⟨#[41]⟩:ByteArray)=bt [41]from rfl,ab (by simp only[ah,Jv,Ju,Jz,aT];omega),h1,Jn,
   ab (by simp only[ap,ah,Jv,Ju,Jz,aT];omega),ab (by simp only[ap,ah,Jv,Ju,Jz,aT];omega)]
  simp only[ap];refine⟨c.1.data.toList++([40]++s++[41]),by simp only[JY],?_,by simp only[Jv,Ju,Jz];omega⟩;unfold kV;rw[ao h];exact((h2.pre [40]).app [41]).pre _
theorem pG (hn:1200000<=n)(p:PP){a:Nat}(ha:a<p.1.length)(hw:wT p.1[a]<=1100000)(A:By)(K:ByteArray->Option ByteArray):∀k j s,j<=(p.1[a]).2.length->(p.1[a]).2.length - j<k->s.length<=3000000->St s (A++zt ((p.1[a]).2.take j))->
  ∃s',bA.l2 n (a:Int) p K k (bt s) (j:Int)=K (bt s')/\St s' (A++zt (p.1[a]).2)/\s'.length<=3000000
 |0,j,s,_,hk,_,_=>by omega
 |k+1,j,s,hj,hk,hs,hst=>by
  unfold wT at hw;have hlen:=dr wC pE (p.1[a]).2;rw[bA.l2,ab (inl' ha)];simp only[aE _ ha];obtain⟨t,ht⟩:=nI [32,124,32] kV (p.1[a]).2 j;have hcs:zt (p.1[a]).2=zt ((p.1[a]).2.take j)++t:=ht
  by_cases h:j<(p.1[a]).2.length
  ·rw[ab (jq h)]
   by_cases h3:s.length<=3000
   ·rw[ab (by rw[ah,dg];omega)]
    have hex:s=A++zt ((p.1[a]).2.take j):=by
     rcases hst with hst|hst
     ·exact hst
     ·omega
    have hc:=jd wC (p.1[a]).2 _ (JI h);have hT:zt ((p.1[a]).2.take (j+1))=if j=0 then kV (p.1[a]).2[j]else zt ((p.1[a]).2.take j)++[32,124,32]++kV (p.1[a]).2[j]:=ud [32,124,32] kV (p.1[a]).2 h
    unfold bA.j3;simp only[aE _ ha];rw[ab (inl' ha),ab (inl' h),aE _ h]
    by_cases h0:j=0
    ·rw[ao (by simp[h0])]
     obtain⟨s1,e1,e2,e3⟩:=AB hn (p.1[a]).2[j] (by omega) s (by omega) (a:Int) (j:Int) p (λt23=>bA.l2 n (a:Int) p K k t23 (Js.wrap ((j:Int)+1)));rw[e1,iX (by omega)];refine pG hn p ha (by unfold wT;omega) A K k (j+1) _ h (by omega) (by simp only[Jv];omega) ?_;rw[hT,ab h0,hex];have:zt ((p.1[a]).2.take j)=[]:=by rw[h0];rfl
     rw[this,Ky];exact e2.pre A
    ·rw[ab (by simp;omega),show(⟨#[32,124,32]⟩:ByteArray)=bt [32,124,32]from rfl,ab (by simp only[ah,Ju,Jz,aT];omega),ap]
     obtain⟨s1,e1,e2,e3⟩:=AB hn (p.1[a]).2[j] (by omega) (s++[32,124,32]) (by simp;omega) (a:Int) (j:Int) p (λt22=>bA.l2 n (a:Int) p K k t22 (Js.wrap ((j:Int)+1)));rw[e1,iX (by omega)];refine pG hn p ha (by unfold wT;omega) A K k (j+1) _ h (by omega) (by simp only[Jv,Ju,Jz];omega) ?_;rw[hT,ao h0,hex];have:=e2.pre (A++zt ((p.1[a]).2.take j)++[32,124,32]);simp only[JY]at this⊢;exact this
   ·rw[ao (by rw[ah,dg];omega)]
    refine⟨s,rfl,?_,hs⟩;rw[hcs,← JY];exact hst.more (by omega) t
  ·rw[ao (kl h)]
   refine⟨s,rfl,?_,hs⟩;rw[JR (by omega)]at hst;exact hst
theorem types_loop' (hn:1200000<=n)(p:PP)(hw:(p.1.map wT).sum<=1100000)(K:ByteArray->Option ByteArray)(R:Option ByteArray)(hK:∀s,s.length<=4000000->St s (jI p.1)->K (bt s)=R):∀k i s,i<=p.1.length->p.1.length - i<k->s.length<=4000000->St s (jI (p.1.take i))->
  bA.l0 n p K k (bt s) (i:Int)=R
 |0,i,s,_,hk,_,_=>by omega
 |k+1,i,s,hi,hk,hs,hst=>by
  have hlen:=dr wT (λt=>by unfold wT;omega) p.1;rw[bA.l0]
  by_cases h:i<p.1.length
  ·rw[ab (jq h)]
   by_cases h3:s.length<=3000
   ·rw[ab (by rw[ah,dg];omega)]
    have hex:s=jI (p.1.take i):=by
     rcases hst with hst|hst
     ·exact hst
     ·omega
    have hc:=jd wT p.1 _ (JI h);have hcl:=dr wC pE (p.1[i]).2;have hc':wT p.1[i]=(p.1[i]).1.size+1+(((p.1[i]).2.map wC).sum+1):=rfl;have hz:=FD (p.1[i]).1;unfold bA.j1;simp only[aE _ h];have e:∀x:By,bt x++(p.1[i]).1=bt (x++(p.1[i]).1.data.toList):=λx=>by conv=>lhs;rw[bz (p.1[i]).1];rw[ap]
    rw[show(⟨#[116,121,112,101,32]⟩:ByteArray)=bt [116,121,112,101,32]from rfl,show(⟨#[32,61,32]⟩:ByteArray)=bt [32,61,32]from rfl,ab (by simp only[ah,Ju,Jz,aT];omega),ab (inl' h),ap,
     ab (by simp only[ah,Jv,Ju,Jz,aT];omega),e,ab (by simp only[ah,Jv,Ju,Jz,aT];omega),ap]
    obtain⟨s',e1,e2,e3⟩:=pG hn p h (by omega) (s++pD p.1[i]) (λt26=>
      if Jq t26+Jq ⟨#[46,10]⟩<=aT then bA.l0 n p K k (t26++⟨#[46,10]⟩) (Js.wrap ((i:Int)+1))else none) n 0 (s++pD p.1[i]) (JO _) (by omega) (by unfold pD;simp only[Jv,Ju,Jz];omega) (.inl (by simp[zt,Od]))
    refine Eq.trans (b:=_) ?_ (e1.trans ?_)
    ·unfold pD;simp only[JY];rfl
    ·rw[show(⟨#[46,10]⟩:ByteArray)=bt [46,10]from rfl,ab (by simp only[ah,Ju,Jz,aT];omega),ap,iX (by omega)]
     refine types_loop' hn p hw K R hK k (i+1) _ h (by omega) (by simp only[Jv,Ju,Jz];omega) ?_;rw[JE h,ub,← hex];have:=e2.app [46,10];unfold Iv;simp only[JY]at this⊢;exact this
   ·rw[ao (by rw[ah,dg];omega)]
    refine hK s hs ?_;have:jI p.1=jI (p.1.take i)++jI (p.1.drop i):=by rw[← Ds,KP]
    rw[this];exact hst.more (by omega) _
  ·rw[ao (kl h)]
   refine hK s hs ?_;rw[JR (by omega)]at hst;exact hst
theorem Hz {m:Int}(h:0<=m/\m<=3):Jt ([Jo,⟨#[32,105,110,112,117,116]⟩,⟨#[32,111,117,116,112,117,116]⟩,⟨#[32,105,110,108,105,110,101]⟩]:List ByteArray) (Jr m) Jo=bt (Hw m):=by
 obtain⟨h0,h1⟩:=h;have:m=0\/m=1\/m=2\/m=3:=by omega
 rcases this with rfl|rfl|rfl|rfl<;>rfl
theorem rels_loop' (hn:1200000<=n)(p:PP)(hw:(p.2.1.map wR).sum<=1100000)(K:ByteArray->Option ByteArray)(A:By)
  (hK:∀s,s.length<=4000000->St s (A++gZ p.2.1)->(Dq p\/3000<s.length)->K (bt s)=some (jA p)):∀k i s,i<=p.2.1.length->p.2.1.length - i<k->s.length<=4000000->St s (A++gZ (p.2.1.take i))->
  ((∀r∈p.2.1.take i,0<=r.2.2/\r.2.2<=3)\/3000<s.length)->bA.l5 n p K k (bt s) (i:Int)=some (jA p)
 |0,i,s,_,hk,_,_,_=>by omega
 |k+1,i,s,hi,hk,hs,hst,hm=>by
  have hlen:=dr wR (λt=>by unfold wR;omega) p.2.1;rw[bA.l5]
  by_cases h:i<p.2.1.length
  ·rw[ab (jq h)]
   by_cases h3:s.length<=3000
   ·rw[ab (by rw[ah,dg];omega)]
    have hex:s=A++gZ (p.2.1.take i):=by
     rcases hst with hst|hst
     ·exact hst
     ·omega
    have hm':∀r∈p.2.1.take i,0<=r.2.2/\r.2.2<=3:=by
     rcases hm with hm|hm
     ·exact hm
     ·omega
    have hc:=jd wR p.2.1 _ (JI h);have hc':wR p.2.1[i]=(p.2.1[i]).1.size+1+(wS (p.2.1[i]).2.1+1):=rfl;have hz:=FD (p.2.1[i]).1;unfold bA.j6;simp only[aE _ h];rw[ab (inl' h),dW,Jn]
    by_cases hmd:0<=(p.2.1[i]).2.2/\(p.2.1[i]).2.2<=3
    ·obtain⟨l,l1,l2,l3⟩:=Du hn (p.2.1[i]).2.1 (by omega)
     have hml:=vr (p.2.1[i]).2.2;have e:∀x:By,bt x++(p.2.1[i]).1=bt (x++(p.2.1[i]).1.data.toList):=λx=>by conv=>lhs;rw[bz (p.2.1[i]).1];rw[ap]
     rw[ao (by simp[hmd]),show(⟨#[114,101,108,32]⟩:ByteArray)=bt [114,101,108,32]from rfl,show(⟨#[40]⟩:ByteArray)=bt [40]from rfl,show(⟨#[41]⟩:ByteArray)=bt [41]from rfl,show(⟨#[46,10]⟩:ByteArray)=bt [46,10]from rfl,
      ab (by simp only[ah,Ju,Jz,aT];omega),ab (inl' h),ap,ab (by simp only[ah,Jv,Ju,Jz,aT];omega),e,
      ab (by simp only[ah,Jv,Ju,Jz,aT];omega),ab (inl' h),l1,Jn,ap,ab (by simp only[ah,Jv,Ju,Jz,aT];omega),ap,
      ab (by simp only[ah,Jv,Ju,Jz,aT];omega),ab (inl' h),ab (by simp;omega),Hz hmd,ap,ab (by simp only[ah,Jv,Ju,Jz,aT];omega),ap,
      ab (by simp only[ah,Jv,Ju,Jz,aT];omega),ap,iX (by omega)]
     refine rels_loop' hn p hw K A hK k (i+1) _ h (by omega) (by simp only[Jv,Ju,Jz];omega) ?_ (.inl ?_)
     ·rw[JE h,sq,← JY,← hex]
      have:=(l2.pre (s++([114,101,108,32]++((p.2.1[i]).1.data.toList++[40])))).app ([41]++(Hw (p.2.1[i]).2.2++[46,10]));unfold Hx;simp only[JY]at this⊢;exact this
     ·intro r hr
      rw[JE h]at hr;rcases KM.1 hr with hr|hr
      ·exact hm' r hr
      ·rw[JZ.1 hr];exact hmd
    ·rw[ab (by simp only[LY,vJ];exact hmd),xh (λx=>hmd (x _ (JI h)))]
   ·rw[ao (by rw[ah,dg];omega)]
    refine hK s hs ?_ (.inr (by omega));have:gZ p.2.1=gZ (p.2.1.take i)++gZ (p.2.1.drop i):=by rw[← C2,KP]
    rw[this,← JY];exact hst.more (by omega) _
  ·rw[ao (kl h)]
   rw[JR (by omega)]at hst hm;exact hK s hs hst hm
theorem rules_loop' (hn:cZ<=n)(p:PP)(hw:(p.2.2.map (JC o9)).sum<=1048576)(K:ByteArray->Option ByteArray)(A:By)
  (hK:∀s,s.length<=4000000->St s (A++jS p.2.2)->(C1 p\/3000<s.length)->K (bt s)=some (jA p)):∀k i s,i<=p.2.2.length->p.2.2.length - i<k->s.length<=4000000->St s (A++jS (p.2.2.take i))->
  ((∀r∈p.2.2.take i,¬Kk (fP r) Jo=true)\/3000<s.length)->bA.l7 n p K k (bt s) (i:Int)=some (jA p)
 |0,i,s,_,hk,_,_,_=>by omega
 |k+1,i,s,hi,hk,hs,hst,hm=>by
  have hlen:=dr (JC o9) (λt=>kh o9 t) p.2.2;rw[bA.l7]
  by_cases h:i<p.2.2.length
  ·rw[ab (jq h)]
   by_cases h3:s.length<=3000
   ·rw[ab (by rw[ah,dg];omega)]
    have hex:s=A++jS (p.2.2.take i):=by
     rcases hst with hst|hst
     ·exact hst
     ·omega
    have hm':∀r∈p.2.2.take i,¬Kk (fP r) Jo=true:=by
     rcases hm with hm|hm
     ·exact hm
     ·omega
    have hc:=jd (JC o9) p.2.2 _ (JI h);unfold bA.j8;rw[ab (inl' h),aE _ h,sf hn (by omega),Jn]
    by_cases he:Kk (fP p.2.2[i]) Jo=true
    ·rw[ab he,sh (λx=>x _ (JI h) he)]
    ·have hz:=sk p.2.2[i]
     have hz':=FD (fP p.2.2[i]);have e:bt s++fP p.2.2[i]=bt (s++(fP p.2.2[i]).data.toList):=by conv=>lhs;rw[bz (fP p.2.2[i])];rw[ap]
     rw[ao he,ab (by rw[ah];simp only[aT];omega),e,show(⟨#[10]⟩:ByteArray)=bt [10]from rfl,ab (by simp only[ah,Jv,Ju,Jz,aT];omega),ap,iX (by omega)];refine rules_loop' hn p hw K A hK k (i+1) _ h (by omega) (by simp only[Jv,Ju,Jz];omega) ?_ (.inl ?_)
     ·rw[JE h,uc,← JY,← hex]
      unfold Ic;rw[JY];exact .inl rfl
     ·intro r hr
      rw[JE h]at hr;rcases KM.1 hr with hr|hr
      ·exact hm' r hr
      ·rw[JZ.1 hr];exact he
   ·rw[ao (by rw[ah,dg];omega)]
    refine hK s hs ?_ (.inr (by omega));have:jS p.2.2=jS (p.2.2.take i)++jS (p.2.2.drop i):=by rw[← xi,KP]
    rw[this,← JY];exact hst.more (by omega) _
  ·rw[ao (kl h)]
   rw[JR (by omega)]at hst hm;exact hK s hs hst hm
theorem vt (hn:cZ<=n)(p:PP)(hb:JC Hy p<=1048576):bA.F n p=some (jA p):=by
 have hn1:100000000<=n:=by unfold cZ at hn;omega
 rw[oM]at hb;have h1:=dr wT (λt=>by unfold wT;omega) p.1;have h2:=dr wR (λt=>by unfold wR;omega) p.2.1;have h3:=dr (JC o9) (λt=>kh o9 t) p.2.2;unfold bA.F;refine types_loop' (by omega) p (by omega) _ _ ?_ n 0 [] (JO _) (by omega) (by simp) (.inl (by simp[jI]));intro s hs hst;refine rels_loop' (by omega) p (by omega) _ (jI p.1) ?_ n 0 s (JO _) (by omega) hs (by simpa[gZ]using hst) (.inl (by simp));intro s2 hs2 hst2 hmd;have hP:lM p=jI p.1++gZ p.2.1++jS p.2.2:=rfl;rcases hmd with hmd|hlong
 rotate_left
 ·obtain⟨g,rfl⟩:∃g,n=g+1:=⟨n - 1,by omega⟩
  have hl:¬(lM p).length<=3000:=by
   rw[hP];have:=(hst2.more hlong (jS p.2.2));rcases this with e|e
   ·rw[← e];omega
   ·omega
  rw[bA.l7]
  by_cases h0:0<p.2.2.length
  ·rw[ab (by simpa using h0),ao (by rw[ah,dg];omega),ab (by rw[ah,dg];omega),jT hl]
  ·rw[ao (by simpa using h0),ab (by rw[ah,dg];omega),jT hl]
 refine rules_loop' hn p (by omega) _ (jI p.1++gZ p.2.1) ?_ n 0 s2 (JO _) (by omega) hs2 (by simpa[jS]using hst2) (.inl (by simp));intro s3 hs3 hst3 hrl;rw[← hP]at hst3;rcases hst3 with rfl|⟨h5,h6⟩
 ·by_cases h5:(lM p).length<=3000
  ·rw[ao (by rw[ah,dg];omega),ua ?_ ?_ h5]
   ·exact hmd
   ·rcases hrl with hrl|hrl
    ·exact hrl
    ·omega
  ·rw[ab (by rw[ah,dg];omega),jT h5]
 ·rw[ab (by rw[ah,dg];omega),jT (by omega)]
end
section
variable {n:Nat}
theorem Gm (l:List ByteArray)(sep:By)(h1:l.length<=aT)(h2:(KE (l.map (·.data.toList)) sep).length<=aT):cI.F n l (bt sep)=some (bt (KE (l.map (·.data.toList)) sep)):=by
 unfold cI.F;rw[ek sep,ab ⟨h1,h2⟩]
 rfl
theorem Gn (l:List ByteArray)(hl:wS l<=1100000):cI.F n l (bt [44,32])=some (bt (Dp l)):=by
 have hlen:=dr (λs:ByteArray=>s.size+1) (λ_=>by omega) l;have h:=oN l;have hw:wS l=(l.map λs=>s.size+1).sum+1:=rfl;refine Gm l [44,32] (by simp only[aT];omega) ?_;show(Dp l).length<=aT;simp only[aT];omega
theorem Ji (cs:List (ByteArray×List ByteArray))(hw:(cs.map wC).sum<=1100000)(t7:ByteArray)(t8:List TD)(t9 t10:Int)(t14:PP)(t15:TD)(K:List ByteArray->Option ByteArray):∀k j,j<=cs.length->cs.length - j<k->
  da.l1 n t7 t8 t9 t10 cs (cs.length:Int) t14 t15 K k (j:Int) (((cs.take j).map kV).map bt)=K ((cs.map kV).map bt)
 |0,j,_,hk=>by omega
 |k+1,j,hj,hk=>by
  have hlen:=dr wC pE cs;rw[da.l1]
  by_cases h:j<cs.length
  ·have hc:=jd wC cs _ (JI h)
   have hc':wC cs[j]=(cs[j]).1.size+1+wS (cs[j]).2:=rfl;have hz:=FD (cs[j]).1;have hls:=oN (cs[j]).2;have ih:=Ji cs hw t7 t8 t9 t10 t14 t15 K k (j+1) h (by omega);rw[JE h,Kx,Kx,JK,KG,JK,KG]at ih;rw[ab (jq h),ab (inl' h)];simp only[aE _ h];have lm:∀x:ByteArray,(((cs.take j).map kV).map bt).length+[x].length<=aT:=λx=>by simp only[Km,Lg,Ju,Jz,aT];omega
   by_cases h0:(cs[j]).2=[]
   ·rw[ao (by simp[h0]),ab (lm _),iX (by omega)]
    have e:kV cs[j]=(cs[j]).1.data.toList:=by unfold kV;rw[ab h0,Ky]
    rw[e,← bz]at ih;exact ih
   ·have hp:0<(cs[j]).2.length:=Lw.2 h0
    rw[ab (by simp;omega),show(⟨#[44,32]⟩:ByteArray)=bt [44,32]from rfl,Gn _ (by omega),Jn,show(⟨#[40]⟩:ByteArray)=bt [40]from rfl,show(⟨#[41]⟩:ByteArray)=bt [41]from rfl,
     ab (by simp only[ah,Ju,Jz,aT];omega),ap,ab (by simp only[ah,Jv,Ju,Jz,aT];omega),ap,
     ab (by rw[hz];simp only[ah,Jv,Ju,Jz,aT];omega),ab (lm _),iX (by omega)]
    have e:(cs[j]).1++bt ([40]++Dp (cs[j]).2++[41])=bt (kV cs[j]):=by
     conv=>lhs;rw[bz (cs[j]).1]
     rw[ap];unfold kV;rw[ao h0]
    rw[e];exact ih
  ·rw[ao (kl h),JR (by omega)]
theorem Iw (hn:1200000<=n)(l:List TD)(hw:(l.map wT).sum<=1100000)(t6:PP)(K:ByteArray->Option ByteArray):∀k i,i<=l.length->l.length - i<k->
  da.l0 n l (l.length:Int) t6 K k (bt (jI (l.take i))) (i:Int)=K (bt (jI l))
 |0,i,_,hk=>by omega
 |k+1,i,hi,hk=>by
  have hlen:=dr wT (λt=>by unfold wT;omega) l;rw[da.l0]
  by_cases h:i<l.length
  ·have hc:=jd wT l _ (JI h)
   have hc':wT l[i]=(l[i]).1.size+1+(((l[i]).2.map wC).sum+1):=rfl;have hcl:=dr wC pE (l[i]).2;have hz:=FD (l[i]).1;have hcs:=AA (l[i]).2;have hty:=so (l.take i);have hty2:=sn wT l i;have ih:=Iw hn l hw t6 K k (i+1) h (by omega);rw[JE h,ub]at ih;rw[ab (jq h),ab (inl' h)];simp only[aE _ h];have e1:=λK=>Ji (n:=n) (l[i]).2 (by omega) (bt (jI (l.take i))) l (l.length:Int) (i:Int) t6 l[i] K n 0 (JO _) (by omega)
   simp only[KD,KG,show((0:Nat):Int)=0 from rfl]at e1;rw[e1];have ej:cI.F n (((l[i]).2.map kV).map bt) ⟨#[32,124,32]⟩=some (bt (zt (l[i]).2)):=by
    have em:(((l[i]).2.map kV).map bt).map (·.data.toList)=(l[i]).2.map kV:=by
     rw[Lo]
     conv=>rhs;rw[← List.map_id ((l[i]).2.map kV)]
     exact List.map_congr_left λa _=>ek a
    have:=Gm (n:=n) (((l[i]).2.map kV).map bt) [32,124,32] (by simp only[Km,aT];omega) (by rw[em];show(zt (l[i]).2).length<=aT;simp only[aT];omega);rw[em]at this;exact this
   have e:∀x:By,bt x++(l[i]).1=bt (x++(l[i]).1.data.toList):=λx=>by conv=>lhs;rw[bz (l[i]).1];rw[ap]
   rw[show(⟨#[116,121,112,101,32]⟩:ByteArray)=bt [116,121,112,101,32]from rfl,show(⟨#[32,61,32]⟩:ByteArray)=bt [32,61,32]from rfl,show(⟨#[46,10]⟩:ByteArray)=bt [46,10]from rfl,
    ab (by rw[hz];simp only[ah,Ju,Jz,aT];omega),e,ab (by simp only[ah,Jv,Ju,Jz,aT];omega),ej,Jn,ap,
    ab (by simp only[ah,Jv,Ju,Jz,aT];omega),ap,ab (by simp only[ah,Jv,Ju,Jz,aT];omega),ap,
    ab (by simp only[ah,Jv,Ju,Jz,aT];omega),ap,iX (by omega)]
   exact ih
  ·rw[ao (kl h),JR (by omega)]
theorem Gp (hn:1200000<=n)(p:PP)(hw:(p.2.1.map wR).sum<=1100000)(A:By)(hA:A.length<=20000000)(t25:PP)(K:ByteArray->Option ByteArray)(hK:Dq p->K (bt (A++gZ p.2.1))=some (jA p)):∀k i,i<=p.2.1.length->p.2.1.length - i<k->(∀r∈p.2.1.take i,0<=r.2.2/\r.2.2<=3)->
  da.l2 n p.2.1 (p.2.1.length:Int) t25 K k (bt (A++gZ (p.2.1.take i))) (i:Int)=some (jA p)
 |0,i,_,hk,_=>by omega
 |k+1,i,hi,hk,hm=>by
  have hlen:=dr wR (λt=>by unfold wR;omega) p.2.1;rw[da.l2]
  by_cases h:i<p.2.1.length
  ·have hc:=jd wR p.2.1 _ (JI h)
   have hc':wR p.2.1[i]=(p.2.1[i]).1.size+1+(wS (p.2.1[i]).2.1+1):=rfl;have hz:=FD (p.2.1[i]).1;have hls:=oN (p.2.1[i]).2.1;have hml:=vr (p.2.1[i]).2.2;have hty:=pF (p.2.1.take i);have hty2:=sn wR p.2.1 i;rw[ab (jq h),ab (inl' h)];simp only[aE _ h];rw[in_eq,Jn]
   by_cases hmd:0<=(p.2.1[i]).2.2/\(p.2.1[i]).2.2<=3
   ·have ih:=Gp hn p hw A hA t25 K hK k (i+1) h (by omega) (by
     intro r hr;rw[JE h]at hr;rcases KM.1 hr with hr|hr
     ·exact hm r hr
     ·rw[JZ.1 hr];exact hmd)
    rw[JE h,sq]at ih;have e:∀x:By,bt x++(p.2.1[i]).1=bt (x++(p.2.1[i]).1.data.toList):=λx=>by conv=>lhs;rw[bz (p.2.1[i]).1];rw[ap]
    rw[ao (by simp[hmd]),show(⟨#[114,101,108,32]⟩:ByteArray)=bt [114,101,108,32]from rfl,show(⟨#[40]⟩:ByteArray)=bt [40]from rfl,show(⟨#[41]⟩:ByteArray)=bt [41]from rfl,show(⟨#[46,10]⟩:ByteArray)=bt [46,10]from rfl,show(⟨#[44,32]⟩:ByteArray)=bt [44,32]from rfl,show(⟨#[32]⟩:ByteArray)=bt [32]from rfl,
     ab (by rw[hz];simp only[ah,Ju,Jz,aT];omega),e,ab (by simp only[ah,Jv,Ju,Jz,aT];omega),Gn _ (by omega),Jn,ap,
     ab (by simp only[ah,Jv,Ju,Jz,aT];omega),ap,ab (by simp only[ah,Jv,Ju,Jz,aT];omega),ap,
     ab (by simp only[ah,Jv,Ju,Jz,aT];omega),ap]
    by_cases h0:(p.2.1[i]).2.2=0
    ·rw[ao (by simp[h0]),ab (by simp only[ah,Jv,Ju,Jz,aT];omega),ap,iX (by omega)]
     have em:Hw (p.2.1[i]).2.2=[]:=by rw[h0];rfl
     unfold Hx at ih;rw[em]at ih;simp only[JY,Kv]at ih⊢;exact ih
    ·have em:bt [32]++Jt ([Jo,⟨#[105,110,112,117,116]⟩,⟨#[111,117,116,112,117,116]⟩,⟨#[105,110,108,105,110,101]⟩]:List ByteArray) (Jr (p.2.1[i]).2.2) Jo=bt (Hw (p.2.1[i]).2.2)/\(Jt ([Jo,⟨#[105,110,112,117,116]⟩,⟨#[111,117,116,112,117,116]⟩,⟨#[105,110,108,105,110,101]⟩]:List ByteArray) (Jr (p.2.1[i]).2.2) Jo).size<=6:=by
      have:(p.2.1[i]).2.2=1\/(p.2.1[i]).2.2=2\/(p.2.1[i]).2.2=3:=by omega
      rcases this with e|e|e<;>rw[e]<;>exact⟨rfl,by decide⟩
     rw[ab (by simp[h0])];unfold ft.F;rw[Jn,ab (by simp;omega),ab (by have:=em.2;simp only[ah,Ju,Jz,aT];omega),em.1,ab (by simp only[ah,Jv,Ju,Jz,aT];omega),ap,
      ab (by simp only[ah,Jv,Ju,Jz,aT];omega),ap,iX (by omega)]
     unfold Hx at ih;simp only[JY]at ih⊢;exact ih
   ·rw[ab (by simp only[LY,vJ];exact hmd),xh (λx=>hmd (x _ (JI h)))]
  ·rw[ao (kl h),JR (by omega)]
   rw[JR (by omega)]at hm;exact hK hm
theorem Dv (hn:cZ<=n)(p:PP)(hw:(p.2.2.map (JC o9)).sum<=1048576)(A:By)(hP:lM p=A++jS p.2.2)(hA:A.length<=40000000)(K:ByteArray->Option ByteArray)(hK:C1 p->K (bt (lM p))=some (jA p)):∀k i,i<=p.2.2.length->p.2.2.length - i<k->(∀r∈p.2.2.take i,¬Kk (fP r) Jo=true)->(A++jS (p.2.2.take i)).length<=50000000->
  da.l3 n p.2.2 (p.2.2.length:Int) K k (bt (A++jS (p.2.2.take i))) (i:Int)=some (jA p)
 |0,i,_,hk,_,_=>by omega
 |k+1,i,hi,hk,hm,hs=>by
  have hlen:=dr (JC o9) (λt=>kh o9 t) p.2.2;rw[da.l3]
  by_cases h:i<p.2.2.length
  ·have hc:=jd (JC o9) p.2.2 _ (JI h)
   rw[ab (jq h),ab (inl' h),aE _ h,y9 n (by unfold cZ at hn;omega) _ (kU (by omega)).toSmR,Jn]
   by_cases he:Kk (fP p.2.2[i]) Jo=true
   ·rw[ao (by rw[he];simp),sh (λx=>x _ (JI h) he)]
   ·rw[ab (JT.2 he)]
    by_cases h3:(A++jS (p.2.2.take i)).length<=3000
    ·have hz:=sk p.2.2[i]
     have hz':=FD (fP p.2.2[i]);have ih:=Dv hn p hw A hP hA K hK k (i+1) h (by omega) (by
      intro r hr;rw[JE h]at hr;rcases KM.1 hr with hr|hr
      ·exact hm r hr
      ·rw[JZ.1 hr];exact he)
     rw[JE h,uc]at ih;have e:fP p.2.2[i]++⟨#[10]⟩=bt (Ic p.2.2[i]):=by
      have:=ap (fP p.2.2[i]).data.toList [10];rw[← bz]at this;exact this
     have hr:(Ic p.2.2[i]).length<=3001:=by unfold Ic;simp only[Jv,Ju,Jz];omega
     rw[ao (by rw[ah,dg];omega),ab (by simp only[aT];show(fP p.2.2[i]).size+1<=4294967296;omega),e,ab (by rw[ah,ah];simp only[aT];omega),ap,iX (by omega)];rw[JY];exact ih (by rw[← JY,Jv];omega)
    ·have hl:¬(lM p).length<=3000:=by
      have:jS p.2.2=jS (p.2.2.take i)++jS (p.2.2.drop i):=by rw[← xi,KP]
      rw[hP,this,← JY,Jv];omega
     rw[ab (by rw[ah,dg];omega),jT hl]
  ·rw[ao (kl h),JR (by omega),← hP]
   rw[JR (by omega)]at hm;exact hK hm
theorem vu (hn:cZ<=n)(p:PP)(hb:JC Hy p<=1048576):da.F n p=some (jA p):=by
 have hn1:100000000<=n:=by unfold cZ at hn;omega
 rw[oM]at hb;have h1:=dr wT (λt=>by unfold wT;omega) p.1;have h2:=dr wR (λt=>by unfold wR;omega) p.2.1;have h3:=dr (JC o9) (λt=>kh o9 t) p.2.2;have l1:=so p.1;have l2:=pF p.2.1;unfold da.F;have e0:=λK=>Iw (n:=n) (by omega) p.1 (by omega) p K n 0 (JO _) (by omega)
 simp only[KD,show((0:Nat):Int)=0 from rfl,show jI []=[]from rfl]at e0;refine(e0 _).trans ?_;have hP:lM p=(jI p.1++gZ p.2.1)++jS p.2.2:=rfl;have e1:=λK hK=>Gp (n:=n) (by omega) p (by omega) (jI p.1) (by omega) p K hK n 0 (JO _) (by omega) (by simp)
 simp only[KD,show((0:Nat):Int)=0 from rfl,show gZ []=[]from rfl,Ky]at e1;refine e1 _ λhmd=>?_
 have e2:=λK hK=>Dv (n:=n) hn p (by omega) (jI p.1++gZ p.2.1) hP (by rw[Jv];omega) K hK n 0 (JO _) (by omega) (by simp) (by simp only[KD,show jS []=[]from rfl,Ky,Jv];omega)
 simp only[KD,show((0:Nat):Int)=0 from rfl,show jS []=[]from rfl,Ky]at e2;refine e2 _ λhrl=>?_
 by_cases h5:(lM p).length<=3000
 ·rw[ao (by rw[ah,dg];omega),ua hmd hrl h5]
 ·rw[ab (by rw[ah,dg];omega),jT h5]
end
instance decRu:DecidableEq Ru:=λx y=>inferInstance
instance decRus:DecidableEq (List Ru):=inferInstance
instance decRR:DecidableEq (List RD×List Ru):=λx y=>inferInstance
instance decPP:DecidableEq PP:=λx y=>inferInstance
section
variable (n:Nat)
theorem Gq (a b:List ByteArray)(hab:a.length=b.length)(ha:a.length<=1048576):∀(k i:Nat),i<=a.length->a.length - i<k->fU.l0 n a b (λ_=>some true) k (i:Int)=some (decide (a.drop i=b.drop i))
 |0,i,_,hk=>bH hk (JJ _)
 |k+1,i,hi,hk=>by
  by_cases h:i<a.length
  ·have h2:i<b.length:=by omega
   conv=>lhs;unfold fU.l0
   rw[ab (jq h),ab (inl' h),ab (inl' h2),aE _ h,aE _ h2,seq_dec,JF h,JF h2]
   by_cases e:a[i]=b[i]
   ·rw[ao (by simp[e]),iX (by omega),Gq a b hab ha k (i+1) (by omega) (by omega),dO,iW e,KB]
   ·rw[ab (by simp[e]),dO,dq e,LD]
  ·conv=>lhs;unfold fU.l0
   rw[ao (kl h),JH (by omega),JH (by omega)]
   rfl
theorem HA (hn:1100000<=n)(a b:List ByteArray)(ha:a.length<=1048576):fU.F n a b=some (decide (a=b)):=by
 unfold fU.F
 by_cases hab:a.length=b.length
 ·rw[ao (by simp[hab])]
  have:=Gq n a b hab ha n 0 (JO _) (by omega);rw[show((0:Nat):Int)=0 from rfl,JW,JW]at this;exact this
 ·have:¬(a.length:Int)=(b.length:Int):=by omega
  rw[ab (by simp[this]),dq (λe=>hab (by rw[e]))]
theorem Gr (a b:List ByteArray)(hab:a.length=b.length)(ha:a.length<=1048576):∀(k i:Nat),i<=a.length->a.length - i<k->bC.l0 n a b (a.length:Int) (λ_=>some true) k (i:Int)=some (decide (a.drop i=b.drop i))
 |0,i,_,hk=>bH hk (JJ _)
 |k+1,i,hi,hk=>by
  by_cases h:i<a.length
  ·have h2:i<b.length:=by omega
   conv=>lhs;unfold bC.l0
   rw[ab (jq h),ab (inl' h),ab (inl' h2),aE _ h,aE _ h2,seq_dec,JF h,JF h2]
   by_cases e:a[i]=b[i]
   ·rw[ao (by simp[e]),iX (by omega),Gr a b hab ha k (i+1) (by omega) (by omega),dO,iW e,KB]
   ·rw[ab (by simp[e]),dO,dq e,LD]
  ·conv=>lhs;unfold bC.l0
   rw[ao (kl h),JH (by omega),JH (by omega)]
   rfl
theorem Dw (hn:1100000<=n)(a b:List ByteArray)(ha:a.length<=1048576):bC.F n a b=some (decide (a=b)):=by
 unfold bC.F
 by_cases hab:a.length=b.length
 ·rw[ao (by simp[hab])]
  have:=Gr n a b hab ha n 0 (JO _) (by omega);rw[show((0:Nat):Int)=0 from rfl,JW,JW]at this;exact this
 ·have:¬(a.length:Int)=(b.length:Int):=by omega
  rw[ab (by simp[this]),dq (λe=>hab (by rw[e]))]
theorem Dx (hn:1100000<=n)(a b:List ByteArray)(ha:a.length<=1048576):im.F n a b=some (decide (a=b)):=by
 unfold im.F;rw[HA n hn a b ha]
 rfl
abbrev CN:Type:=ByteArray×List ByteArray
theorem Gs (a b:List CN)(f:CN×CN×Unit->Option Bool)(hf:∀x∈a,∀y,f (x,y,())=some (decide (x=y)))(hab:a.length=b.length)(ha:a.length<=1048576):∀(k i:Nat),i<=a.length->a.length - i<k->bu.l0 n b f a (a.length:Int) (λ_=>some true) k (i:Int)=some (decide (a.drop i=b.drop i))
 |0,i,_,hk=>bH hk (JJ _)
 |k+1,i,hi,hk=>by
  by_cases h:i<a.length
  ·have h2:i<b.length:=by omega
   conv=>lhs;unfold bu.l0
   rw[ab (jq h),ab (inl' h),ab (inl' h2),aE _ h,aE _ h2,hf _ (JI h),Jn,JF h,JF h2]
   by_cases e:a[i]=b[i]
   ·rw[ao (by simp[e]),iX (by omega),Gs a b f hf hab ha k (i+1) (by omega) (by omega),dO,iW e,KB]
   ·rw[ab (by simp[e]),dO,dq e,LD]
  ·conv=>lhs;unfold bu.l0
   rw[ao (kl h),JH (by omega),JH (by omega)]
   rfl
theorem HB (hn:1100000<=n)(a b:List CN)(f:CN×CN×Unit->Option Bool)(hf:∀x∈a,∀y,f (x,y,())=some (decide (x=y)))(ha:a.length<=1048576):bu.F n a b f=some (decide (a=b)):=by
 unfold bu.F
 by_cases hab:a.length=b.length
 ·rw[ao (by simp[hab])]
  have:=Gs n a b f hf hab ha n 0 (JO _) (by omega);rw[show((0:Nat):Int)=0 from rfl,JW,JW]at this;exact this
 ·have:¬(a.length:Int)=(b.length:Int):=by omega
  rw[ab (by simp[this]),dq (λe=>hab (by rw[e]))]
theorem Gt (a b:List TD)(f:TD×TD×Unit->Option Bool)(hf:∀x∈a,∀y,f (x,y,())=some (decide (x=y)))(hab:a.length=b.length)(ha:a.length<=1048576):∀(k i:Nat),i<=a.length->a.length - i<k->aG.l0 n b f a (a.length:Int) (λ_=>some true) k (i:Int)=some (decide (a.drop i=b.drop i))
 |0,i,_,hk=>bH hk (JJ _)
 |k+1,i,hi,hk=>by
  by_cases h:i<a.length
  ·have h2:i<b.length:=by omega
   conv=>lhs;unfold aG.l0
   rw[ab (jq h),ab (inl' h),ab (inl' h2),aE _ h,aE _ h2,hf _ (JI h),Jn,JF h,JF h2]
   by_cases e:a[i]=b[i]
   ·rw[ao (by simp[e]),iX (by omega),Gt a b f hf hab ha k (i+1) (by omega) (by omega),dO,iW e,KB]
   ·rw[ab (by simp[e]),dO,dq e,LD]
  ·conv=>lhs;unfold aG.l0
   rw[ao (kl h),JH (by omega),JH (by omega)]
   rfl
theorem HC (hn:1100000<=n)(a b:List TD)(f:TD×TD×Unit->Option Bool)(hf:∀x∈a,∀y,f (x,y,())=some (decide (x=y)))(ha:a.length<=1048576):aG.F n a b f=some (decide (a=b)):=by
 unfold aG.F
 by_cases hab:a.length=b.length
 ·rw[ao (by simp[hab])]
  have:=Gt n a b f hf hab ha n 0 (JO _) (by omega);rw[show((0:Nat):Int)=0 from rfl,JW,JW]at this;exact this
 ·have:¬(a.length:Int)=(b.length:Int):=by omega
  rw[ab (by simp[this]),dq (λe=>hab (by rw[e]))]
theorem Gu (a b:List RD)(f:RD×RD×Unit->Option Bool)(hf:∀x∈a,∀y,f (x,y,())=some (decide (x=y)))(hab:a.length=b.length)(ha:a.length<=1048576):∀(k i:Nat),i<=a.length->a.length - i<k->aL.l0 n b f a (a.length:Int) (λ_=>some true) k (i:Int)=some (decide (a.drop i=b.drop i))
 |0,i,_,hk=>bH hk (JJ _)
 |k+1,i,hi,hk=>by
  by_cases h:i<a.length
  ·have h2:i<b.length:=by omega
   conv=>lhs;unfold aL.l0
   rw[ab (jq h),ab (inl' h),ab (inl' h2),aE _ h,aE _ h2,hf _ (JI h),Jn,JF h,JF h2]
   by_cases e:a[i]=b[i]
   ·rw[ao (by simp[e]),iX (by omega),Gu a b f hf hab ha k (i+1) (by omega) (by omega),dO,iW e,KB]
   ·rw[ab (by simp[e]),dO,dq e,LD]
  ·conv=>lhs;unfold aL.l0
   rw[ao (kl h),JH (by omega),JH (by omega)]
   rfl
theorem HD (hn:1100000<=n)(a b:List RD)(f:RD×RD×Unit->Option Bool)(hf:∀x∈a,∀y,f (x,y,())=some (decide (x=y)))(ha:a.length<=1048576):aL.F n a b f=some (decide (a=b)):=by
 unfold aL.F
 by_cases hab:a.length=b.length
 ·rw[ao (by simp[hab])]
  have:=Gu n a b f hf hab ha n 0 (JO _) (by omega);rw[show((0:Nat):Int)=0 from rfl,JW,JW]at this;exact this
 ·have:¬(a.length:Int)=(b.length:Int):=by omega
  rw[ab (by simp[this]),dq (λe=>hab (by rw[e]))]
theorem Gv (a b:List Ru)(f:Ru×Ru×Unit->Option Bool)(hf:∀x∈a,∀y,f (x,y,())=some (decide (x=y)))(hab:a.length=b.length)(ha:a.length<=1048576):∀(k i:Nat),i<=a.length->a.length - i<k->bl.l0 n b f a (a.length:Int) (λ_=>some true) k (i:Int)=some (decide (a.drop i=b.drop i))
 |0,i,_,hk=>bH hk (JJ _)
 |k+1,i,hi,hk=>by
  by_cases h:i<a.length
  ·have h2:i<b.length:=by omega
   conv=>lhs;unfold bl.l0
   rw[ab (jq h),ab (inl' h),ab (inl' h2),aE _ h,aE _ h2,hf _ (JI h),Jn,JF h,JF h2]
   by_cases e:a[i]=b[i]
   ·rw[ao (by simp[e]),iX (by omega),Gv a b f hf hab ha k (i+1) (by omega) (by omega),dO,iW e,KB]
   ·rw[ab (by simp[e]),dO,dq e,LD]
  ·conv=>lhs;unfold bl.l0
   rw[ao (kl h),JH (by omega),JH (by omega)]
   rfl
theorem HE (hn:1100000<=n)(a b:List Ru)(f:Ru×Ru×Unit->Option Bool)(hf:∀x∈a,∀y,f (x,y,())=some (decide (x=y)))(ha:a.length<=1048576):bl.F n a b f=some (decide (a=b)):=by
 unfold bl.F
 by_cases hab:a.length=b.length
 ·rw[ao (by simp[hab])]
  have:=Gv n a b f hf hab ha n 0 (JO _) (by omega);rw[show((0:Nat):Int)=0 from rfl,JW,JW]at this;exact this
 ·have:¬(a.length:Int)=(b.length:Int):=by omega
  rw[ab (by simp[this]),dq (λe=>hab (by rw[e]))]
theorem lN {α β:Type} [DecidableEq α] [DecidableEq β](x y:α×β):decide (x=y)=(decide (x.1=y.1)&&decide (x.2=y.2)):=by
 obtain⟨a,b⟩:=x;obtain⟨d,e⟩:=y
 by_cases h1:a=d<;>by_cases h2:b=e<;>simp[h1,h2]
theorem J5 (hn:1100000<=n)(x y:CN)(hx:x.2.length<=1048576):eT.F n x y=some (decide (x=y)):=by
 unfold eT.F;rw[Dw n hn _ _ hx,seq_dec,lN];cases decide (x.1=y.1)<;>cases decide (x.2=y.2)<;>rfl
theorem iTD (hn:1100000<=n)(x y:TD)(hx:x.2.length<=1048576)(hx2:∀c∈x.2,c.2.length<=1048576):fI.F n x y=some (decide (x=y)):=by
 unfold fI.F;rw[HB n hn x.2 y.2 _ (λc hc d=>by
  show((eT.F n c d).bind some)=_;rw[J5 n hn c d (hx2 c hc)]
  rfl) hx,seq_dec,lN]
 cases decide (x.1=y.1)<;>cases decide (x.2=y.2)<;>rfl
theorem iRD (hn:1100000<=n)(x y:RD)(hx:x.2.1.length<=1048576):fE.F n x y=some (decide (x=y)):=by
 unfold fE.F;rw[Dw n hn _ _ hx,seq_dec,lN,lN];cases decide (x.1=y.1)<;>cases decide (x.2.1=y.2.1)<;>cases decide (x.2.2=y.2.2)<;>rfl
structure zu (p:PP):Prop where
 tys:p.1.length<=1048576
 cons:∀t∈p.1,t.2.length<=1048576
 cty:∀t∈p.1,∀c∈t.2,c.2.length<=1048576
 rels:p.2.1.length<=1048576
 rty:∀r∈p.2.1,r.2.1.length<=1048576
 rules:p.2.2.length<=1048576
 rul:∀r∈p.2.2,JC o9 r<=1048576
theorem Dy {p:PP}(hb:JC Hy p<=1048576):zu p:=by
 rw[oM]at hb;have h1:=dr wT (λt=>by unfold wT;omega) p.1;have h2:=dr wR (λt=>by unfold wR;omega) p.2.1;have h3:=dr (JC o9) (λt=>kh o9 t) p.2.2;have hS:∀l:List ByteArray,l.length<=wS l:=λl=>by have:=dr (λs:ByteArray=>s.size+1) (λ_=>by omega) l;unfold wS;omega
 refine⟨by omega,λt ht=>?_,λt ht c hc=>?_,by omega,λr hr=>?_,by omega,λr hr=>?_⟩
 ·have a1:=jd wT p.1 t ht
  have a2:wT t=t.1.size+1+((t.2.map wC).sum+1):=rfl;have a3:=dr wC pE t.2;omega
 ·have a1:=jd wT p.1 t ht
  have a2:wT t=t.1.size+1+((t.2.map wC).sum+1):=rfl;have a3:=jd wC t.2 c hc;have a4:wC c=c.1.size+1+wS c.2:=rfl;have:=hS c.2;omega
 ·have a1:=jd wR p.2.1 r hr
  have a2:wR r=r.1.size+1+(wS r.2.1+1):=rfl;have:=hS r.2.1;omega
 ·have a1:=jd (JC o9) p.2.2 r hr
  omega
theorem C3 (hn:1100000<=n)(p q:PP)(S:zu p):j7.F n p q=some (decide (p=q)):=by
 unfold j7.F;rw[HC n hn p.1 q.1 _ (λc hc d=>by
  show((fI.F n c d).bind some)=_;rw[iTD n hn c d (S.cons c hc) (S.cty c hc)]
  rfl) S.tys,HD n hn p.2.1 q.2.1 _ (λc hc d=>by
  show((fE.F n c d).bind some)=_;rw[iRD n hn c d (S.rty c hc)]
  rfl) S.rels,HE n hn p.2.2 q.2.2 _ (λc hc d=>by
  show((fk.F n c d).bind some)=_;rw[qy n hn c d (kU (S.rul c hc)).toSmR]
  rfl) S.rules,lN p q,lN p.2 q.2]
 cases decide (p.1=q.1)<;>cases decide (p.2.1=q.2.1)<;>cases decide (p.2.2=q.2.2)<;>rfl
theorem lr {α:Type}{a b:List α}{i:Nat}(h:i<a.length)(h2:i<b.length):a.drop i=b.drop i↔a[i]=b[i]/\a.drop (i+1)=b.drop (i+1):=by
 rw[JF h,JF h2,sX]
theorem xj (hn:1100000<=n)(p q:PP)(S:zu p){a:Nat}(ha:a<p.1.length)(ha2:a<q.1.length)(hab:(p.1[a]).2.length=(q.1[a]).2.length)(K:Unit->Option Bool):∀(k i:Nat),i<=(p.1[a]).2.length->(p.1[a]).2.length - i<k->cf.l3 n (a:Int) p q K k (i:Int)=if(p.1[a]).2.drop i=(q.1[a]).2.drop i then K ()else some false
 |0,i,_,hk=>bH hk (JJ _)
 |k+1,i,hi,hk=>by
  have hc:=S.cons _ (JI ha)
  by_cases h:i<(p.1[a]).2.length
  ·have h2:i<(q.1[a]).2.length:=by omega
   conv=>lhs;unfold cf.l3
   simp only[aE _ ha,aE _ ha2];simp only[aE _ h,aE _ h2];rw[ab (inl' ha),ab (jq h)];simp only[ab (inl' ha),ab (inl' ha2),ab (inl' h),ab (inl' h2)];rw[Dx n hn _ _ (S.cty _ (JI ha) _ (JI h)),Jn,seq_dec,iX (by omega),xj hn p q S ha ha2 hab K k (i+1) (by omega) (by omega)];have e:=lr h h2;have e2:(p.1[a]).2[i]=(q.1[a]).2[i]↔((p.1[a]).2[i]).1=((q.1[a]).2[i]).1/\((p.1[a]).2[i]).2=((q.1[a]).2[i]).2:=Mr
   by_cases c1:((p.1[a]).2[i]).1=((q.1[a]).2[i]).1
   ·rw[ab (by simp[c1])]
    by_cases c2:((p.1[a]).2[i]).2=((q.1[a]).2[i]).2
    ·rw[ao (by simp[c2])]
     by_cases c3:(p.1[a]).2.drop (i+1)=(q.1[a]).2.drop (i+1)
     ·rw[ab c3,ab (e.2 ⟨e2.2 ⟨c1,c2⟩,c3⟩)]
     ·rw[ao c3,ao (λx=>c3 (e.1 x).2)]
    ·rw[ab (by simp[c2]),ao (λx=>c2 (e2.1 (e.1 x).1).2)]
   ·rw[ao (by simp[c1]),ao (λx=>c1 (e2.1 (e.1 x).1).1)]
  ·conv=>lhs;unfold cf.l3
   simp only[aE _ ha];rw[ab (inl' ha),ao (kl h),JH (by omega),JH (by omega),ab rfl]
theorem xk (hn:1100000<=n)(p q:PP)(S:zu p)(hab:p.1.length=q.1.length)(K:Unit->Option Bool):∀(k i:Nat),i<=p.1.length->p.1.length - i<k->cf.l1 n p q K k (i:Int)=if p.1.drop i=q.1.drop i then K ()else some false
 |0,i,_,hk=>bH hk (JJ _)
 |k+1,i,hi,hk=>by
  have hc:=S.tys
  by_cases h:i<p.1.length
  ·have h2:i<q.1.length:=by omega
   have hcc:=S.cons _ (JI h)
   conv=>lhs;unfold cf.l1
   simp only[aE _ h,aE _ h2];rw[ab (jq h)];simp only[ab (inl' h),ab (inl' h2)];have e:=lr h h2;have e2:p.1[i]=q.1[i]↔(p.1[i]).1=(q.1[i]).1/\(p.1[i]).2=(q.1[i]).2:=Mr;rw[seq_dec]
   by_cases c1:(p.1[i]).1=(q.1[i]).1
   ·rw[ab (by simp[c1])]
    by_cases cl:(p.1[i]).2.length=(q.1[i]).2.length
    ·rw[ao (by simp[cl])]
     unfold cf.j2;have e3:=λK=>xj n hn p q S h h2 cl K n 0 (JO _) (by omega)
     simp only[show((0:Nat):Int)=0 from rfl,JW]at e3;rw[e3,iX (by omega),xk hn p q S hab K k (i+1) (by omega) (by omega)]
     by_cases c2:(p.1[i]).2=(q.1[i]).2
     ·rw[ab c2]
      by_cases c3:p.1.drop (i+1)=q.1.drop (i+1)
      ·rw[ab c3,ab (e.2 ⟨e2.2 ⟨c1,c2⟩,c3⟩)]
      ·rw[ao c3,ao (λx=>c3 (e.1 x).2)]
     ·rw[ao c2,ao (λx=>c2 (e2.1 (e.1 x).1).2)]
    ·have:¬((p.1[i]).2.length:Int)=((q.1[i]).2.length:Int):=by omega
     rw[ab (by simp[this]),ao (λx=>cl (by rw[(e2.1 (e.1 x).1).2]))]
   ·rw[ao (by simp[c1]),ao (λx=>c1 (e2.1 (e.1 x).1).1)]
  ·conv=>lhs;unfold cf.l1
   rw[ao (kl h),JH (by omega),JH (by omega),ab rfl]
theorem xl (hn:1100000<=n)(p q:PP)(S:zu p)(hab:p.2.1.length=q.2.1.length)(K:Unit->Option Bool):∀(k i:Nat),i<=p.2.1.length->p.2.1.length - i<k->cf.l4 n p q K k (i:Int)=if p.2.1.drop i=q.2.1.drop i then K ()else some false
 |0,i,_,hk=>bH hk (JJ _)
 |k+1,i,hi,hk=>by
  have hc:=S.rels
  by_cases h:i<p.2.1.length
  ·have h2:i<q.2.1.length:=by omega
   conv=>lhs;unfold cf.l4
   simp only[aE _ h,aE _ h2];rw[ab (jq h)];simp only[ab (inl' h),ab (inl' h2)];have e:=lr h h2;have e2:p.2.1[i]=q.2.1[i]↔(p.2.1[i]).1=(q.2.1[i]).1/\(p.2.1[i]).2.1=(q.2.1[i]).2.1/\(p.2.1[i]).2.2=(q.2.1[i]).2.2:=by rw[Mr,Mr]
   rw[seq_dec,Dx n hn _ _ (S.rty _ (JI h)),Jn,iX (by omega),xl hn p q S hab K k (i+1) (by omega) (by omega)]
   by_cases c1:(p.2.1[i]).1=(q.2.1[i]).1
   ·rw[ab (by simp[c1])]
    by_cases c2:(p.2.1[i]).2.2=(q.2.1[i]).2.2
    ·rw[ab (by simp[c2])]
     by_cases c4:(p.2.1[i]).2.1=(q.2.1[i]).2.1
     ·rw[ao (by simp[c4])]
      by_cases c3:p.2.1.drop (i+1)=q.2.1.drop (i+1)
      ·rw[ab c3,ab (e.2 ⟨e2.2 ⟨c1,c4,c2⟩,c3⟩)]
      ·rw[ao c3,ao (λx=>c3 (e.1 x).2)]
     ·rw[ab (by simp[c4]),ao (λx=>c4 (e2.1 (e.1 x).1).2.1)]
    ·rw[ao (by simp[c2]),ao (λx=>c2 (e2.1 (e.1 x).1).2.2)]
   ·rw[ao (by simp[c1]),ao (λx=>c1 (e2.1 (e.1 x).1).1)]
  ·conv=>lhs;unfold cf.l4
   rw[ao (kl h),JH (by omega),JH (by omega),ab rfl]
theorem xm (hn:1100000<=n)(p q:PP)(S:zu p)(hab:p.2.2.length=q.2.2.length)(K:Unit->Option Bool):∀(k i:Nat),i<=p.2.2.length->p.2.2.length - i<k->cf.l5 n p q K k (i:Int)=if p.2.2.drop i=q.2.2.drop i then K ()else some false
 |0,i,_,hk=>bH hk (JJ _)
 |k+1,i,hi,hk=>by
  have hc:=S.rules
  by_cases h:i<p.2.2.length
  ·have h2:i<q.2.2.length:=by omega
   conv=>lhs;unfold cf.l5
   rw[ab (jq h),ab (inl' h),ab (inl' h2),aE _ h,aE _ h2,qB n hn _ _ (kU (S.rul _ (JI h))).toSmR,Jn,iX (by omega),xm hn p q S hab K k (i+1) (by omega) (by omega)];have e:=lr h h2
   by_cases c2:p.2.2[i]=q.2.2[i]
   ·rw[ao (by simp[c2])]
    by_cases c3:p.2.2.drop (i+1)=q.2.2.drop (i+1)
    ·rw[ab c3,ab (e.2 ⟨c2,c3⟩)]
    ·rw[ao c3,ao (λx=>c3 (e.1 x).2)]
   ·rw[ab (by simp[c2]),ao (λx=>c2 (e.1 x).1)]
  ·conv=>lhs;unfold cf.l5
   rw[ao (kl h),JH (by omega),JH (by omega),ab rfl]
theorem C4 (hn:1100000<=n)(p q:PP)(S:zu p):cf.F n p q=some (decide (p=q)):=by
 unfold cf.F;have e:p=q↔p.1=q.1/\p.2.1=q.2.1/\p.2.2=q.2.2:=by rw[Mr,Mr]
 by_cases h1:p.1.length=q.1.length
 ·rw[ab (by simp[h1])]
  by_cases h2:p.2.1.length=q.2.1.length
  ·rw[ab (by simp[h2])]
   by_cases h3:p.2.2.length=q.2.2.length
   ·rw[ao (by simp[h3])]
    unfold cf.j0;have e1:=λK=>xk n hn p q S h1 K n 0 (JO _) (by have:=S.tys;omega)
    have e2:=λK=>xl n hn p q S h2 K n 0 (JO _) (by have:=S.rels;omega)
    have e3:=λK=>xm n hn p q S h3 K n 0 (JO _) (by have:=S.rules;omega)
    simp only[show((0:Nat):Int)=0 from rfl,JW]at e1 e2 e3;rw[e1,e2,e3]
    by_cases c1:p.1=q.1
    ·rw[ab c1]
     by_cases c2:p.2.1=q.2.1
     ·rw[ab c2]
      by_cases c3:p.2.2=q.2.2
      ·rw[ab c3,iW (e.2 ⟨c1,c2,c3⟩)]
      ·rw[ao c3,dq (λx=>c3 (e.1 x).2.2)]
     ·rw[ao c2,dq (λx=>c2 (e.1 x).2.1)]
    ·rw[ao c1,dq (λx=>c1 (e.1 x).1)]
   ·have:¬(p.2.2.length:Int)=(q.2.2.length:Int):=by omega
    rw[ab (by simp[this]),dq (λx=>h3 (by rw[x]))]
  ·have:¬(p.2.1.length:Int)=(q.2.1.length:Int):=by omega
   rw[ao (by simp[this]),dq (λx=>h2 (by rw[x]))]
 ·have:¬(p.1.length:Int)=(q.1.length:Int):=by omega
  rw[ao (by simp[this]),dq (λx=>h1 (by rw[x]))]
theorem zv (hn:200000<=n):eb.F n Jo=some (P0,0,0):=by
 obtain⟨g,rfl⟩:∃g,n=g+1:=⟨n - 1,by omega⟩
 have ht:az.F (g+1) Jo=some ([],0,0):=by
  unfold az.F;rw[ao (by decide),az.l0,ao (by decide)]
 unfold eb.F;rw[ht,Jn,ao (by decide),eb.l0,ab (by decide),ao (by decide)];exact GP (L:=[]) (Z:=0) (k:=0) (m:=false) (E:=[]) (P:=P0)
theorem Dz (hn:cZ<=n)(p:PP)(hb:JC Hy p<=1048576):∃b,iG.F n p=some b/\jF.F n p=some b/\(b=true->IE p/\(∀r∈p.2.2,¬Kk (fP r) Jo=true)/\p.1.length<=20/\p.2.1.length<=20/\p.2.2.length<=40):=by
 have hn1:1100000<=n:=by unfold cZ at hn;omega
 have S:=Dy hb;obtain⟨R,r1,r2,r3⟩:=Dn (n:=n) (by omega) (jA p);unfold iG.F jF.F;rw[vt hn p hb,vu hn p hb,Jn,Jn,r1,r2,Jn,Jn]
 by_cases c:R.2.2=0
 ·rw[ab (by simp[c]),ab (by simp[c]),C4 n hn1 p R.1 S,C3 n hn1 p R.1 S,Jn]
  refine⟨_,rfl,rfl,λh=>?_⟩;have he:p=R.1:=of_decide_eq_true h;rcases r3 with⟨_,g1,g2,g3,g4⟩|⟨g,_⟩
  ·rw[← he]at g1 g2 g3 g4
   refine⟨g1,?_,g2,g3,g4⟩
   by_cases hr:C1 p
   ·exact hr
   ·exfalso
    have ht:=sh hr;rw[ht,zv n (by omega)]at r1;have:R.1=P0:=by have:=Option.some.inj r1;rw[← this]
    rw[this]at he;exact hr (by rw[he];intro r hx;cases hx)
  ·exact bH c g
 ·rw[ao (by simp[c]),ao (by simp[c])]
  exact⟨false,rfl,rfl,λh=>by cases h⟩
end
theorem FE (p:Nat)(h:p<=100000):(vT p).size<=9:=by
 have:=td (p+1) (by omega);unfold vT;rw[ah,Ju];omega
theorem HF {names:List ByteArray}(hl:names.length<=1000)(e:Ex):bx (tw names e)<=bx e+9:=by
 unfold tw
 split
 ·have:=FE (kE names e.2.1) (by have:=List.findIdx_le_length (xs:=names) (p:=λx=>decide (x=e.2.1));unfold kE;omega)
  have h1:bx (e.1,(vT (kE names e.2.1),e.2.2))=3+(vT (kE names e.2.1)).size+e.2.2.length:=rfl;have h2:=pC e;omega
 ·omega
theorem C5 {r:Ru}(hE:r.1.length<=900):zN (gA r)<=zN r+9000:=by
 have hl:=lS r.1 [];simp only[Jz,Nat.zero_add]at hl;have key:∀(names:List ByteArray),names.length<=1000->∀l:List Ex,((l.map (tw names)).map bx).sum<=(l.map bx).sum+9*l.length:=by
  intro names hn l
  induction l with
  |nil=>exact Nat.le_refl _
  |cons x l ih=>
   have:=HF hn x;simp only[JK,Kl,Ju];omega
 have:=key (bL [] r.1) (by omega) r.1;have h1:zN (gA r)=((r.1.map (tw (bL [] r.1))).map bx).sum+bx r.2.1+(r.2.2.map bx).sum:=rfl;have h2:=Ay r;omega
theorem ue {r:Ru}(S:pb r)(hE:r.1.length<=900)(h:zN r<=1048576):pb (gA r):=by
 have hb:=C5 hE;refine⟨by unfold gA;rw[Km];omega,S.body,λe he=>?_,S.args,by omega⟩;obtain⟨x,hx,rfl⟩:=List.mem_map.1 he;have:=S.kids x hx;unfold tw
 split<;>exact this
section
variable (n:Nat)
theorem Gw (r:Ru)(S:pb r)(r7 r8:Ru)(x:Ex×List Ex)(K:Ru->Option Ru):∀(k i:Nat),i<=r.1.length->r.1.length - i<k->
  cb.l0 n r.1 (r.1.length:Int) r7 r8 K k (i:Int) (r.1.take i,x)=K (r.1,x)
 |0,i,_,hk=>bH hk (JJ _)
 |k+1,i,hi,hk=>by
  have hE:=S.exps
  by_cases h:i<r.1.length
  ·have hke:=S.kids _ (JI h)
   have ih:=Gw r S r7 r8 x K k (i+1) (by omega) (by omega);rw[JE h]at ih
   conv=>lhs;unfold cb.l0
   simp only[aE _ h,Kv];rw[ab (jq h),ab (inl' h),ab (by simp[aT];omega)];unfold j9.F;rw[Jn,ab (by simp[aT];omega),iX (by omega)];exact ih
  ·conv=>lhs;unfold cb.l0
   rw[ao (kl h),JR (by omega)]
theorem Gx (r:Ru)(S:pb r)(t16:Ru)(E:List Ex)(hd:Ex)(K:Ru->Option Ru):∀(k i:Nat),i<=r.2.2.length->r.2.2.length - i<k->
  cb.l1 n r.2.2 (r.2.2.length:Int) t16 K k (i:Int) (E,(hd,r.2.2.take i))=K (E,(hd,r.2.2))
 |0,i,_,hk=>bH hk (JJ _)
 |k+1,i,hi,hk=>by
  have hB:=S.body
  by_cases h:i<r.2.2.length
  ·have ih:=Gx r S t16 E hd K k (i+1) (by omega) (by omega)
   rw[JE h]at ih
   conv=>lhs;unfold cb.l1
   rw[ab (jq h),ab (inl' h),aE _ h,mr n _ (S.args _ (JP _ (JI h))),Jn,ab (by simp[aT];omega),iX (by omega)];exact ih
  ·conv=>lhs;unfold cb.l1
   rw[ao (kl h),JR (by omega)]
theorem qh (hn:1100000<=n)(r:Ru)(S:pb r):gk.F n r=some r:=by
 have hB:=S.body;have hE:=S.exps;unfold gk.F cb.F;rw[mr n _ (S.args _ JL),Jn];have e0:=λK=>Gw n r S r ([],(kX,[])) (r.2.1,[]) K n 0 (JO _) (by omega)
 simp only[KD,show((0:Nat):Int)=0 from rfl]at e0;rw[e0];have e1:=λK=>Gx n r S ([],(kX,[])) r.1 r.2.1 K n 0 (JO _) (by omega)
 simp only[KD,show((0:Nat):Int)=0 from rfl]at e1;rw[e1]
 rfl
theorem Gy (cs:List CN)(h1:cs.length<=1048576)(h2:∀c∈cs,c.2.length<=1048576)(t8:List TD)(t9 t10:Int)(t14 t15 t16:PP)(t17:TD)(K:List CN->Option PP):∀(k i:Nat),i<=cs.length->cs.length - i<k->
  ci.l1 n t8 t9 t10 cs (cs.length:Int) t14 t15 t16 t17 K k (i:Int) (cs.take i)=K cs
 |0,i,_,hk=>bH hk (JJ _)
 |k+1,i,hi,hk=>by
  by_cases h:i<cs.length
  ·have hc:=h2 _ (JI h)
   have ih:=Gy cs h1 h2 t8 t9 t10 t14 t15 t16 t17 K k (i+1) (by omega) (by omega);rw[JE h]at ih
   conv=>lhs;unfold ci.l1
   simp only[aE _ h,Kv];rw[ab (jq h),ab (inl' h),ab (by simp[aT];omega),ab (by simp[aT];omega),iX (by omega)];exact ih
  ·conv=>lhs;unfold ci.l1
   rw[ao (kl h),JR (by omega)]
theorem Gz (hn:1100000<=n)(p:PP)(S:zu p)(t5 t6:PP)(x:List RD×List Ru)(K:PP->Option PP):∀(k i:Nat),i<=p.1.length->p.1.length - i<k->
  ci.l0 n p.1 (p.1.length:Int) t5 t6 K k (i:Int) (p.1.take i,x)=K (p.1,x)
 |0,i,_,hk=>bH hk (JJ _)
 |k+1,i,hi,hk=>by
  have h1:=S.tys
  by_cases h:i<p.1.length
  ·have ih:=Gz hn p S t5 t6 x K k (i+1) (by omega) (by omega)
   rw[JE h]at ih;have hc:=S.cons _ (JI h)
   conv=>lhs;unfold ci.l0
   simp only[aE _ h];rw[ab (jq h),ab (inl' h)];have e:=λK=>Gy n (p.1[i]).2 hc (S.cty _ (JI h)) p.1 (p.1.length:Int) (i:Int) t5 t6 (p.1.take i,x) p.1[i] K n 0 (JO _) (by omega)
   simp only[KD,show((0:Nat):Int)=0 from rfl]at e;rw[e,ab (by simp[aT];omega),iX (by omega)];exact ih
  ·conv=>lhs;unfold ci.l0
   rw[ao (kl h),JR (by omega)]
theorem GA (p:PP)(S:zu p)(t5 t6:PP)(T:List TD)(U:List Ru)(K:PP->Option PP):∀(k i:Nat),i<=p.2.1.length->p.2.1.length - i<k->
  ci.l2 n p.2.1 (p.2.1.length:Int) t5 t6 K k (i:Int) (T,(p.2.1.take i,U))=K (T,(p.2.1,U))
 |0,i,_,hk=>bH hk (JJ _)
 |k+1,i,hi,hk=>by
  have h1:=S.rels
  by_cases h:i<p.2.1.length
  ·have ih:=GA p S t5 t6 T U K k (i+1) (by omega) (by omega)
   rw[JE h]at ih;have hc:=S.rty _ (JI h)
   conv=>lhs;unfold ci.l2
   simp only[aE _ h,Kv];rw[ab (jq h),ab (inl' h),ab (by simp[aT];omega),ab (by simp[aT];omega),iX (by omega)];exact ih
  ·conv=>lhs;unfold ci.l2
   rw[ao (kl h),JR (by omega)]
theorem GB (hn:1100000<=n)(p:PP)(S:zu p)(t5:PP)(T:List TD)(D:List RD)(K:PP->Option PP):∀(k i:Nat),i<=p.2.2.length->p.2.2.length - i<k->
  ci.l3 n p.2.2 (p.2.2.length:Int) t5 K k (i:Int) (T,(D,p.2.2.take i))=K (T,(D,p.2.2))
 |0,i,_,hk=>bH hk (JJ _)
 |k+1,i,hi,hk=>by
  have h1:=S.rules
  by_cases h:i<p.2.2.length
  ·have ih:=GB hn p S t5 T D K k (i+1) (by omega) (by omega)
   rw[JE h]at ih
   conv=>lhs;unfold ci.l3
   rw[ab (jq h),ab (inl' h),aE _ h,qh n hn _ (kU (S.rul _ (JI h))).toSmR,Jn,ab (by simp[aT];omega),iX (by omega)];exact ih
  ·conv=>lhs;unfold ci.l3
   rw[ao (kl h),JR (by omega)]
theorem xn (hn:1100000<=n)(p:PP)(S:zu p):ci.F n p=some p:=by
 unfold ci.F;have e0:=λK=>Gz n hn p S p P0 ([],[]) K n 0 (JO _) (by have:=S.tys;omega)
 have e2:=λT U K=>GA n p S p P0 T U K n 0 (JO _) (by have:=S.rels;omega)
 have e3:=λT D K=>GB n hn p S P0 T D K n 0 (JO _) (by have:=S.rules;omega)
 simp only[KD,show((0:Nat):Int)=0 from rfl]at e0 e2 e3;refine(e0 _).trans ?_;refine(e2 _ _ _).trans ?_;exact e3 _ _ _
theorem GC (p:PP)(S:zu p){a:Nat}(ha:a<p.1.length)(t9 t10:PP)(nm:ByteArray)(K:TD->Option PP):∀(k i:Nat),i<=(p.1[a]).2.length->(p.1[a]).2.length - i<k->
  cT.l1 n (a:Int) p t9 t10 K k (i:Int) (nm,(p.1[a]).2.take i)=K (nm,(p.1[a]).2)
 |0,i,_,hk=>bH hk (JJ _)
 |k+1,i,hi,hk=>by
  have h1:=S.cons _ (JI ha)
  by_cases h:i<(p.1[a]).2.length
  ·have hc:=S.cty _ (JI ha) _ (JI h)
   have ih:=GC p S ha t9 t10 nm K k (i+1) (by omega) (by omega);rw[JE h]at ih
   conv=>lhs;unfold cT.l1
   simp only[aE _ ha];simp only[aE _ h,Kv];rw[ab (inl' ha),ab (jq h)];simp only[ab (inl' ha),ab (inl' h)];rw[ab (by simp[aT];omega),ab (by simp[aT];omega),iX (by omega)];exact ih
  ·conv=>lhs;unfold cT.l1
   simp only[aE _ ha];rw[ab (inl' ha),ao (kl h),JR (by omega)]
theorem GD (hn:1100000<=n)(p:PP)(S:zu p)(t4:PP)(x:List RD×List Ru)(K:PP->Option PP):∀(k i:Nat),i<=p.1.length->p.1.length - i<k->
  cT.l0 n p t4 K k (i:Int) (p.1.take i,x)=K (p.1,x)
 |0,i,_,hk=>bH hk (JJ _)
 |k+1,i,hi,hk=>by
  have h1:=S.tys
  by_cases h:i<p.1.length
  ·have ih:=GD hn p S t4 x K k (i+1) (by omega) (by omega)
   rw[JE h]at ih;have hc:=S.cons _ (JI h)
   conv=>lhs;unfold cT.l0
   simp only[aE _ h];rw[ab (jq h),ab (inl' h)];have e:=λnm K=>GC n p S h t4 (p.1.take i,x) nm K n 0 (JO _) (by omega)
   simp only[KD,show((0:Nat):Int)=0 from rfl]at e;rw[e,ab (by simp[aT];omega),iX (by omega)];exact ih
  ·conv=>lhs;unfold cT.l0
   rw[ao (kl h),JR (by omega)]
theorem GF (p:PP)(S:zu p)(t4:PP)(T:List TD)(U:List Ru)(K:PP->Option PP):∀(k i:Nat),i<=p.2.1.length->p.2.1.length - i<k->
  cT.l2 n p t4 K k (i:Int) (T,(p.2.1.take i,U))=K (T,(p.2.1,U))
 |0,i,_,hk=>bH hk (JJ _)
 |k+1,i,hi,hk=>by
  have h1:=S.rels
  by_cases h:i<p.2.1.length
  ·have ih:=GF p S t4 T U K k (i+1) (by omega) (by omega)
   rw[JE h]at ih;have hc:=S.rty _ (JI h)
   conv=>lhs;unfold cT.l2
   simp only[aE _ h,Kv];rw[ab (jq h)];simp only[ab (inl' h)];rw[ab (by simp[aT];omega),ab (by simp[aT];omega),iX (by omega)];exact ih
  ·conv=>lhs;unfold cT.l2
   rw[ao (kl h),JR (by omega)]
theorem DA (hn:1100000<=n)(p:PP)(S:zu p):cT.F n p=some (p.1,(p.2.1,[])):=by
 unfold cT.F;have e0:=λK=>GD n hn p S P0 ([],[]) K n 0 (JO _) (by have:=S.tys;omega)
 have e2:=λT U K=>GF n p S P0 T U K n 0 (JO _) (by have:=S.rels;omega)
 simp only[KD,show((0:Nat):Int)=0 from rfl]at e0 e2;refine(e0 _).trans ?_;exact e2 _ _ _
end
def kg (c:Ru)(o:Ru):Bool:=decide (gA o=c)
def kF (acc:List Ru)(r:Ru):List Ru:=if acc.any (kg (gA r))=true then acc else acc++[r]
def iV (l:List Ru):List Ru:=l.foldl kF []
theorem xo (c:Ru):∀(l acc:List Ru),(l.foldl kF acc).any (kg c)=(acc.any (kg c)||l.any (kg c))
 |[],acc=>by simp
 |x::l,acc=>by
  rw[NC,xo c l,MN,← Bool.or_assoc]
  congr 1
  unfold kF
  by_cases h:acc.any (kg (gA x))=true
  ·rw[ab h]
   by_cases hx:kg c x=true
   ·have:gA x=c:=of_decide_eq_true hx
    rw[this]at h;rw[h,hx];rfl
   ·rw[JT.2 hx,Bool.or_false]
  ·rw[ao h,List.any_append]
   simp
theorem xp (c:Ru)(l:List Ru):(iV l).any (kg c)=l.any (kg c):=by
 unfold iV;rw[xo]
 rfl
theorem uf (l:List Ru)(r:Ru):iV (l++[r])=if l.any (kg (gA r))=true then iV l else iV l++[r]:=by
 have:iV (l++[r])=kF (iV l) r:=by unfold iV;rw[List.foldl_append];rfl
 rw[this];unfold kF;rw[xp]
theorem ss:∀(l acc:List Ru),(l.foldl kF acc).length<=acc.length+l.length
 |[],acc=>by simp
 |x::l,acc=>by
  have:=ss l (kF acc x);have h2:(kF acc x).length<=acc.length+1:=by unfold kF;split<;>simp
  simp only[NC,Ju];omega
theorem xq:∀(l acc:List Ru),((l.foldl kF acc).map (JC o9)).sum<=(acc.map (JC o9)).sum+(l.map (JC o9)).sum
 |[],acc=>by simp
 |x::l,acc=>by
  have:=xq l (kF acc x);have h2:((kF acc x).map (JC o9)).sum<=(acc.map (JC o9)).sum+JC o9 x:=by
   unfold kF
   split
   ·omega
   ·rw[Kx,List.sum_append];simp
  simp only[NC,JK,Kl];omega
section
variable {n:Nat}
structure Ie (p:PP):Prop where
 few:p.2.2.length<=40
 txt:∀r∈p.2.2,¬Kk (fP r) Jo=true
 exs:∀r∈p.2.2,r.1.length<=60
 blk:∀r∈p.2.2,JC o9 r<=1048576
theorem DB (hn:cZ<=n){p:PP}(F:Ie p){a b:Ru}(ha:a∈p.2.2)(hb:b∈p.2.2):lc.F n a b=some (kg (gA b) a):=by
 have hn':1100000<=n:=by unfold cZ at hn;omega
 have ba:=F.blk a ha;have bb:=F.blk b hb;have Sa:=(kU ba).toSmR;have Sb:=(kU bb).toSmR;have e1:=F.exs a ha;have e2:=F.exs b hb;have Sc:=ue Sa (by omega) (Az ba);have t1:=F.txt a ha;have t2:=F.txt b hb;unfold lc.F;rw[sf hn ba,Jn,ab (by simp[t1]),sf hn bb,Jn,ab (by simp[t2]),oZ n hn' a Sa (by omega),Jn,oZ n hn' b Sb (by omega),Jn,qB n hn' _ _ Sc,Jn]
 rfl
theorem DC (hn:cZ<=n){p:PP}(F:Ie p){a b:Ru}(ha:a∈p.2.2)(hb:b∈p.2.2):jo.F n a b=some (kg (gA b) a):=by
 have hn':1100000<=n:=by unfold cZ at hn;omega
 have ba:=F.blk a ha;have bb:=F.blk b hb;have Sa:=(kU ba).toSmR;have Sb:=(kU bb).toSmR;have e1:=F.exs a ha;have e2:=F.exs b hb;have Sc:=ue Sa (by omega) (Az ba);unfold jo.F;rw[oY n hn' a Sa (by omega),Jn,oY n hn' b Sb (by omega),Jn,qy n hn' _ _ Sc,Jn]
 rfl
theorem tu (q:Ru->Bool)(l:List Ru){j:Nat}(h:j<l.length):(l.take (j+1)).any q=((l.take j).any q||q l[j]):=by
 rw[JE h,List.any_append]
 simp
theorem AC (hn:cZ<=n){p:PP}(F:Ie p){i:Nat}(hi:i<p.2.2.length)(t12 out:PP)(K:Bool->Option PP):∀(k j:Nat),j<=i->i - j<k->
  iQ.l1 n (i:Int) p t12 out K k ((p.2.2.take j).any (kg (gA p.2.2[i]))) (j:Int)=K ((p.2.2.take i).any (kg (gA p.2.2[i])))
 |0,j,_,hk=>bH hk (JJ _)
 |k+1,j,hj,hk=>by
  have hf:=F.few
  conv=>lhs;unfold iQ.l1
  by_cases h:j<i
  ·have hj2:j<p.2.2.length:=by omega
   have ih:=AC hn F hi t12 out K k (j+1) (by omega) (by omega);rw[tu _ _ hj2]at ih;rw[ab (by simpa using h),iX (by omega)];cases hc:(p.2.2.take j).any (kg (gA p.2.2[i]))with
   |false=>
    rw[ab rfl,ab (inl' hj2),ab (inl' hi),aE _ hj2,aE _ hi,DB hn F (JI hj2) (JI hi),Jn];rw[hc,Bool.false_or]at ih;exact ih
   |true=>
    rw[ao (by simp)];rw[hc,Bool.true_or]at ih;exact ih
  ·have:j=i:=by omega
   subst this;rw[ao (by simp)]
theorem AD (hn:cZ<=n){p:PP}(F:Ie p)(t6:PP)(T:List TD)(D:List RD)(K:PP->Option PP):∀(k i:Nat),i<=p.2.2.length->p.2.2.length - i<k->
  iQ.l0 n p t6 K k (i:Int) (T,(D,iV (p.2.2.take i)))=K (T,(D,iV p.2.2))
 |0,i,_,hk=>bH hk (JJ _)
 |k+1,i,hi,hk=>by
  have hn':1100000<=n:=by unfold cZ at hn;omega
  have hf:=F.few
  conv=>lhs;unfold iQ.l0
  by_cases h:i<p.2.2.length
  ·have ih:=AD hn F t6 T D K k (i+1) (by omega) (by omega)
   rw[JE h,uf]at ih;rw[ab (jq h)];have e1:=λK=>AC hn F h t6 (T,(D,iV (p.2.2.take i))) K n 0 (JO _) (by omega)
   simp only[KD,List.any_nil,show((0:Nat):Int)=0 from rfl]at e1;rw[e1,iX (by omega)]
   by_cases hc:(p.2.2.take i).any (kg (gA p.2.2[i]))=true
   ·rw[ab hc]at ih
    rw[hc,ao (by simp)];exact ih
   ·rw[ao hc]at ih
    have hlen:=ss (p.2.2.take i) [];simp only[Jz,Lg]at hlen;have hl2:(iV (p.2.2.take i)).length<=100:=by unfold iV;omega
    rw[JT.2 hc,ab (by simp),ab (inl' h),aE _ h,Bh n hn' _ (kU (F.blk _ (JI h))).toSmR,Jn,ab (cC (by show(iV _).length<=_;omega))];exact ih
  ·rw[ao (kl h),JR (by omega)]
theorem xr (l:List Ru)(f:Ru×Unit->Option Bool)(q:Ru->Bool)(hf:∀x∈l,f (x,())=some (q x))(hl:l.length<=1048576):∀(k i:Nat),i<=l.length->l.length - i<k->
  ∃v,cS.l0 n l f (l.length:Int) (λ_=>some (-1)) k (i:Int)=some v/\decide (v>=0)=(l.drop i).any q
 |0,i,_,hk=>bH hk (JJ _)
 |k+1,i,hi,hk=>by
  unfold cS.l0
  by_cases h:i<l.length
  ·rw[ab (jq h),ab (inl' h),aE _ h,hf _ (JI h),Jn,JF h,MN]
   by_cases hq:q l[i]=true
   ·rw[ab hq]
    exact⟨_,rfl,by rw[hq,Bool.true_or];simp⟩
   ·rw[ao hq,iX (by omega),JT.2 hq,Bool.false_or]
    exact xr l f q hf hl k (i+1) (by omega) (by omega)
  ·rw[ao (kl h),JH (by omega)]
   exact⟨-1,rfl,rfl⟩
theorem tv (hn:cZ<=n)(l:List Ru)(f:Ru×Unit->Option Bool)(q:Ru->Bool)(hf:∀x∈l,f (x,())=some (q x))(hl:l.length<=1048576):cW.F n l f=some (l.any q):=by
 unfold cW.F cS.F;obtain⟨v,h1,h2⟩:=xr (n:=n) l f q hf hl n 0 (JO _) (by unfold cZ at hn;omega);rw[show((0:Nat):Int)=0 from rfl]at h1;rw[h1,Jn,h2,JW]
theorem xt:∀(l acc:List Ru) (x:Ru),x∈l.foldl kF acc->x∈acc\/x∈l
 |[],acc,x,h=>.inl h
 |y::l,acc,x,h=>by
  rcases xt l (kF acc y) x h with h|h
  ·unfold kF at h
   split at h
   ·exact .inl h
   ·rcases KM.1 h with h|h
    ·exact .inl h
    ·exact .inr (by rw[JZ.1 h];exact JL)
  ·exact .inr (JP _ h)
theorem xu (hn:cZ<=n){p:PP}(F:Ie p)(t7:PP)(T:List TD)(D:List RD)(K:PP->Option PP):∀(k i:Nat),i<=p.2.2.length->p.2.2.length - i<k->
  jn.l0 n p.2.2 (p.2.2.length:Int) t7 K k (i:Int) (T,(D,iV (p.2.2.take i)))=K (T,(D,iV p.2.2))
 |0,i,_,hk=>bH hk (JJ _)
 |k+1,i,hi,hk=>by
  have hn':1100000<=n:=by unfold cZ at hn;omega
  have hf:=F.few
  conv=>lhs;unfold jn.l0
  by_cases h:i<p.2.2.length
  ·have ih:=xu hn F t7 T D K k (i+1) (by omega) (by omega)
   rw[JE h,uf]at ih;have hlen:=ss (p.2.2.take i) [];simp only[Jz,Lg]at hlen;have hl2:(iV (p.2.2.take i)).length<=100:=by unfold iV;omega
   rw[ab (jq h),ab (inl' h),aE _ h];rw[tv hn (iV (p.2.2.take i)) _ (kg (gA p.2.2[i])) (λx hx=>by
    show(jo.F n x p.2.2[i]).bind some=_;have hx':x∈p.2.2:=by
     rcases xt (p.2.2.take i) [] x hx with h|h
     ·cases h
     ·exact List.mem_of_mem_take h
    rw[DC hn F hx' (JI h)]
    rfl) (by omega),Jn,xp,iX (by omega)]
   by_cases hc:(p.2.2.take i).any (kg (gA p.2.2[i]))=true
   ·rw[ab hc]at ih
    rw[hc,ao (by simp)];exact ih
   ·rw[ao hc]at ih
    rw[JT.2 hc,ab (by simp),qh n hn' _ (kU (F.blk _ (JI h))).toSmR,Jn,ab (cC (by show(iV _).length<=_;omega))];exact ih
  ·rw[ao (kl h),JR (by omega)]
theorem C6 (hn:cZ<=n)(p:PP)(hb:JC Hy p<=1048576):∃w,iQ.F n p=some w/\jn.F n p=some w/\JC Hy w<=1048576:=by
 have hn':1100000<=n:=by unfold cZ at hn;omega
 have S:=Dy hb;obtain⟨b,b1,b2,b3⟩:=Dz n hn p hb;unfold iQ.F jn.F;rw[b1,b2,Jn,Jn];cases b with
 |false=>exact⟨P0,rfl,rfl,by rw[oM];simp⟩
 |true=>
  obtain⟨c1,c2,c3,c4,c5⟩:=b3 rfl;have F:Ie p:=⟨c5,c2,λr hr=>(c1.2.2 r hr).1,S.rul⟩;rw[ao (by simp),ao (by simp),DA n hn' p S,xn n hn' p S,Jn,Jn];have e1:=λK=>AD hn F P0 p.1 p.2.1 K n 0 (JO _) (by omega)
  have e2:=λK=>xu hn F P0 p.1 p.2.1 K n 0 (JO _) (by omega)
  simp only[KD,show((0:Nat):Int)=0 from rfl,show iV []=[]from rfl]at e1 e2;refine⟨_,e1 _,e2 _,?_⟩;have:=xq p.2.2 [];rw[oM]at hb⊢;simp only[KG,List.sum_nil,Nat.zero_add]at this
  simp only
  unfold iV;omega
end
end Go.Abs
