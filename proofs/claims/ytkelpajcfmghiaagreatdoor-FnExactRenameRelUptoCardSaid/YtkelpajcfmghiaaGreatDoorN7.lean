/- A relation renamed: both sides. Conditions: none. -/
import Derived.Test.YtkelpajcfmghiaaGreatDoorK4
import Derived.Test.YtkelpajcfmghiaaGreatDoorY8
import Derived.Test.YtkelpajcfmghiaaGreatDoorMB
open Bool renaming eq_false_iff → JK,false_and → Li,false_eq_true → Jt,not_eq_true' → LM,true_and → Kf
open ByteArray renaming empty → Jd,size → Jf
open Function renaming comp → OX
open Go.Abs renaming seq → JL
open Go.Abs.Kd renaming bulk → Jr
open Go.IntKind renaming i64 → Jh
open Go.Lib renaming join → Kp,join_nil → N3
open Int renaming toNat → Jg,toNat_natCast → JD
open List renaming append_assoc → JO,append_nil → Kv,drop_eq_getElem_cons → Jv,drop_of_length_le → Jw,drop_zero → JN,flatten_cons → OY,getD → Ji,getD_eq_getElem?_getD → KB,getElem?_set_self → NT,getElem_mem → JB,length → Je,length_append → Jk,length_cons → Jj,length_map → JT,length_nil → Jo,length_pos_iff → Lj,length_take → KU,map_append → Kk,map_cons → Jy,map_map → Lc,map_nil → Kz,mem_append → KC,mem_cons_of_mem → JE,mem_cons_self → JA,mem_map → KG,mem_singleton → JQ,nil_append → Kg,set → Kl,sum_cons → JY,take_append_drop → KP,take_of_length_le → JI,take_succ_eq_append_getElem → Ju,take_zero → KD
open Nat renaming not_lt_zero → Jx,zero_le → JF
open Option renaming bind_some → Jc
open Prod renaming ext_iff → Mf
set_option linter.unusedVariables false
set_option linter.unusedSimpArgs false
namespace Go.Abs
theorem BB (sep:By)(l:List By)(x:By):Kp (l++[x]) sep=if l=[]then x else Kp l sep++sep++x:=by
 cases l with
 |nil=>simp[Lib.join_one]
 |cons y l=>simp[kG,jz]
theorem CV (sep:By)(l m:List By):∃t,Kp (l++m) sep=Kp l sep++t:=by
 cases l with
 |nil=>exact⟨Kp m sep,by simp[N3]⟩
 |cons x l=>exact⟨jz sep m,by simp[kG,jz]⟩
def St (s A:By):Prop:=s=A\/(3000<s.length/\3000<A.length)
theorem St.more {s A:By}(h:St s A)(hl:3000<s.length)(B:By):St s (A++B):=by
 right
 refine⟨hl,?_⟩;rcases h with rfl|h
 ·simp;omega
 ·simp;omega
theorem St.app {s A:By}(h:St s A)(t:By):St (s++t) (A++t):=by
 rcases h with rfl|h
 ·exact .inl rfl
 ·right;simp;omega
theorem St.pre {s A:By}(h:St s A)(t:By):St (t++s) (t++A):=by
 rcases h with rfl|h
 ·exact .inl rfl
 ·right;simp;omega
def CW (l:List ByteArray):By:=Kp (l.map (·.data.toList)) [44,32]
def kN (c:ByteArray×List ByteArray):By:=c.1.data.toList++(if c.2=[]then []else [40]++CW c.2++[41])
def yV (l:List (ByteArray×List ByteArray)):By:=Kp (l.map kN) [32,124,32]
def pq (t:TD):By:=[116,121,112,101,32]++t.1.data.toList++[32,61,32]
def If (t:TD):By:=pq t++yV t.2++[46,10]
def Hf (m:Int):By:=if m=1 then [32,105,110,112,117,116]else if m=2 then [32,111,117,116,112,117,116]else if m=3 then [32,105,110,108,105,110,101]else []
def Hg (r:RD):By:=[114,101,108,32]++r.1.data.toList++[40]++CW r.2.1++[41]++Hf r.2.2++[46,10]
noncomputable def HY (r:Ru):By:=(gh r).data.toList++[10]
def jC (l:List TD):By:=(l.map If).flatten
def gW (l:List RD):By:=(l.map Hg).flatten
noncomputable def jM (l:List Ru):By:=(l.map HY).flatten
noncomputable def lG (p:PP):By:=jC p.1++gW p.2.1++jM p.2.2
def CX (p:PP):Prop:=∀r∈p.2.1,0<=r.2.2/\r.2.2<=3
def BC (p:PP):Prop:=∀r∈p.2.2,¬JL (gh r) Jd=true
open Classical in
noncomputable def js (p:PP):ByteArray:=if CX p/\BC p/\(lG p).length<=3000 then bt (lG p)else Jd
theorem tF {p:PP}(h1:CX p)(h2:BC p)(h3:(lG p).length<=3000):js p=bt (lG p):=by unfold js;rw[ab ⟨h1,h2,h3⟩]
theorem jN {p:PP}(h:¬(lG p).length<=3000):js p=Jd:=by unfold js;rw[ao (λx=>h x.2.2)]
theorem wM {p:PP}(h:¬CX p):js p=Jd:=by unfold js;rw[ao (λx=>h x.1)]
theorem rS {p:PP}(h:¬BC p):js p=Jd:=by unfold js;rw[ao (λx=>h x.2.1)]
theorem rT (r:Ru):(gh r).size<=3000:=by
 unfold gh
 split
 ·rw[ah];exact(‹_/\_›).2
 ·simp
def wS (l:List ByteArray):Nat:=(l.map λs=>s.size+1).sum+1
def wC (c:ByteArray×List ByteArray):Nat:=c.1.size+1+wS c.2
def wT (t:TD):Nat:=t.1.size+1+((t.2.map wC).sum+1)
def wR (r:RD):Nat:=r.1.size+1+(wS r.2.1+1)
abbrev J7:Kd:=.sl .str
abbrev IW:Kd:=.st (.pair .str J7)
abbrev KTD:Kd:=.st (.pair .str (.sl IW))
abbrev KRD:Kd:=.st (.pair .str (.pair J7 (.int .i64)))
abbrev E5:Kd:=.st (.pair (.sl KTD) (.pair (.sl KRD) (.sl qF)))
theorem oC (p:PP):Jr E5 p=((p.1.map wT).sum+1)+(((p.2.1.map wR).sum+1)+((p.2.2.map (Jr qF)).sum+1)):=rfl
theorem rU {α:Type}(f:α->Nat):∀(l:List α) (i:Nat),((l.take i).map f).sum<=(l.map f).sum
 |[],i=>by simp
 |x::l,0=>by simp
 |x::l,i+1=>by have:=rU f l i;simp only[List.take_succ_cons,Jy,JY];omega
theorem dq {α:Type}(f:α->Nat)(h:∀x,1<=f x):∀l:List α,l.length<=(l.map f).sum
 |[]=>by simp
 |x::l=>by have:=dq f h l;have:=h x;simp only[Jy,JY,Jj];omega
theorem j9 {α:Type}(f:α->Nat):∀(l:List α) (x:α),x∈l->f x<=(l.map f).sum
 |y::l,x,h=>by
  simp only[Jy,JY];rcases List.mem_cons.1 h with rfl|h
  ·omega
  ·have:=j9 f l x h;omega
theorem oD (l:List ByteArray):(CW l).length<=3*wS l:=by
 unfold CW wS;rw[kf];have h1:((l.map (·.data.toList)).map Je).sum<=(l.map λs=>s.size+1).sum:=by
  rw[Lc]
  induction l with
  |nil=>simp
  |cons x l ih=>simp only[Jy,JY,OX];have:x.data.toList.length=x.size:=rfl;omega
 have h2:=dq (λs:ByteArray=>s.size+1) (λ_=>by omega) l;simp only[JT,Jj,Jo];omega
theorem CY (c:ByteArray×List ByteArray):(kN c).length<=3*wC c:=by
 unfold kN wC;have:=oD c.2;have h:c.1.data.toList.length=c.1.size:=rfl
 split<;>simp only[Jk,Jj,Jo]<;>omega
theorem pu (c:ByteArray×List ByteArray):1<=wC c:=by unfold wC;omega
theorem Ad (l:List (ByteArray×List ByteArray)):(yV l).length<=6*(l.map wC).sum:=by
 unfold yV;rw[kf];have h1:((l.map kN).map Je).sum<=3*(l.map wC).sum:=by
  rw[Lc]
  induction l with
  |nil=>simp
  |cons x l ih=>simp only[Jy,JY,OX];have:=CY x;omega
 have h2:=dq wC pu l;simp only[JT,Jj,Jo];omega
theorem EW (t:TD):(If t).length<=12*wT t:=by
 unfold If pq wT;have:=Ad t.2;have h:t.1.data.toList.length=t.1.size:=rfl;simp only[Jk,Jj,Jo];omega
theorem uW (m:Int):(Hf m).length<=7:=by
 unfold Hf
 split
 ·simp
 ·split
  ·simp
  ·split<;>simp
theorem EX (r:RD):(Hg r).length<=12*wR r:=by
 unfold Hg wR;have:=oD r.2.1;have:=uW r.2.2;have h:r.1.data.toList.length=r.1.size:=rfl;simp only[Jk,Jj,Jo];omega
theorem rV:∀l:List TD,(jC l).length<=12*(l.map wT).sum
 |[]=>by simp[jC]
 |t::l=>by have:=rV l;have:=EW t;unfold jC at*;simp only[Jy,OY,Jk,JY];omega
theorem pw:∀l:List RD,(gW l).length<=12*(l.map wR).sum
 |[]=>by simp[gW]
 |t::l=>by have:=pw l;have:=EX t;unfold gW at*;simp only[Jy,OY,Jk,JY];omega
theorem tG (l:List TD)(t:TD):jC (l++[t])=jC l++If t:=by simp[jC]
theorem rW (l:List RD)(t:RD):gW (l++[t])=gW l++Hg t:=by simp[gW]
theorem tH (l:List Ru)(t:Ru):jM (l++[t])=jM l++HY t:=by simp[jM]
theorem CZ (l m:List TD):jC (l++m)=jC l++jC m:=by simp[jC]
theorem BD (l m:List RD):gW (l++m)=gW l++gW m:=by simp[gW]
theorem wN (l m:List Ru):jM (l++m)=jM l++jM m:=by simp[jM]
section
variable {n:Nat}
theorem bz (s:ByteArray):s=bt s.data.toList:=jv s
theorem EY (s:ByteArray):s.size=s.data.toList.length:=rfl
theorem tI {α:Type}(sep:By)(f:α->By)(l:List α){i:Nat}(h:i<l.length):Kp ((l.take (i+1)).map f) sep=if i=0 then f l[i]else Kp ((l.take i).map f) sep++sep++f l[i]:=by
 rw[Ju h,Kk,Jy,Kz,BB]
 by_cases h0:i=0
 ·subst h0;simp
 ·rw[ao (λe=>by have:=congrArg Je e;simp only[JT,KU,Jo]at this;omega),ao h0]
theorem nA {α:Type}(sep:By)(f:α->By)(l:List α)(i:Nat):∃t,Kp (l.map f) sep=Kp ((l.take i).map f) sep++t:=by
 obtain⟨t,ht⟩:=CV sep ((l.take i).map f) ((l.drop i).map f);exact⟨t,by rw[← ht,← Kk,KP]⟩
theorem D0 {l:List ByteArray}{s:ByteArray}(h:s∈l):s.size+1<=wS l:=by
 have:=j9 (λs:ByteArray=>s.size+1) l s h;unfold wS;omega
theorem rX (l:List ByteArray)(hl:wS l<=1100000)(K:ByteArray->Option ByteArray):∀k i,i<=l.length->l.length - i<k->(Kp ((l.take i).map (·.data.toList)) [44,32]).length<=1200000->
  ∃s,fN.l0 n l K k (bt (Kp ((l.take i).map (·.data.toList)) [44,32])) (i:Int)=K (bt s)/\St s (CW l)/\s.length<=1200000
 |0,i,_,hk,_=>by omega
 |k+1,i,hi,hk,hs=>by
  have hlen:l.length<=wS l:=by have:=dq (λs:ByteArray=>s.size+1) (λ_=>by omega) l;unfold wS;omega
  generalize hA:Kp ((l.take i).map (·.data.toList)) [44,32]=A at hs;rw[fN.l0]
  by_cases h:i<l.length
  ·rw[ab (jj h)]
   by_cases h3:A.length<=3000
   ·rw[ab (by rw[ah,db];omega)]
    have hm:=D0 (JB h);have hT:=tI [44,32] (·.data.toList) l h;have hz:=EY l[i];unfold fN.j1;simp only[aN _ h]
    by_cases h0:i=0
    ·rw[ao (by simp[h0]),ab (inl' h),ab (by rw[ah];simp only[aU];omega),ja (by omega)]
     have hA0:A=[]:=by rw[← hA,h0];rfl
     have e:bt A++l[i]=bt (Kp ((l.take (i+1)).map (·.data.toList)) [44,32]):=by
      conv=>lhs;rw[bz l[i]]
      rw[ap,hT,ab h0,hA0,Kg]
     rw[e];exact rX l hl K k (i+1) h (by omega) (by rw[hT,ab h0];omega)
    ·rw[ab (by simp;omega),ab (by rw[ah];simp only[aU];show A.length+2<=_;omega),ab (inl' h),ab (by
      rw[show(⟨#[44,32]⟩:ByteArray)=bt [44,32]from rfl,ap,ah,Jk];simp only[aU,Jj,Jo];omega),ja (by omega)]
     have e:bt A++⟨#[44,32]⟩++l[i]=bt (Kp ((l.take (i+1)).map (·.data.toList)) [44,32]):=by
      conv=>lhs;rw[bz l[i]]
      rw[show(⟨#[44,32]⟩:ByteArray)=bt [44,32]from rfl,ap,ap,hT,ao h0,hA]
     rw[e];refine rX l hl K k (i+1) h (by omega) ?_;rw[hT,ao h0,hA];simp only[Jk,Jj,Jo];omega
   ·rw[ao (by rw[ah,db];omega)]
    obtain⟨t,ht⟩:=nA [44,32] (·.data.toList) l i;refine⟨A,rfl,?_,hs⟩;have e:CW l=A++t:=by unfold CW;rw[ht,hA]
    rw[e];exact(St.more (.inl rfl) (by omega) t)
  ·rw[ao (kl h)]
   refine⟨A,rfl,.inl ?_,hs⟩;rw[← hA,JI (by omega)]
   rfl
theorem D1 (hn:1200000<=n)(l:List ByteArray)(hl:wS l<=1100000):∃s,fN.F n l=some (bt s)/\St s (CW l)/\s.length<=1200000:=by
 have hlen:l.length<=wS l:=by have:=dq (λs:ByteArray=>s.size+1) (λ_=>by omega) l;unfold wS;omega
 obtain⟨s,h1,h2⟩:=rX (n:=n) l hl (λs10=>some s10) n 0 (JF _) (by omega) (by simp[N3]);exact⟨s,h1,h2⟩
theorem Ae (hn:1200000<=n)(c:ByteArray×List ByteArray)(hc:wC c<=1100000)(A:By)(hA:A.length<=4000)(a b:Int)(p:PP)(Kn:ByteArray->Option ByteArray):
  ∃s,bA.j4 n (bt A) a b p c Kn=Kn (bt (A++s))/\St s (kN c)/\s.length<=2400000:=by
 unfold wC at hc;have hz:=EY c.1;unfold bA.j4;rw[ab (by rw[ah];simp only[aU];omega)];have e:bt A++c.1=bt (A++c.1.data.toList):=by conv=>lhs;rw[bz c.1];rw[ap]
 by_cases h:c.2=[]
 ·rw[ao (by simp[h]),e]
  refine⟨c.1.data.toList,rfl,.inl ?_,by omega⟩;unfold kN;rw[ab h,Kv]
 ·obtain⟨s,h1,h2,h3⟩:=D1 hn c.2 (by omega)
  have hp:0<c.2.length:=Lj.2 h;rw[ab (by simp;omega),e,show(⟨#[40]⟩:ByteArray)=bt [40]from rfl,show(⟨#[41]⟩:ByteArray)=bt [41]from rfl,ab (by simp only[ah,Jk,Jj,Jo,aU];omega),h1,Jc,
   ab (by simp only[ap,ah,Jk,Jj,Jo,aU];omega),ab (by simp only[ap,ah,Jk,Jj,Jo,aU];omega)]
  simp only[ap];refine⟨c.1.data.toList++([40]++s++[41]),by simp only[JO],?_,by simp only[Jk,Jj,Jo];omega⟩;unfold kN;rw[ao h];exact((h2.pre [40]).app [41]).pre _
theorem px (hn:1200000<=n)(p:PP){a:Nat}(ha:a<p.1.length)(hw:wT p.1[a]<=1100000)(A:By)(K:ByteArray->Option ByteArray):∀k j s,j<=(p.1[a]).2.length->(p.1[a]).2.length - j<k->s.length<=3000000->St s (A++yV ((p.1[a]).2.take j))->
  ∃s',bA.l2 n (a:Int) p K k (bt s) (j:Int)=K (bt s')/\St s' (A++yV (p.1[a]).2)/\s'.length<=3000000
 |0,j,s,_,hk,_,_=>by omega
 |k+1,j,s,hj,hk,hs,hst=>by
  unfold wT at hw;have hlen:=dq wC pu (p.1[a]).2;rw[bA.l2,ab (inl' ha)];simp only[aN _ ha];obtain⟨t,ht⟩:=nA [32,124,32] kN (p.1[a]).2 j;have hcs:yV (p.1[a]).2=yV ((p.1[a]).2.take j)++t:=ht
  by_cases h:j<(p.1[a]).2.length
  ·rw[ab (jj h)]
   by_cases h3:s.length<=3000
   ·rw[ab (by rw[ah,db];omega)]
    have hex:s=A++yV ((p.1[a]).2.take j):=by
     rcases hst with hst|hst
     ·exact hst
     ·omega
    have hc:=j9 wC (p.1[a]).2 _ (JB h);have hT:yV ((p.1[a]).2.take (j+1))=if j=0 then kN (p.1[a]).2[j]else yV ((p.1[a]).2.take j)++[32,124,32]++kN (p.1[a]).2[j]:=tI [32,124,32] kN (p.1[a]).2 h
    unfold bA.j3;simp only[aN _ ha];rw[ab (inl' ha),ab (inl' h),aN _ h]
    by_cases h0:j=0
    ·rw[ao (by simp[h0])]
     obtain⟨s1,e1,e2,e3⟩:=Ae hn (p.1[a]).2[j] (by omega) s (by omega) (a:Int) (j:Int) p (λt23=>bA.l2 n (a:Int) p K k t23 (Jh.wrap ((j:Int)+1)));rw[e1,ja (by omega)];refine px hn p ha (by unfold wT;omega) A K k (j+1) _ h (by omega) (by simp only[Jk];omega) ?_;rw[hT,ab h0,hex];have:yV ((p.1[a]).2.take j)=[]:=by rw[h0];rfl
     rw[this,Kv];exact e2.pre A
    ·rw[ab (by simp;omega),show(⟨#[32,124,32]⟩:ByteArray)=bt [32,124,32]from rfl,ab (by simp only[ah,Jj,Jo,aU];omega),ap]
     obtain⟨s1,e1,e2,e3⟩:=Ae hn (p.1[a]).2[j] (by omega) (s++[32,124,32]) (by simp;omega) (a:Int) (j:Int) p (λt22=>bA.l2 n (a:Int) p K k t22 (Jh.wrap ((j:Int)+1)));rw[e1,ja (by omega)];refine px hn p ha (by unfold wT;omega) A K k (j+1) _ h (by omega) (by simp only[Jk,Jj,Jo];omega) ?_;rw[hT,ao h0,hex];have:=e2.pre (A++yV ((p.1[a]).2.take j)++[32,124,32]);simp only[JO]at this⊢;exact this
   ·rw[ao (by rw[ah,db];omega)]
    refine⟨s,rfl,?_,hs⟩;rw[hcs,← JO];exact hst.more (by omega) t
  ·rw[ao (kl h)]
   refine⟨s,rfl,?_,hs⟩;rw[JI (by omega)]at hst;exact hst
theorem types_loop' (hn:1200000<=n)(p:PP)(hw:(p.1.map wT).sum<=1100000)(K:ByteArray->Option ByteArray)(R:Option ByteArray)(hK:∀s,s.length<=4000000->St s (jC p.1)->K (bt s)=R):∀k i s,i<=p.1.length->p.1.length - i<k->s.length<=4000000->St s (jC (p.1.take i))->
  bA.l0 n p K k (bt s) (i:Int)=R
 |0,i,s,_,hk,_,_=>by omega
 |k+1,i,s,hi,hk,hs,hst=>by
  have hlen:=dq wT (λt=>by unfold wT;omega) p.1;rw[bA.l0]
  by_cases h:i<p.1.length
  ·rw[ab (jj h)]
   by_cases h3:s.length<=3000
   ·rw[ab (by rw[ah,db];omega)]
    have hex:s=jC (p.1.take i):=by
     rcases hst with hst|hst
     ·exact hst
     ·omega
    have hc:=j9 wT p.1 _ (JB h);have hcl:=dq wC pu (p.1[i]).2;have hc':wT p.1[i]=(p.1[i]).1.size+1+(((p.1[i]).2.map wC).sum+1):=rfl;have hz:=EY (p.1[i]).1;unfold bA.j1;simp only[aN _ h];have e:∀x:By,bt x++(p.1[i]).1=bt (x++(p.1[i]).1.data.toList):=λx=>by conv=>lhs;rw[bz (p.1[i]).1];rw[ap]
    rw[show(⟨#[116,121,112,101,32]⟩:ByteArray)=bt [116,121,112,101,32]from rfl,show(⟨#[32,61,32]⟩:ByteArray)=bt [32,61,32]from rfl,ab (by simp only[ah,Jj,Jo,aU];omega),ab (inl' h),ap,
     ab (by simp only[ah,Jk,Jj,Jo,aU];omega),e,ab (by simp only[ah,Jk,Jj,Jo,aU];omega),ap]
    obtain⟨s',e1,e2,e3⟩:=px hn p h (by omega) (s++pq p.1[i]) (λt26=>
      if Jf t26+Jf ⟨#[46,10]⟩<=aU then bA.l0 n p K k (t26++⟨#[46,10]⟩) (Jh.wrap ((i:Int)+1))else none) n 0 (s++pq p.1[i]) (JF _) (by omega) (by unfold pq;simp only[Jk,Jj,Jo];omega) (.inl (by simp[yV,N3]))
    refine Eq.trans (b:=_) ?_ (e1.trans ?_)
    ·unfold pq;simp only[JO];rfl
    ·rw[show(⟨#[46,10]⟩:ByteArray)=bt [46,10]from rfl,ab (by simp only[ah,Jj,Jo,aU];omega),ap,ja (by omega)]
     refine types_loop' hn p hw K R hK k (i+1) _ h (by omega) (by simp only[Jk,Jj,Jo];omega) ?_;rw[Ju h,tG,← hex];have:=e2.app [46,10];unfold If;simp only[JO]at this⊢;exact this
   ·rw[ao (by rw[ah,db];omega)]
    refine hK s hs ?_;have:jC p.1=jC (p.1.take i)++jC (p.1.drop i):=by rw[← CZ,KP]
    rw[this];exact hst.more (by omega) _
  ·rw[ao (kl h)]
   refine hK s hs ?_;rw[JI (by omega)]at hst;exact hst
theorem Hh {m:Int}(h:0<=m/\m<=3):Ji ([Jd,⟨#[32,105,110,112,117,116]⟩,⟨#[32,111,117,116,112,117,116]⟩,⟨#[32,105,110,108,105,110,101]⟩]:List ByteArray) (Jg m) Jd=bt (Hf m):=by
 obtain⟨h0,h1⟩:=h;have:m=0\/m=1\/m=2\/m=3:=by omega
 rcases this with rfl|rfl|rfl|rfl<;>rfl
theorem rels_loop' (hn:1200000<=n)(p:PP)(hw:(p.2.1.map wR).sum<=1100000)(K:ByteArray->Option ByteArray)(A:By)
  (hK:∀s,s.length<=4000000->St s (A++gW p.2.1)->(CX p\/3000<s.length)->K (bt s)=some (js p)):∀k i s,i<=p.2.1.length->p.2.1.length - i<k->s.length<=4000000->St s (A++gW (p.2.1.take i))->
  ((∀r∈p.2.1.take i,0<=r.2.2/\r.2.2<=3)\/3000<s.length)->bA.l5 n p K k (bt s) (i:Int)=some (js p)
 |0,i,s,_,hk,_,_,_=>by omega
 |k+1,i,s,hi,hk,hs,hst,hm=>by
  have hlen:=dq wR (λt=>by unfold wR;omega) p.2.1;rw[bA.l5]
  by_cases h:i<p.2.1.length
  ·rw[ab (jj h)]
   by_cases h3:s.length<=3000
   ·rw[ab (by rw[ah,db];omega)]
    have hex:s=A++gW (p.2.1.take i):=by
     rcases hst with hst|hst
     ·exact hst
     ·omega
    have hm':∀r∈p.2.1.take i,0<=r.2.2/\r.2.2<=3:=by
     rcases hm with hm|hm
     ·exact hm
     ·omega
    have hc:=j9 wR p.2.1 _ (JB h);have hc':wR p.2.1[i]=(p.2.1[i]).1.size+1+(wS (p.2.1[i]).2.1+1):=rfl;have hz:=EY (p.2.1[i]).1;unfold bA.j6;simp only[aN _ h];rw[ab (inl' h),dz,Jc]
    by_cases hmd:0<=(p.2.1[i]).2.2/\(p.2.1[i]).2.2<=3
    ·obtain⟨l,l1,l2,l3⟩:=D1 hn (p.2.1[i]).2.1 (by omega)
     have hml:=uW (p.2.1[i]).2.2;have e:∀x:By,bt x++(p.2.1[i]).1=bt (x++(p.2.1[i]).1.data.toList):=λx=>by conv=>lhs;rw[bz (p.2.1[i]).1];rw[ap]
     rw[ao (by simp[hmd]),show(⟨#[114,101,108,32]⟩:ByteArray)=bt [114,101,108,32]from rfl,show(⟨#[40]⟩:ByteArray)=bt [40]from rfl,show(⟨#[41]⟩:ByteArray)=bt [41]from rfl,show(⟨#[46,10]⟩:ByteArray)=bt [46,10]from rfl,
      ab (by simp only[ah,Jj,Jo,aU];omega),ab (inl' h),ap,ab (by simp only[ah,Jk,Jj,Jo,aU];omega),e,
      ab (by simp only[ah,Jk,Jj,Jo,aU];omega),ab (inl' h),l1,Jc,ap,ab (by simp only[ah,Jk,Jj,Jo,aU];omega),ap,
      ab (by simp only[ah,Jk,Jj,Jo,aU];omega),ab (inl' h),ab (by simp;omega),Hh hmd,ap,ab (by simp only[ah,Jk,Jj,Jo,aU];omega),ap,
      ab (by simp only[ah,Jk,Jj,Jo,aU];omega),ap,ja (by omega)]
     refine rels_loop' hn p hw K A hK k (i+1) _ h (by omega) (by simp only[Jk,Jj,Jo];omega) ?_ (.inl ?_)
     ·rw[Ju h,rW,← JO,← hex]
      have:=(l2.pre (s++([114,101,108,32]++((p.2.1[i]).1.data.toList++[40])))).app ([41]++(Hf (p.2.1[i]).2.2++[46,10]));unfold Hg;simp only[JO]at this⊢;exact this
     ·intro r hr
      rw[Ju h]at hr;rcases KC.1 hr with hr|hr
      ·exact hm' r hr
      ·rw[JQ.1 hr];exact hmd
    ·rw[ab (by simp only[LM,vk];exact hmd),wM (λx=>hmd (x _ (JB h)))]
   ·rw[ao (by rw[ah,db];omega)]
    refine hK s hs ?_ (.inr (by omega));have:gW p.2.1=gW (p.2.1.take i)++gW (p.2.1.drop i):=by rw[← BD,KP]
    rw[this,← JO];exact hst.more (by omega) _
  ·rw[ao (kl h)]
   rw[JI (by omega)]at hst hm;exact hK s hs hst hm
theorem rules_loop' (hn:dh<=n)(p:PP)(hw:(p.2.2.map (Jr qF)).sum<=1048576)(K:ByteArray->Option ByteArray)(A:By)
  (hK:∀s,s.length<=4000000->St s (A++jM p.2.2)->(BC p\/3000<s.length)->K (bt s)=some (js p)):∀k i s,i<=p.2.2.length->p.2.2.length - i<k->s.length<=4000000->St s (A++jM (p.2.2.take i))->
  ((∀r∈p.2.2.take i,¬JL (gh r) Jd=true)\/3000<s.length)->bA.l7 n p K k (bt s) (i:Int)=some (js p)
 |0,i,s,_,hk,_,_,_=>by omega
 |k+1,i,s,hi,hk,hs,hst,hm=>by
  have hlen:=dq (Jr qF) (λt=>kb qF t) p.2.2;rw[bA.l7]
  by_cases h:i<p.2.2.length
  ·rw[ab (jj h)]
   by_cases h3:s.length<=3000
   ·rw[ab (by rw[ah,db];omega)]
    have hex:s=A++jM (p.2.2.take i):=by
     rcases hst with hst|hst
     ·exact hst
     ·omega
    have hm':∀r∈p.2.2.take i,¬JL (gh r) Jd=true:=by
     rcases hm with hm|hm
     ·exact hm
     ·omega
    have hc:=j9 (Jr qF) p.2.2 _ (JB h);unfold bA.j8;rw[ab (inl' h),aN _ h,CU hn (by omega),Jc]
    by_cases he:JL (gh p.2.2[i]) Jd=true
    ·rw[ab he,rS (λx=>x _ (JB h) he)]
    ·have hz:=rT p.2.2[i]
     have hz':=EY (gh p.2.2[i]);have e:bt s++gh p.2.2[i]=bt (s++(gh p.2.2[i]).data.toList):=by conv=>lhs;rw[bz (gh p.2.2[i])];rw[ap]
     rw[ao he,ab (by rw[ah];simp only[aU];omega),e,show(⟨#[10]⟩:ByteArray)=bt [10]from rfl,ab (by simp only[ah,Jk,Jj,Jo,aU];omega),ap,ja (by omega)];refine rules_loop' hn p hw K A hK k (i+1) _ h (by omega) (by simp only[Jk,Jj,Jo];omega) ?_ (.inl ?_)
     ·rw[Ju h,tH,← JO,← hex]
      unfold HY;rw[JO];exact .inl rfl
     ·intro r hr
      rw[Ju h]at hr;rcases KC.1 hr with hr|hr
      ·exact hm' r hr
      ·rw[JQ.1 hr];exact he
   ·rw[ao (by rw[ah,db];omega)]
    refine hK s hs ?_ (.inr (by omega));have:jM p.2.2=jM (p.2.2.take i)++jM (p.2.2.drop i):=by rw[← wN,KP]
    rw[this,← JO];exact hst.more (by omega) _
  ·rw[ao (kl h)]
   rw[JI (by omega)]at hst hm;exact hK s hs hst hm
theorem uX (hn:dh<=n)(p:PP)(hb:Jr E5 p<=1048576):bA.F n p=some (js p):=by
 have hn1:100000000<=n:=by unfold dh at hn;omega
 rw[oC]at hb;have h1:=dq wT (λt=>by unfold wT;omega) p.1;have h2:=dq wR (λt=>by unfold wR;omega) p.2.1;have h3:=dq (Jr qF) (λt=>kb qF t) p.2.2;unfold bA.F;refine types_loop' (by omega) p (by omega) _ _ ?_ n 0 [] (JF _) (by omega) (by simp) (.inl (by simp[jC]));intro s hs hst;refine rels_loop' (by omega) p (by omega) _ (jC p.1) ?_ n 0 s (JF _) (by omega) hs (by simpa[gW]using hst) (.inl (by simp));intro s2 hs2 hst2 hmd;have hP:lG p=jC p.1++gW p.2.1++jM p.2.2:=rfl;rcases hmd with hmd|hlong
 rotate_left
 ·obtain⟨g,rfl⟩:∃g,n=g+1:=⟨n - 1,by omega⟩
  have hl:¬(lG p).length<=3000:=by
   rw[hP];have:=(hst2.more hlong (jM p.2.2));rcases this with e|e
   ·rw[← e];omega
   ·omega
  rw[bA.l7]
  by_cases h0:0<p.2.2.length
  ·rw[ab (by simpa using h0),ao (by rw[ah,db];omega),ab (by rw[ah,db];omega),jN hl]
  ·rw[ao (by simpa using h0),ab (by rw[ah,db];omega),jN hl]
 refine rules_loop' hn p (by omega) _ (jC p.1++gW p.2.1) ?_ n 0 s2 (JF _) (by omega) hs2 (by simpa[jM]using hst2) (.inl (by simp));intro s3 hs3 hst3 hrl;rw[← hP]at hst3;rcases hst3 with rfl|⟨h5,h6⟩
 ·by_cases h5:(lG p).length<=3000
  ·rw[ao (by rw[ah,db];omega),tF ?_ ?_ h5]
   ·exact hmd
   ·rcases hrl with hrl|hrl
    ·exact hrl
    ·omega
  ·rw[ab (by rw[ah,db];omega),jN h5]
 ·rw[ab (by rw[ah,db];omega),jN (by omega)]
end
section
variable {n:Nat}
theorem FW (l:List ByteArray)(sep:By)(h1:l.length<=aU)(h2:(Kp (l.map (·.data.toList)) sep).length<=aU):cJ.F n l (bt sep)=some (bt (Kp (l.map (·.data.toList)) sep)):=by
 unfold cJ.F;rw[ez sep,ab ⟨h1,h2⟩]
 rfl
theorem FX (l:List ByteArray)(hl:wS l<=1100000):cJ.F n l (bt [44,32])=some (bt (CW l)):=by
 have hlen:=dq (λs:ByteArray=>s.size+1) (λ_=>by omega) l;have h:=oD l;have hw:wS l=(l.map λs=>s.size+1).sum+1:=rfl;refine FW l [44,32] (by simp only[aU];omega) ?_;show(CW l).length<=aU;simp only[aU];omega
theorem J8 (cs:List (ByteArray×List ByteArray))(hw:(cs.map wC).sum<=1100000)(t7:ByteArray)(t8:List TD)(t9 t10:Int)(t14:PP)(t15:TD)(K:List ByteArray->Option ByteArray):∀k j,j<=cs.length->cs.length - j<k->
  cW.l1 n t7 t8 t9 t10 cs (cs.length:Int) t14 t15 K k (j:Int) (((cs.take j).map kN).map bt)=K ((cs.map kN).map bt)
 |0,j,_,hk=>by omega
 |k+1,j,hj,hk=>by
  have hlen:=dq wC pu cs;rw[cW.l1]
  by_cases h:j<cs.length
  ·have hc:=j9 wC cs _ (JB h)
   have hc':wC cs[j]=(cs[j]).1.size+1+wS (cs[j]).2:=rfl;have hz:=EY (cs[j]).1;have hls:=oD (cs[j]).2;have ih:=J8 cs hw t7 t8 t9 t10 t14 t15 K k (j+1) h (by omega);rw[Ju h,Kk,Kk,Jy,Kz,Jy,Kz]at ih;rw[ab (jj h),ab (inl' h)];simp only[aN _ h];have lm:∀x:ByteArray,(((cs.take j).map kN).map bt).length+[x].length<=aU:=λx=>by simp only[JT,KU,Jj,Jo,aU];omega
   by_cases h0:(cs[j]).2=[]
   ·rw[ao (by simp[h0]),ab (lm _),ja (by omega)]
    have e:kN cs[j]=(cs[j]).1.data.toList:=by unfold kN;rw[ab h0,Kv]
    rw[e,← bz]at ih;exact ih
   ·have hp:0<(cs[j]).2.length:=Lj.2 h0
    rw[ab (by simp;omega),show(⟨#[44,32]⟩:ByteArray)=bt [44,32]from rfl,FX _ (by omega),Jc,show(⟨#[40]⟩:ByteArray)=bt [40]from rfl,show(⟨#[41]⟩:ByteArray)=bt [41]from rfl,
     ab (by simp only[ah,Jj,Jo,aU];omega),ap,ab (by simp only[ah,Jk,Jj,Jo,aU];omega),ap,
     ab (by rw[hz];simp only[ah,Jk,Jj,Jo,aU];omega),ab (lm _),ja (by omega)]
    have e:(cs[j]).1++bt ([40]++CW (cs[j]).2++[41])=bt (kN cs[j]):=by
     conv=>lhs;rw[bz (cs[j]).1]
     rw[ap];unfold kN;rw[ao h0]
    rw[e];exact ih
  ·rw[ao (kl h),JI (by omega)]
theorem Ig (hn:1200000<=n)(l:List TD)(hw:(l.map wT).sum<=1100000)(t6:PP)(K:ByteArray->Option ByteArray):∀k i,i<=l.length->l.length - i<k->
  cW.l0 n l (l.length:Int) t6 K k (bt (jC (l.take i))) (i:Int)=K (bt (jC l))
 |0,i,_,hk=>by omega
 |k+1,i,hi,hk=>by
  have hlen:=dq wT (λt=>by unfold wT;omega) l;rw[cW.l0]
  by_cases h:i<l.length
  ·have hc:=j9 wT l _ (JB h)
   have hc':wT l[i]=(l[i]).1.size+1+(((l[i]).2.map wC).sum+1):=rfl;have hcl:=dq wC pu (l[i]).2;have hz:=EY (l[i]).1;have hcs:=Ad (l[i]).2;have hty:=rV (l.take i);have hty2:=rU wT l i;have ih:=Ig hn l hw t6 K k (i+1) h (by omega);rw[Ju h,tG]at ih;rw[ab (jj h),ab (inl' h)];simp only[aN _ h];have e1:=λK=>J8 (n:=n) (l[i]).2 (by omega) (bt (jC (l.take i))) l (l.length:Int) (i:Int) t6 l[i] K n 0 (JF _) (by omega)
   simp only[KD,Kz,show((0:Nat):Int)=0 from rfl]at e1;rw[e1];have ej:cJ.F n (((l[i]).2.map kN).map bt) ⟨#[32,124,32]⟩=some (bt (yV (l[i]).2)):=by
    have em:(((l[i]).2.map kN).map bt).map (·.data.toList)=(l[i]).2.map kN:=by
     rw[Lc]
     conv=>rhs;rw[← List.map_id ((l[i]).2.map kN)]
     exact List.map_congr_left λa _=>ez a
    have:=FW (n:=n) (((l[i]).2.map kN).map bt) [32,124,32] (by simp only[JT,aU];omega) (by rw[em];show(yV (l[i]).2).length<=aU;simp only[aU];omega);rw[em]at this;exact this
   have e:∀x:By,bt x++(l[i]).1=bt (x++(l[i]).1.data.toList):=λx=>by conv=>lhs;rw[bz (l[i]).1];rw[ap]
   rw[show(⟨#[116,121,112,101,32]⟩:ByteArray)=bt [116,121,112,101,32]from rfl,show(⟨#[32,61,32]⟩:ByteArray)=bt [32,61,32]from rfl,show(⟨#[46,10]⟩:ByteArray)=bt [46,10]from rfl,
    ab (by rw[hz];simp only[ah,Jj,Jo,aU];omega),e,ab (by simp only[ah,Jk,Jj,Jo,aU];omega),ej,Jc,ap,
    ab (by simp only[ah,Jk,Jj,Jo,aU];omega),ap,ab (by simp only[ah,Jk,Jj,Jo,aU];omega),ap,
    ab (by simp only[ah,Jk,Jj,Jo,aU];omega),ap,ja (by omega)]
   exact ih
  ·rw[ao (kl h),JI (by omega)]
theorem FY (hn:1200000<=n)(p:PP)(hw:(p.2.1.map wR).sum<=1100000)(A:By)(hA:A.length<=20000000)(t25:PP)(K:ByteArray->Option ByteArray)(hK:CX p->K (bt (A++gW p.2.1))=some (js p)):∀k i,i<=p.2.1.length->p.2.1.length - i<k->(∀r∈p.2.1.take i,0<=r.2.2/\r.2.2<=3)->
  cW.l2 n p.2.1 (p.2.1.length:Int) t25 K k (bt (A++gW (p.2.1.take i))) (i:Int)=some (js p)
 |0,i,_,hk,_=>by omega
 |k+1,i,hi,hk,hm=>by
  have hlen:=dq wR (λt=>by unfold wR;omega) p.2.1;rw[cW.l2]
  by_cases h:i<p.2.1.length
  ·have hc:=j9 wR p.2.1 _ (JB h)
   have hc':wR p.2.1[i]=(p.2.1[i]).1.size+1+(wS (p.2.1[i]).2.1+1):=rfl;have hz:=EY (p.2.1[i]).1;have hls:=oD (p.2.1[i]).2.1;have hml:=uW (p.2.1[i]).2.2;have hty:=pw (p.2.1.take i);have hty2:=rU wR p.2.1 i;rw[ab (jj h),ab (inl' h)];simp only[aN _ h];rw[DA,Jc]
   by_cases hmd:0<=(p.2.1[i]).2.2/\(p.2.1[i]).2.2<=3
   ·have ih:=FY hn p hw A hA t25 K hK k (i+1) h (by omega) (by
     intro r hr;rw[Ju h]at hr;rcases KC.1 hr with hr|hr
     ·exact hm r hr
     ·rw[JQ.1 hr];exact hmd)
    rw[Ju h,rW]at ih;have e:∀x:By,bt x++(p.2.1[i]).1=bt (x++(p.2.1[i]).1.data.toList):=λx=>by conv=>lhs;rw[bz (p.2.1[i]).1];rw[ap]
    rw[ao (by simp[hmd]),show(⟨#[114,101,108,32]⟩:ByteArray)=bt [114,101,108,32]from rfl,show(⟨#[40]⟩:ByteArray)=bt [40]from rfl,show(⟨#[41]⟩:ByteArray)=bt [41]from rfl,show(⟨#[46,10]⟩:ByteArray)=bt [46,10]from rfl,show(⟨#[44,32]⟩:ByteArray)=bt [44,32]from rfl,show(⟨#[32]⟩:ByteArray)=bt [32]from rfl,
     ab (by rw[hz];simp only[ah,Jj,Jo,aU];omega),e,ab (by simp only[ah,Jk,Jj,Jo,aU];omega),FX _ (by omega),Jc,ap,
     ab (by simp only[ah,Jk,Jj,Jo,aU];omega),ap,ab (by simp only[ah,Jk,Jj,Jo,aU];omega),ap,
     ab (by simp only[ah,Jk,Jj,Jo,aU];omega),ap]
    by_cases h0:(p.2.1[i]).2.2=0
    ·rw[ao (by simp[h0]),ab (by simp only[ah,Jk,Jj,Jo,aU];omega),ap,ja (by omega)]
     have em:Hf (p.2.1[i]).2.2=[]:=by rw[h0];rfl
     unfold Hg at ih;rw[em]at ih;simp only[JO,Kg]at ih⊢;exact ih
    ·have em:bt [32]++Ji ([Jd,⟨#[105,110,112,117,116]⟩,⟨#[111,117,116,112,117,116]⟩,⟨#[105,110,108,105,110,101]⟩]:List ByteArray) (Jg (p.2.1[i]).2.2) Jd=bt (Hf (p.2.1[i]).2.2)/\(Ji ([Jd,⟨#[105,110,112,117,116]⟩,⟨#[111,117,116,112,117,116]⟩,⟨#[105,110,108,105,110,101]⟩]:List ByteArray) (Jg (p.2.1[i]).2.2) Jd).size<=6:=by
      have:(p.2.1[i]).2.2=1\/(p.2.1[i]).2.2=2\/(p.2.1[i]).2.2=3:=by omega
      rcases this with e|e|e<;>rw[e]<;>exact⟨rfl,by decide⟩
     rw[ab (by simp[h0])];unfold fk.F;rw[Jc,ab (by simp;omega),ab (by have:=em.2;simp only[ah,Jj,Jo,aU];omega),em.1,ab (by simp only[ah,Jk,Jj,Jo,aU];omega),ap,
      ab (by simp only[ah,Jk,Jj,Jo,aU];omega),ap,ja (by omega)]
     unfold Hg at ih;simp only[JO]at ih⊢;exact ih
   ·rw[ab (by simp only[LM,vk];exact hmd),wM (λx=>hmd (x _ (JB h)))]
  ·rw[ao (kl h),JI (by omega)]
   rw[JI (by omega)]at hm;exact hK hm
theorem D2 (hn:dh<=n)(p:PP)(hw:(p.2.2.map (Jr qF)).sum<=1048576)(A:By)(hP:lG p=A++jM p.2.2)(hA:A.length<=40000000)(K:ByteArray->Option ByteArray)(hK:BC p->K (bt (lG p))=some (js p)):∀k i,i<=p.2.2.length->p.2.2.length - i<k->(∀r∈p.2.2.take i,¬JL (gh r) Jd=true)->(A++jM (p.2.2.take i)).length<=50000000->
  cW.l3 n p.2.2 (p.2.2.length:Int) K k (bt (A++jM (p.2.2.take i))) (i:Int)=some (js p)
 |0,i,_,hk,_,_=>by omega
 |k+1,i,hi,hk,hm,hs=>by
  have hlen:=dq (Jr qF) (λt=>kb qF t) p.2.2;rw[cW.l3]
  by_cases h:i<p.2.2.length
  ·have hc:=j9 (Jr qF) p.2.2 _ (JB h)
   rw[ab (jj h),ab (inl' h),aN _ h,xF n (by unfold dh at hn;omega) _ (pp (by omega)).toSmR,Jc]
   by_cases he:JL (gh p.2.2[i]) Jd=true
   ·rw[ao (by rw[he];simp),rS (λx=>x _ (JB h) he)]
   ·rw[ab (JK.2 he)]
    by_cases h3:(A++jM (p.2.2.take i)).length<=3000
    ·have hz:=rT p.2.2[i]
     have hz':=EY (gh p.2.2[i]);have ih:=D2 hn p hw A hP hA K hK k (i+1) h (by omega) (by
      intro r hr;rw[Ju h]at hr;rcases KC.1 hr with hr|hr
      ·exact hm r hr
      ·rw[JQ.1 hr];exact he)
     rw[Ju h,tH]at ih;have e:gh p.2.2[i]++⟨#[10]⟩=bt (HY p.2.2[i]):=by
      have:=ap (gh p.2.2[i]).data.toList [10];rw[← bz]at this;exact this
     have hr:(HY p.2.2[i]).length<=3001:=by unfold HY;simp only[Jk,Jj,Jo];omega
     rw[ao (by rw[ah,db];omega),ab (by simp only[aU];show(gh p.2.2[i]).size+1<=4294967296;omega),e,ab (by rw[ah,ah];simp only[aU];omega),ap,ja (by omega)];rw[JO];exact ih (by rw[← JO,Jk];omega)
    ·have hl:¬(lG p).length<=3000:=by
      have:jM p.2.2=jM (p.2.2.take i)++jM (p.2.2.drop i):=by rw[← wN,KP]
      rw[hP,this,← JO,Jk];omega
     rw[ab (by rw[ah,db];omega),jN hl]
  ·rw[ao (kl h),JI (by omega),← hP]
   rw[JI (by omega)]at hm;exact hK hm
theorem uY (hn:dh<=n)(p:PP)(hb:Jr E5 p<=1048576):cW.F n p=some (js p):=by
 have hn1:100000000<=n:=by unfold dh at hn;omega
 rw[oC]at hb;have h1:=dq wT (λt=>by unfold wT;omega) p.1;have h2:=dq wR (λt=>by unfold wR;omega) p.2.1;have h3:=dq (Jr qF) (λt=>kb qF t) p.2.2;have l1:=rV p.1;have l2:=pw p.2.1;unfold cW.F;have e0:=λK=>Ig (n:=n) (by omega) p.1 (by omega) p K n 0 (JF _) (by omega)
 simp only[KD,show((0:Nat):Int)=0 from rfl,show jC []=[]from rfl]at e0;refine(e0 _).trans ?_;have hP:lG p=(jC p.1++gW p.2.1)++jM p.2.2:=rfl;have e1:=λK hK=>FY (n:=n) (by omega) p (by omega) (jC p.1) (by omega) p K hK n 0 (JF _) (by omega) (by simp)
 simp only[KD,show((0:Nat):Int)=0 from rfl,show gW []=[]from rfl,Kv]at e1;refine e1 _ λhmd=>?_
 have e2:=λK hK=>D2 (n:=n) hn p (by omega) (jC p.1++gW p.2.1) hP (by rw[Jk];omega) K hK n 0 (JF _) (by omega) (by simp) (by simp only[KD,show jM []=[]from rfl,Kv,Jk];omega)
 simp only[KD,show((0:Nat):Int)=0 from rfl,show jM []=[]from rfl,Kv]at e2;refine e2 _ λhrl=>?_
 by_cases h5:(lG p).length<=3000
 ·rw[ao (by rw[ah,db];omega),tF hmd hrl h5]
 ·rw[ab (by rw[ah,db];omega),jN h5]
end
instance decRu:DecidableEq Ru:=λx y=>inferInstance
instance decRus:DecidableEq (List Ru):=inferInstance
instance decRR:DecidableEq (List RD×List Ru):=λx y=>inferInstance
instance decPP:DecidableEq PP:=λx y=>inferInstance
section
variable (n:Nat)
theorem G0 (a b:List ByteArray)(hab:a.length=b.length)(ha:a.length<=1048576):∀(k i:Nat),i<=a.length->a.length - i<k->fP.l0 n a b (λ_=>some true) k (i:Int)=some (decide (a.drop i=b.drop i))
 |0,i,_,hk=>bJ hk (Jx _)
 |k+1,i,hi,hk=>by
  by_cases h:i<a.length
  ·have h2:i<b.length:=by omega
   conv=>lhs;unfold fP.l0
   rw[ab (jj h),ab (inl' h),ab (inl' h2),aN _ h,aN _ h2,ir,Jv h,Jv h2]
   by_cases e:a[i]=b[i]
   ·rw[ao (by simp[e]),ja (by omega),G0 a b hab ha k (i+1) (by omega) (by omega),dL,iN e,Kf]
   ·rw[ab (by simp[e]),dL,dp e,Li]
  ·conv=>lhs;unfold fP.l0
   rw[ao (kl h),Jw (by omega),Jw (by omega)]
   rfl
theorem Hi (hn:1100000<=n)(a b:List ByteArray)(ha:a.length<=1048576):fP.F n a b=some (decide (a=b)):=by
 unfold fP.F
 by_cases hab:a.length=b.length
 ·rw[ao (by simp[hab])]
  have:=G0 n a b hab ha n 0 (JF _) (by omega);rw[show((0:Nat):Int)=0 from rfl,JN,JN]at this;exact this
 ·have:¬(a.length:Int)=(b.length:Int):=by omega
  rw[ab (by simp[this]),dp (λe=>hab (by rw[e]))]
theorem G1 (a b:List ByteArray)(hab:a.length=b.length)(ha:a.length<=1048576):∀(k i:Nat),i<=a.length->a.length - i<k->bC.l0 n a b (a.length:Int) (λ_=>some true) k (i:Int)=some (decide (a.drop i=b.drop i))
 |0,i,_,hk=>bJ hk (Jx _)
 |k+1,i,hi,hk=>by
  by_cases h:i<a.length
  ·have h2:i<b.length:=by omega
   conv=>lhs;unfold bC.l0
   rw[ab (jj h),ab (inl' h),ab (inl' h2),aN _ h,aN _ h2,ir,Jv h,Jv h2]
   by_cases e:a[i]=b[i]
   ·rw[ao (by simp[e]),ja (by omega),G1 a b hab ha k (i+1) (by omega) (by omega),dL,iN e,Kf]
   ·rw[ab (by simp[e]),dL,dp e,Li]
  ·conv=>lhs;unfold bC.l0
   rw[ao (kl h),Jw (by omega),Jw (by omega)]
   rfl
theorem D3 (hn:1100000<=n)(a b:List ByteArray)(ha:a.length<=1048576):bC.F n a b=some (decide (a=b)):=by
 unfold bC.F
 by_cases hab:a.length=b.length
 ·rw[ao (by simp[hab])]
  have:=G1 n a b hab ha n 0 (JF _) (by omega);rw[show((0:Nat):Int)=0 from rfl,JN,JN]at this;exact this
 ·have:¬(a.length:Int)=(b.length:Int):=by omega
  rw[ab (by simp[this]),dp (λe=>hab (by rw[e]))]
theorem D4 (hn:1100000<=n)(a b:List ByteArray)(ha:a.length<=1048576):ig.F n a b=some (decide (a=b)):=by
 unfold ig.F;rw[Hi n hn a b ha]
 rfl
abbrev CN:Type:=ByteArray×List ByteArray
theorem G2 (a b:List CN)(f:CN×CN×Unit->Option Bool)(hf:∀x∈a,∀y,f (x,y,())=some (decide (x=y)))(hab:a.length=b.length)(ha:a.length<=1048576):∀(k i:Nat),i<=a.length->a.length - i<k->bu.l0 n b f a (a.length:Int) (λ_=>some true) k (i:Int)=some (decide (a.drop i=b.drop i))
 |0,i,_,hk=>bJ hk (Jx _)
 |k+1,i,hi,hk=>by
  by_cases h:i<a.length
  ·have h2:i<b.length:=by omega
   conv=>lhs;unfold bu.l0
   rw[ab (jj h),ab (inl' h),ab (inl' h2),aN _ h,aN _ h2,hf _ (JB h),Jc,Jv h,Jv h2]
   by_cases e:a[i]=b[i]
   ·rw[ao (by simp[e]),ja (by omega),G2 a b f hf hab ha k (i+1) (by omega) (by omega),dL,iN e,Kf]
   ·rw[ab (by simp[e]),dL,dp e,Li]
  ·conv=>lhs;unfold bu.l0
   rw[ao (kl h),Jw (by omega),Jw (by omega)]
   rfl
theorem Hj (hn:1100000<=n)(a b:List CN)(f:CN×CN×Unit->Option Bool)(hf:∀x∈a,∀y,f (x,y,())=some (decide (x=y)))(ha:a.length<=1048576):bu.F n a b f=some (decide (a=b)):=by
 unfold bu.F
 by_cases hab:a.length=b.length
 ·rw[ao (by simp[hab])]
  have:=G2 n a b f hf hab ha n 0 (JF _) (by omega);rw[show((0:Nat):Int)=0 from rfl,JN,JN]at this;exact this
 ·have:¬(a.length:Int)=(b.length:Int):=by omega
  rw[ab (by simp[this]),dp (λe=>hab (by rw[e]))]
theorem G4 (a b:List TD)(f:TD×TD×Unit->Option Bool)(hf:∀x∈a,∀y,f (x,y,())=some (decide (x=y)))(hab:a.length=b.length)(ha:a.length<=1048576):∀(k i:Nat),i<=a.length->a.length - i<k->aF.l0 n b f a (a.length:Int) (λ_=>some true) k (i:Int)=some (decide (a.drop i=b.drop i))
 |0,i,_,hk=>bJ hk (Jx _)
 |k+1,i,hi,hk=>by
  by_cases h:i<a.length
  ·have h2:i<b.length:=by omega
   conv=>lhs;unfold aF.l0
   rw[ab (jj h),ab (inl' h),ab (inl' h2),aN _ h,aN _ h2,hf _ (JB h),Jc,Jv h,Jv h2]
   by_cases e:a[i]=b[i]
   ·rw[ao (by simp[e]),ja (by omega),G4 a b f hf hab ha k (i+1) (by omega) (by omega),dL,iN e,Kf]
   ·rw[ab (by simp[e]),dL,dp e,Li]
  ·conv=>lhs;unfold aF.l0
   rw[ao (kl h),Jw (by omega),Jw (by omega)]
   rfl
theorem Hk (hn:1100000<=n)(a b:List TD)(f:TD×TD×Unit->Option Bool)(hf:∀x∈a,∀y,f (x,y,())=some (decide (x=y)))(ha:a.length<=1048576):aF.F n a b f=some (decide (a=b)):=by
 unfold aF.F
 by_cases hab:a.length=b.length
 ·rw[ao (by simp[hab])]
  have:=G4 n a b f hf hab ha n 0 (JF _) (by omega);rw[show((0:Nat):Int)=0 from rfl,JN,JN]at this;exact this
 ·have:¬(a.length:Int)=(b.length:Int):=by omega
  rw[ab (by simp[this]),dp (λe=>hab (by rw[e]))]
theorem G5 (a b:List RD)(f:RD×RD×Unit->Option Bool)(hf:∀x∈a,∀y,f (x,y,())=some (decide (x=y)))(hab:a.length=b.length)(ha:a.length<=1048576):∀(k i:Nat),i<=a.length->a.length - i<k->aK.l0 n b f a (a.length:Int) (λ_=>some true) k (i:Int)=some (decide (a.drop i=b.drop i))
 |0,i,_,hk=>bJ hk (Jx _)
 |k+1,i,hi,hk=>by
  by_cases h:i<a.length
  ·have h2:i<b.length:=by omega
   conv=>lhs;unfold aK.l0
   rw[ab (jj h),ab (inl' h),ab (inl' h2),aN _ h,aN _ h2,hf _ (JB h),Jc,Jv h,Jv h2]
   by_cases e:a[i]=b[i]
   ·rw[ao (by simp[e]),ja (by omega),G5 a b f hf hab ha k (i+1) (by omega) (by omega),dL,iN e,Kf]
   ·rw[ab (by simp[e]),dL,dp e,Li]
  ·conv=>lhs;unfold aK.l0
   rw[ao (kl h),Jw (by omega),Jw (by omega)]
   rfl
theorem Hl (hn:1100000<=n)(a b:List RD)(f:RD×RD×Unit->Option Bool)(hf:∀x∈a,∀y,f (x,y,())=some (decide (x=y)))(ha:a.length<=1048576):aK.F n a b f=some (decide (a=b)):=by
 unfold aK.F
 by_cases hab:a.length=b.length
 ·rw[ao (by simp[hab])]
  have:=G5 n a b f hf hab ha n 0 (JF _) (by omega);rw[show((0:Nat):Int)=0 from rfl,JN,JN]at this;exact this
 ·have:¬(a.length:Int)=(b.length:Int):=by omega
  rw[ab (by simp[this]),dp (λe=>hab (by rw[e]))]
theorem G6 (a b:List Ru)(f:Ru×Ru×Unit->Option Bool)(hf:∀x∈a,∀y,f (x,y,())=some (decide (x=y)))(hab:a.length=b.length)(ha:a.length<=1048576):∀(k i:Nat),i<=a.length->a.length - i<k->bj.l0 n b f a (a.length:Int) (λ_=>some true) k (i:Int)=some (decide (a.drop i=b.drop i))
 |0,i,_,hk=>bJ hk (Jx _)
 |k+1,i,hi,hk=>by
  by_cases h:i<a.length
  ·have h2:i<b.length:=by omega
   conv=>lhs;unfold bj.l0
   rw[ab (jj h),ab (inl' h),ab (inl' h2),aN _ h,aN _ h2,hf _ (JB h),Jc,Jv h,Jv h2]
   by_cases e:a[i]=b[i]
   ·rw[ao (by simp[e]),ja (by omega),G6 a b f hf hab ha k (i+1) (by omega) (by omega),dL,iN e,Kf]
   ·rw[ab (by simp[e]),dL,dp e,Li]
  ·conv=>lhs;unfold bj.l0
   rw[ao (kl h),Jw (by omega),Jw (by omega)]
   rfl
theorem Hm (hn:1100000<=n)(a b:List Ru)(f:Ru×Ru×Unit->Option Bool)(hf:∀x∈a,∀y,f (x,y,())=some (decide (x=y)))(ha:a.length<=1048576):bj.F n a b f=some (decide (a=b)):=by
 unfold bj.F
 by_cases hab:a.length=b.length
 ·rw[ao (by simp[hab])]
  have:=G6 n a b f hf hab ha n 0 (JF _) (by omega);rw[show((0:Nat):Int)=0 from rfl,JN,JN]at this;exact this
 ·have:¬(a.length:Int)=(b.length:Int):=by omega
  rw[ab (by simp[this]),dp (λe=>hab (by rw[e]))]
theorem lH {α β:Type} [DecidableEq α] [DecidableEq β](x y:α×β):decide (x=y)=(decide (x.1=y.1)&&decide (x.2=y.2)):=by
 obtain⟨a,b⟩:=x;obtain⟨d,e⟩:=y
 by_cases h1:a=d<;>by_cases h2:b=e<;>simp[h1,h2]
theorem IX (hn:1100000<=n)(x y:CN)(hx:x.2.length<=1048576):eO.F n x y=some (decide (x=y)):=by
 unfold eO.F;rw[D3 n hn _ _ hx,ir,lH];cases decide (x.1=y.1)<;>cases decide (x.2=y.2)<;>rfl
theorem iTD (hn:1100000<=n)(x y:TD)(hx:x.2.length<=1048576)(hx2:∀c∈x.2,c.2.length<=1048576):fC.F n x y=some (decide (x=y)):=by
 unfold fC.F;rw[Hj n hn x.2 y.2 _ (λc hc d=>by
  show((eO.F n c d).bind some)=_;rw[IX n hn c d (hx2 c hc)]
  rfl) hx,ir,lH]
 cases decide (x.1=y.1)<;>cases decide (x.2=y.2)<;>rfl
theorem iRD (hn:1100000<=n)(x y:RD)(hx:x.2.1.length<=1048576):fB.F n x y=some (decide (x=y)):=by
 unfold fB.F;rw[D3 n hn _ _ hx,ir,lH,lH];cases decide (x.1=y.1)<;>cases decide (x.2.1=y.2.1)<;>cases decide (x.2.2=y.2.2)<;>rfl
structure wP (p:PP):Prop where
 tys:p.1.length<=1048576
 cons:∀t∈p.1,t.2.length<=1048576
 cty:∀t∈p.1,∀c∈t.2,c.2.length<=1048576
 rels:p.2.1.length<=1048576
 rty:∀r∈p.2.1,r.2.1.length<=1048576
 rules:p.2.2.length<=1048576
 rul:∀r∈p.2.2,Jr qF r<=1048576
theorem D5 {p:PP}(hb:Jr E5 p<=1048576):wP p:=by
 rw[oC]at hb;have h1:=dq wT (λt=>by unfold wT;omega) p.1;have h2:=dq wR (λt=>by unfold wR;omega) p.2.1;have h3:=dq (Jr qF) (λt=>kb qF t) p.2.2;have hS:∀l:List ByteArray,l.length<=wS l:=λl=>by have:=dq (λs:ByteArray=>s.size+1) (λ_=>by omega) l;unfold wS;omega
 refine⟨by omega,λt ht=>?_,λt ht c hc=>?_,by omega,λr hr=>?_,by omega,λr hr=>?_⟩
 ·have a1:=j9 wT p.1 t ht
  have a2:wT t=t.1.size+1+((t.2.map wC).sum+1):=rfl;have a3:=dq wC pu t.2;omega
 ·have a1:=j9 wT p.1 t ht
  have a2:wT t=t.1.size+1+((t.2.map wC).sum+1):=rfl;have a3:=j9 wC t.2 c hc;have a4:wC c=c.1.size+1+wS c.2:=rfl;have:=hS c.2;omega
 ·have a1:=j9 wR p.2.1 r hr
  have a2:wR r=r.1.size+1+(wS r.2.1+1):=rfl;have:=hS r.2.1;omega
 ·have a1:=j9 (Jr qF) p.2.2 r hr
  omega
theorem BE (hn:1100000<=n)(p q:PP)(S:wP p):iW.F n p q=some (decide (p=q)):=by
 unfold iW.F;rw[Hk n hn p.1 q.1 _ (λc hc d=>by
  show((fC.F n c d).bind some)=_;rw[iTD n hn c d (S.cons c hc) (S.cty c hc)]
  rfl) S.tys,Hl n hn p.2.1 q.2.1 _ (λc hc d=>by
  show((fB.F n c d).bind some)=_;rw[iRD n hn c d (S.rty c hc)]
  rfl) S.rels,Hm n hn p.2.2 q.2.2 _ (λc hc d=>by
  show((ii.F n c d).bind some)=_;rw[xN n hn c d (pp (S.rul c hc)).toSmR]
  rfl) S.rules,lH p q,lH p.2 q.2]
 cases decide (p.1=q.1)<;>cases decide (p.2.1=q.2.1)<;>cases decide (p.2.2=q.2.2)<;>rfl
theorem lf {α:Type}{a b:List α}{i:Nat}(h:i<a.length)(h2:i<b.length):a.drop i=b.drop i↔a[i]=b[i]/\a.drop (i+1)=b.drop (i+1):=by
 rw[Jv h,Jv h2,sI]
theorem wQ (hn:1100000<=n)(p q:PP)(S:wP p){a:Nat}(ha:a<p.1.length)(ha2:a<q.1.length)(hab:(p.1[a]).2.length=(q.1[a]).2.length)(K:Unit->Option Bool):∀(k i:Nat),i<=(p.1[a]).2.length->(p.1[a]).2.length - i<k->cd.l3 n (a:Int) p q K k (i:Int)=if(p.1[a]).2.drop i=(q.1[a]).2.drop i then K ()else some false
 |0,i,_,hk=>bJ hk (Jx _)
 |k+1,i,hi,hk=>by
  have hc:=S.cons _ (JB ha)
  by_cases h:i<(p.1[a]).2.length
  ·have h2:i<(q.1[a]).2.length:=by omega
   conv=>lhs;unfold cd.l3
   simp only[aN _ ha,aN _ ha2];simp only[aN _ h,aN _ h2];rw[ab (inl' ha),ab (jj h)];simp only[ab (inl' ha),ab (inl' ha2),ab (inl' h),ab (inl' h2)];rw[D4 n hn _ _ (S.cty _ (JB ha) _ (JB h)),Jc,ir,ja (by omega),wQ hn p q S ha ha2 hab K k (i+1) (by omega) (by omega)];have e:=lf h h2;have e2:(p.1[a]).2[i]=(q.1[a]).2[i]↔((p.1[a]).2[i]).1=((q.1[a]).2[i]).1/\((p.1[a]).2[i]).2=((q.1[a]).2[i]).2:=Mf
   by_cases c1:((p.1[a]).2[i]).1=((q.1[a]).2[i]).1
   ·rw[ab (by simp[c1])]
    by_cases c2:((p.1[a]).2[i]).2=((q.1[a]).2[i]).2
    ·rw[ao (by simp[c2])]
     by_cases c3:(p.1[a]).2.drop (i+1)=(q.1[a]).2.drop (i+1)
     ·rw[ab c3,ab (e.2 ⟨e2.2 ⟨c1,c2⟩,c3⟩)]
     ·rw[ao c3,ao (λx=>c3 (e.1 x).2)]
    ·rw[ab (by simp[c2]),ao (λx=>c2 (e2.1 (e.1 x).1).2)]
   ·rw[ao (by simp[c1]),ao (λx=>c1 (e2.1 (e.1 x).1).1)]
  ·conv=>lhs;unfold cd.l3
   simp only[aN _ ha];rw[ab (inl' ha),ao (kl h),Jw (by omega),Jw (by omega),ab rfl]
theorem wU (hn:1100000<=n)(p q:PP)(S:wP p)(hab:p.1.length=q.1.length)(K:Unit->Option Bool):∀(k i:Nat),i<=p.1.length->p.1.length - i<k->cd.l1 n p q K k (i:Int)=if p.1.drop i=q.1.drop i then K ()else some false
 |0,i,_,hk=>bJ hk (Jx _)
 |k+1,i,hi,hk=>by
  have hc:=S.tys
  by_cases h:i<p.1.length
  ·have h2:i<q.1.length:=by omega
   have hcc:=S.cons _ (JB h)
   conv=>lhs;unfold cd.l1
   simp only[aN _ h,aN _ h2];rw[ab (jj h)];simp only[ab (inl' h),ab (inl' h2)];have e:=lf h h2;have e2:p.1[i]=q.1[i]↔(p.1[i]).1=(q.1[i]).1/\(p.1[i]).2=(q.1[i]).2:=Mf;rw[ir]
   by_cases c1:(p.1[i]).1=(q.1[i]).1
   ·rw[ab (by simp[c1])]
    by_cases cl:(p.1[i]).2.length=(q.1[i]).2.length
    ·rw[ao (by simp[cl])]
     unfold cd.j2;have e3:=λK=>wQ n hn p q S h h2 cl K n 0 (JF _) (by omega)
     simp only[show((0:Nat):Int)=0 from rfl,JN]at e3;rw[e3,ja (by omega),wU hn p q S hab K k (i+1) (by omega) (by omega)]
     by_cases c2:(p.1[i]).2=(q.1[i]).2
     ·rw[ab c2]
      by_cases c3:p.1.drop (i+1)=q.1.drop (i+1)
      ·rw[ab c3,ab (e.2 ⟨e2.2 ⟨c1,c2⟩,c3⟩)]
      ·rw[ao c3,ao (λx=>c3 (e.1 x).2)]
     ·rw[ao c2,ao (λx=>c2 (e2.1 (e.1 x).1).2)]
    ·have:¬((p.1[i]).2.length:Int)=((q.1[i]).2.length:Int):=by omega
     rw[ab (by simp[this]),ao (λx=>cl (by rw[(e2.1 (e.1 x).1).2]))]
   ·rw[ao (by simp[c1]),ao (λx=>c1 (e2.1 (e.1 x).1).1)]
  ·conv=>lhs;unfold cd.l1
   rw[ao (kl h),Jw (by omega),Jw (by omega),ab rfl]
theorem wV (hn:1100000<=n)(p q:PP)(S:wP p)(hab:p.2.1.length=q.2.1.length)(K:Unit->Option Bool):∀(k i:Nat),i<=p.2.1.length->p.2.1.length - i<k->cd.l4 n p q K k (i:Int)=if p.2.1.drop i=q.2.1.drop i then K ()else some false
 |0,i,_,hk=>bJ hk (Jx _)
 |k+1,i,hi,hk=>by
  have hc:=S.rels
  by_cases h:i<p.2.1.length
  ·have h2:i<q.2.1.length:=by omega
   conv=>lhs;unfold cd.l4
   simp only[aN _ h,aN _ h2];rw[ab (jj h)];simp only[ab (inl' h),ab (inl' h2)];have e:=lf h h2;have e2:p.2.1[i]=q.2.1[i]↔(p.2.1[i]).1=(q.2.1[i]).1/\(p.2.1[i]).2.1=(q.2.1[i]).2.1/\(p.2.1[i]).2.2=(q.2.1[i]).2.2:=by rw[Mf,Mf]
   rw[ir,D4 n hn _ _ (S.rty _ (JB h)),Jc,ja (by omega),wV hn p q S hab K k (i+1) (by omega) (by omega)]
   by_cases c1:(p.2.1[i]).1=(q.2.1[i]).1
   ·rw[ab (by simp[c1])]
    by_cases c2:(p.2.1[i]).2.2=(q.2.1[i]).2.2
    ·rw[ab (by simp[c2])]
     by_cases c4:(p.2.1[i]).2.1=(q.2.1[i]).2.1
     ·rw[ao (by simp[c4])]
      by_cases c3:p.2.1.drop (i+1)=q.2.1.drop (i+1)
      ·rw[ab c3,ab (e.2 ⟨e2.2 ⟨c1,c4,c2⟩,c3⟩)]
      ·rw[ao c3,ao (λx=>c3 (e.1 x).2)]
     ·rw[ab (by simp[c4]),ao (λx=>c4 (e2.1 (e.1 x).1).2.1)]
    ·rw[ao (by simp[c2]),ao (λx=>c2 (e2.1 (e.1 x).1).2.2)]
   ·rw[ao (by simp[c1]),ao (λx=>c1 (e2.1 (e.1 x).1).1)]
  ·conv=>lhs;unfold cd.l4
   rw[ao (kl h),Jw (by omega),Jw (by omega),ab rfl]
theorem wW (hn:1100000<=n)(p q:PP)(S:wP p)(hab:p.2.2.length=q.2.2.length)(K:Unit->Option Bool):∀(k i:Nat),i<=p.2.2.length->p.2.2.length - i<k->cd.l5 n p q K k (i:Int)=if p.2.2.drop i=q.2.2.drop i then K ()else some false
 |0,i,_,hk=>bJ hk (Jx _)
 |k+1,i,hi,hk=>by
  have hc:=S.rules
  by_cases h:i<p.2.2.length
  ·have h2:i<q.2.2.length:=by omega
   conv=>lhs;unfold cd.l5
   rw[ab (jj h),ab (inl' h),ab (inl' h2),aN _ h,aN _ h2,xO n hn _ _ (pp (S.rul _ (JB h))).toSmR,Jc,ja (by omega),wW hn p q S hab K k (i+1) (by omega) (by omega)];have e:=lf h h2
   by_cases c2:p.2.2[i]=q.2.2[i]
   ·rw[ao (by simp[c2])]
    by_cases c3:p.2.2.drop (i+1)=q.2.2.drop (i+1)
    ·rw[ab c3,ab (e.2 ⟨c2,c3⟩)]
    ·rw[ao c3,ao (λx=>c3 (e.1 x).2)]
   ·rw[ab (by simp[c2]),ao (λx=>c2 (e.1 x).1)]
  ·conv=>lhs;unfold cd.l5
   rw[ao (kl h),Jw (by omega),Jw (by omega),ab rfl]
theorem BF (hn:1100000<=n)(p q:PP)(S:wP p):cd.F n p q=some (decide (p=q)):=by
 unfold cd.F;have e:p=q↔p.1=q.1/\p.2.1=q.2.1/\p.2.2=q.2.2:=by rw[Mf,Mf]
 by_cases h1:p.1.length=q.1.length
 ·rw[ab (by simp[h1])]
  by_cases h2:p.2.1.length=q.2.1.length
  ·rw[ab (by simp[h2])]
   by_cases h3:p.2.2.length=q.2.2.length
   ·rw[ao (by simp[h3])]
    unfold cd.j0;have e1:=λK=>wU n hn p q S h1 K n 0 (JF _) (by have:=S.tys;omega)
    have e2:=λK=>wV n hn p q S h2 K n 0 (JF _) (by have:=S.rels;omega)
    have e3:=λK=>wW n hn p q S h3 K n 0 (JF _) (by have:=S.rules;omega)
    simp only[show((0:Nat):Int)=0 from rfl,JN]at e1 e2 e3;rw[e1,e2,e3]
    by_cases c1:p.1=q.1
    ·rw[ab c1]
     by_cases c2:p.2.1=q.2.1
     ·rw[ab c2]
      by_cases c3:p.2.2=q.2.2
      ·rw[ab c3,iN (e.2 ⟨c1,c2,c3⟩)]
      ·rw[ao c3,dp (λx=>c3 (e.1 x).2.2)]
     ·rw[ao c2,dp (λx=>c2 (e.1 x).2.1)]
    ·rw[ao c1,dp (λx=>c1 (e.1 x).1)]
   ·have:¬(p.2.2.length:Int)=(q.2.2.length:Int):=by omega
    rw[ab (by simp[this]),dp (λx=>h3 (by rw[x]))]
  ·have:¬(p.2.1.length:Int)=(q.2.1.length:Int):=by omega
   rw[ao (by simp[this]),dp (λx=>h2 (by rw[x]))]
 ·have:¬(p.1.length:Int)=(q.1.length:Int):=by omega
  rw[ao (by simp[this]),dp (λx=>h1 (by rw[x]))]
theorem yW (hn:200000<=n):dV.F n Jd=some (P0,0,0):=by
 obtain⟨g,rfl⟩:∃g,n=g+1:=⟨n - 1,by omega⟩
 have ht:az.F (g+1) Jd=some ([],0,0):=by
  unfold az.F;rw[ao (by decide),az.l0,ao (by decide)]
 unfold dV.F;rw[ht,Jc,ao (by decide),dV.l0,ab (by decide),ao (by decide)];exact Gy (L:=[]) (Z:=0) (k:=0) (m:=false) (E:=[]) (P:=P0)
theorem wX (hn:dh<=n)(p:PP)(hb:Jr E5 p<=1048576):∃b,fl.F n p=some b/\gV.F n p=some b/\(b=true->Fm p/\(∀r∈p.2.2,¬JL (gh r) Jd=true)/\p.1.length<=20/\p.2.1.length<=20/\p.2.2.length<=40):=by
 have hn1:1100000<=n:=by unfold dh at hn;omega
 have S:=D5 hb;obtain⟨R,r1,r2,r3⟩:=CT (n:=n) (by omega) (js p);unfold fl.F gV.F;rw[uX hn p hb,uY hn p hb,Jc,Jc,r1,r2,Jc,Jc]
 by_cases c:R.2.2=0
 ·rw[ab (by simp[c]),ab (by simp[c]),BF n hn1 p R.1 S,BE n hn1 p R.1 S,Jc]
  refine⟨_,rfl,rfl,λh=>?_⟩;have he:p=R.1:=of_decide_eq_true h;rcases r3 with⟨_,g1,g2,g3,g4⟩|⟨g,_⟩
  ·rw[← he]at g1 g2 g3 g4
   refine⟨g1,?_,g2,g3,g4⟩
   by_cases hr:BC p
   ·exact hr
   ·exfalso
    have ht:=rS hr;rw[ht,yW n (by omega)]at r1;have:R.1=P0:=by have:=Option.some.inj r1;rw[← this]
    rw[this]at he;exact hr (by rw[he];intro r hx;cases hx)
  ·exact bJ c g
 ·rw[ao (by simp[c]),ao (by simp[c])]
  exact⟨false,rfl,rfl,λh=>by cases h⟩
end
section
variable (n:Nat)
theorem G7 (r:Ru)(S:SmR r)(r7 r8:Ru)(x:Ex×List Ex)(K:Ru->Option Ru):∀(k i:Nat),i<=r.1.length->r.1.length - i<k->
  cb.l0 n r.1 (r.1.length:Int) r7 r8 K k (i:Int) (r.1.take i,x)=K (r.1,x)
 |0,i,_,hk=>bJ hk (Jx _)
 |k+1,i,hi,hk=>by
  have hE:=S.exps
  by_cases h:i<r.1.length
  ·have hke:=S.kids _ (JB h)
   have ih:=G7 r S r7 r8 x K k (i+1) (by omega) (by omega);rw[Ju h]at ih
   conv=>lhs;unfold cb.l0
   simp only[aN _ h,Kg];rw[ab (jj h),ab (inl' h),ab (by simp[aU];omega)];unfold iX.F;rw[Jc,ab (by simp[aU];omega),ja (by omega)];exact ih
  ·conv=>lhs;unfold cb.l0
   rw[ao (kl h),JI (by omega)]
theorem G8 (r:Ru)(S:SmR r)(t16:Ru)(E:List Ex)(hd:Ex)(K:Ru->Option Ru):∀(k i:Nat),i<=r.2.2.length->r.2.2.length - i<k->
  cb.l1 n r.2.2 (r.2.2.length:Int) t16 K k (i:Int) (E,(hd,r.2.2.take i))=K (E,(hd,r.2.2))
 |0,i,_,hk=>bJ hk (Jx _)
 |k+1,i,hi,hk=>by
  have hB:=S.body
  by_cases h:i<r.2.2.length
  ·have ih:=G8 r S t16 E hd K k (i+1) (by omega) (by omega)
   rw[Ju h]at ih
   conv=>lhs;unfold cb.l1
   rw[ab (jj h),ab (inl' h),aN _ h,sN n _ (S.args _ (JE _ (JB h))),Jc,ab (by simp[aU];omega),ja (by omega)];exact ih
  ·conv=>lhs;unfold cb.l1
   rw[ao (kl h),JI (by omega)]
theorem wY (hn:1100000<=n)(r:Ru)(S:SmR r):iV.F n r=some r:=by
 have hB:=S.body;have hE:=S.exps;unfold iV.F cb.F;rw[sN n _ (S.args _ JA),Jc];have e0:=λK=>G7 n r S r ([],(ll,[])) (r.2.1,[]) K n 0 (JF _) (by omega)
 simp only[KD,show((0:Nat):Int)=0 from rfl]at e0;rw[e0];have e1:=λK=>G8 n r S ([],(ll,[])) r.1 r.2.1 K n 0 (JF _) (by omega)
 simp only[KD,show((0:Nat):Int)=0 from rfl]at e1;rw[e1]
 rfl
theorem G9 (cs:List CN)(h1:cs.length<=1048576)(h2:∀c∈cs,c.2.length<=1048576)(t8:List TD)(t9 t10:Int)(t14 t15 t16:PP)(t17:TD)(K:List CN->Option PP):∀(k i:Nat),i<=cs.length->cs.length - i<k->
  cg.l1 n t8 t9 t10 cs (cs.length:Int) t14 t15 t16 t17 K k (i:Int) (cs.take i)=K cs
 |0,i,_,hk=>bJ hk (Jx _)
 |k+1,i,hi,hk=>by
  by_cases h:i<cs.length
  ·have hc:=h2 _ (JB h)
   have ih:=G9 cs h1 h2 t8 t9 t10 t14 t15 t16 t17 K k (i+1) (by omega) (by omega);rw[Ju h]at ih
   conv=>lhs;unfold cg.l1
   simp only[aN _ h,Kg];rw[ab (jj h),ab (inl' h),ab (by simp[aU];omega),ab (by simp[aU];omega),ja (by omega)];exact ih
  ·conv=>lhs;unfold cg.l1
   rw[ao (kl h),JI (by omega)]
theorem Ga (hn:1100000<=n)(p:PP)(S:wP p)(t5 t6:PP)(x:List RD×List Ru)(K:PP->Option PP):∀(k i:Nat),i<=p.1.length->p.1.length - i<k->
  cg.l0 n p.1 (p.1.length:Int) t5 t6 K k (i:Int) (p.1.take i,x)=K (p.1,x)
 |0,i,_,hk=>bJ hk (Jx _)
 |k+1,i,hi,hk=>by
  have h1:=S.tys
  by_cases h:i<p.1.length
  ·have ih:=Ga hn p S t5 t6 x K k (i+1) (by omega) (by omega)
   rw[Ju h]at ih;have hc:=S.cons _ (JB h)
   conv=>lhs;unfold cg.l0
   simp only[aN _ h];rw[ab (jj h),ab (inl' h)];have e:=λK=>G9 n (p.1[i]).2 hc (S.cty _ (JB h)) p.1 (p.1.length:Int) (i:Int) t5 t6 (p.1.take i,x) p.1[i] K n 0 (JF _) (by omega)
   simp only[KD,show((0:Nat):Int)=0 from rfl]at e;rw[e,ab (by simp[aU];omega),ja (by omega)];exact ih
  ·conv=>lhs;unfold cg.l0
   rw[ao (kl h),JI (by omega)]
theorem Gb (p:PP)(S:wP p)(t5 t6:PP)(T:List TD)(U:List Ru)(K:PP->Option PP):∀(k i:Nat),i<=p.2.1.length->p.2.1.length - i<k->
  cg.l2 n p.2.1 (p.2.1.length:Int) t5 t6 K k (i:Int) (T,(p.2.1.take i,U))=K (T,(p.2.1,U))
 |0,i,_,hk=>bJ hk (Jx _)
 |k+1,i,hi,hk=>by
  have h1:=S.rels
  by_cases h:i<p.2.1.length
  ·have ih:=Gb p S t5 t6 T U K k (i+1) (by omega) (by omega)
   rw[Ju h]at ih;have hc:=S.rty _ (JB h)
   conv=>lhs;unfold cg.l2
   simp only[aN _ h,Kg];rw[ab (jj h),ab (inl' h),ab (by simp[aU];omega),ab (by simp[aU];omega),ja (by omega)];exact ih
  ·conv=>lhs;unfold cg.l2
   rw[ao (kl h),JI (by omega)]
theorem Gc (hn:1100000<=n)(p:PP)(S:wP p)(t5:PP)(T:List TD)(D:List RD)(K:PP->Option PP):∀(k i:Nat),i<=p.2.2.length->p.2.2.length - i<k->
  cg.l3 n p.2.2 (p.2.2.length:Int) t5 K k (i:Int) (T,(D,p.2.2.take i))=K (T,(D,p.2.2))
 |0,i,_,hk=>bJ hk (Jx _)
 |k+1,i,hi,hk=>by
  have h1:=S.rules
  by_cases h:i<p.2.2.length
  ·have ih:=Gc hn p S t5 T D K k (i+1) (by omega) (by omega)
   rw[Ju h]at ih
   conv=>lhs;unfold cg.l3
   rw[ab (jj h),ab (inl' h),aN _ h,wY n hn _ (pp (S.rul _ (JB h))).toSmR,Jc,ab (by simp[aU];omega),ja (by omega)];exact ih
  ·conv=>lhs;unfold cg.l3
   rw[ao (kl h),JI (by omega)]
theorem wZ (hn:1100000<=n)(p:PP)(S:wP p):cg.F n p=some p:=by
 unfold cg.F;have e0:=λK=>Ga n hn p S p P0 ([],[]) K n 0 (JF _) (by have:=S.tys;omega)
 have e2:=λT U K=>Gb n p S p P0 T U K n 0 (JF _) (by have:=S.rels;omega)
 have e3:=λT D K=>Gc n hn p S P0 T D K n 0 (JF _) (by have:=S.rules;omega)
 simp only[KD,show((0:Nat):Int)=0 from rfl]at e0 e2 e3;refine(e0 _).trans ?_;refine(e2 _ _ _).trans ?_;exact e3 _ _ _
theorem Gd (p:PP)(S:wP p){a:Nat}(ha:a<p.1.length)(t9 t10:PP)(nm:ByteArray)(K:TD->Option PP):∀(k i:Nat),i<=(p.1[a]).2.length->(p.1[a]).2.length - i<k->
  cS.l1 n (a:Int) p t9 t10 K k (i:Int) (nm,(p.1[a]).2.take i)=K (nm,(p.1[a]).2)
 |0,i,_,hk=>bJ hk (Jx _)
 |k+1,i,hi,hk=>by
  have h1:=S.cons _ (JB ha)
  by_cases h:i<(p.1[a]).2.length
  ·have hc:=S.cty _ (JB ha) _ (JB h)
   have ih:=Gd p S ha t9 t10 nm K k (i+1) (by omega) (by omega);rw[Ju h]at ih
   conv=>lhs;unfold cS.l1
   simp only[aN _ ha];simp only[aN _ h,Kg];rw[ab (inl' ha),ab (jj h)];simp only[ab (inl' ha),ab (inl' h)];rw[ab (by simp[aU];omega),ab (by simp[aU];omega),ja (by omega)];exact ih
  ·conv=>lhs;unfold cS.l1
   simp only[aN _ ha];rw[ab (inl' ha),ao (kl h),JI (by omega)]
theorem Ge (hn:1100000<=n)(p:PP)(S:wP p)(t4:PP)(x:List RD×List Ru)(K:PP->Option PP):∀(k i:Nat),i<=p.1.length->p.1.length - i<k->
  cS.l0 n p t4 K k (i:Int) (p.1.take i,x)=K (p.1,x)
 |0,i,_,hk=>bJ hk (Jx _)
 |k+1,i,hi,hk=>by
  have h1:=S.tys
  by_cases h:i<p.1.length
  ·have ih:=Ge hn p S t4 x K k (i+1) (by omega) (by omega)
   rw[Ju h]at ih;have hc:=S.cons _ (JB h)
   conv=>lhs;unfold cS.l0
   simp only[aN _ h];rw[ab (jj h),ab (inl' h)];have e:=λnm K=>Gd n p S h t4 (p.1.take i,x) nm K n 0 (JF _) (by omega)
   simp only[KD,show((0:Nat):Int)=0 from rfl]at e;rw[e,ab (by simp[aU];omega),ja (by omega)];exact ih
  ·conv=>lhs;unfold cS.l0
   rw[ao (kl h),JI (by omega)]
theorem Gf (p:PP)(S:wP p)(t4:PP)(T:List TD)(U:List Ru)(K:PP->Option PP):∀(k i:Nat),i<=p.2.1.length->p.2.1.length - i<k->
  cS.l2 n p t4 K k (i:Int) (T,(p.2.1.take i,U))=K (T,(p.2.1,U))
 |0,i,_,hk=>bJ hk (Jx _)
 |k+1,i,hi,hk=>by
  have h1:=S.rels
  by_cases h:i<p.2.1.length
  ·have ih:=Gf p S t4 T U K k (i+1) (by omega) (by omega)
   rw[Ju h]at ih;have hc:=S.rty _ (JB h)
   conv=>lhs;unfold cS.l2
   simp only[aN _ h,Kg];rw[ab (jj h)];simp only[ab (inl' h)];rw[ab (by simp[aU];omega),ab (by simp[aU];omega),ja (by omega)];exact ih
  ·conv=>lhs;unfold cS.l2
   rw[ao (kl h),JI (by omega)]
theorem D6 (hn:1100000<=n)(p:PP)(S:wP p):cS.F n p=some (p.1,(p.2.1,[])):=by
 unfold cS.F;have e0:=λK=>Ge n hn p S P0 ([],[]) K n 0 (JF _) (by have:=S.tys;omega)
 have e2:=λT U K=>Gf n p S P0 T U K n 0 (JF _) (by have:=S.rels;omega)
 simp only[KD,show((0:Nat):Int)=0 from rfl]at e0 e2;refine(e0 _).trans ?_;exact e2 _ _ _
end
theorem ka {α:Type}(f:α->Nat)(c:Nat):∀l:List α,(∀x∈l,f x<=c)->(l.map f).sum<=c*l.length
 |[],_=>by simp
 |x::l,h=>by
  have h1:=h x JA;have h2:=ka f c l (λy hy=>h y (JE _ hy));rw[Jy,JY,Jj,Nat.mul_add,Nat.mul_one];omega
theorem D7 {l:List ByteArray}(h:zg l):wS l<=187:=by
 have:=ka (λs:ByteArray=>s.size+1) 31 l (λs hs=>by have:=h.2 s hs;omega);have h1:=h.1;unfold wS;omega
theorem Ih {c:ByteArray×List ByteArray}(h:Iq c):wC c<=218:=by
 have h1:=h.1;have h2:=D7 h.2;unfold wC;omega
theorem Hn {t:TD}(h:Ix t):wT t<=2648:=by
 have h1:=h.1;have h2:=h.2.1;have h3:=ka wC 218 t.2 (λc hc=>Ih (h.2.2 c hc));unfold wT;omega
theorem Ho {r:RD}(h:Iy r):wR r<=219:=by
 have h1:=h.1;have h2:=D7 h.2;unfold wR;omega
theorem D8 {e:Ex}(h:zi e):bx e<=39:=by
 have h1:=h.1;have h2:=h.2;unfold bx;omega
theorem Ii {r:Ru}(h:Iw r):Jr qF r<=2849:=by
 obtain⟨h1,h2,h3,h4,h5⟩:=h;have e1:=ka bx 39 r.1 (λe he=>D8 (h3 e he));have e2:=ka bx 39 r.2.2 (λe he=>D8 (h5 e he));have e3:=D8 h4;rw[Ac];unfold DJ;omega
theorem Ij {p:PP}(h:Fm p)(h1:p.1.length<=20)(h2:p.2.1.length<=20)(h3:p.2.2.length<=40):Jr E5 p<=1048576:=by
 have e1:=ka wT 2648 p.1 (λt ht=>Hn (h.1 t ht));have e2:=ka wR 219 p.2.1 (λr hr=>Ho (h.2.1 r hr));have e3:=ka (Jr qF) 2849 p.2.2 (λr hr=>Ii (h.2.2 r hr));rw[oC];omega
def nm (a b s:ByteArray):ByteArray:=if JL s a=true then b else s
def E6 (a b:ByteArray)(d:RD):RD:=(nm a b d.1,d.2)
def D9 (a b:ByteArray)(l:Ex):Ex:=(l.1,(nm a b l.2.1,l.2.2))
def BT (a b:ByteArray)(l:Ex):Ex:=if l.1=3 then l else D9 a b l
def Af (a b:ByteArray)(r:Ru):Ru:=(r.1,(D9 a b r.2.1,r.2.2.map (BT a b)))
def Gg (a b:ByteArray)(p:PP):PP:=(p.1,(p.2.1.map (E6 a b),p.2.2.map (Af a b)))
theorem Gi {a b s:ByteArray}(hb:b.size<=30)(h:s.size<=30):(nm a b s).size<=30:=by
 unfold nm
 split<;>assumption
theorem Da {a b:ByteArray}(hb:b.size<=30){l:Ex}(h:zi l):zi (D9 a b l):=⟨Gi hb h.1,h.2⟩
theorem Hp {a b:ByteArray}(hb:b.size<=30){l:Ex}(h:zi l):zi (BT a b l):=by
 unfold BT
 split
 ·exact h
 ·exact Da hb h
theorem Hq {a b:ByteArray}(hb:b.size<=30){r:Ru}(h:Iw r):Iw (Af a b r):=by
 obtain⟨h1,h2,h3,h4,h5⟩:=h;refine⟨h1,?_,h3,Da hb h4,λl hl=>?_⟩
 ·show(r.2.2.map _).length<=12
  rw[JT];exact h2
 ·obtain⟨x,hx,rfl⟩:=KG.1 hl
  exact Hp hb (h5 x hx)
theorem Hr {a b:ByteArray}(hb:b.size<=30){p:PP}(h:Fm p):Fm (Gg a b p):=by
 refine⟨h.1,λr hr=>?_,λr hr=>?_⟩
 ·obtain⟨x,hx,rfl⟩:=KG.1 hr
  exact⟨Gi hb (h.2.1 x hx).1,(h.2.1 x hx).2⟩
 ·obtain⟨x,hx,rfl⟩:=KG.1 hr
  exact Hq hb (h.2.2 x hx)
theorem Ik {a b:ByteArray}(hb:b.size<=30){p:PP}(h:Fm p)(h1:p.1.length<=20)(h2:p.2.1.length<=20)(h3:p.2.2.length<=40):Jr E5 (Gg a b p)<=1048576:=by
 refine Ij (Hr hb h) h1 ?_ ?_
 ·show(p.2.1.map _).length<=20
  rw[JT];exact h2
 ·show(p.2.2.map _).length<=40
  rw[JT];exact h3
def yX (c:UInt8):Bool:=decide (97<=c.toNat/\c.toNat<=122)
def lX (l:List UInt8):Bool:=decide (1<=l.length/\l.length<=20)&&(match l with|[]=>false|c::_=>yX c)&&l.all dc
theorem Il {c:UInt8}(h:yX c=true):jw c=true:=by
 unfold yX at h;unfold jw;rw[h,Bool.true_or]
theorem yY (n:Nat)(l:List UInt8)(hl:l.length<=4294967296)(hn:l.length+1<=n):cN.F n (bt l) false=some (lX l):=by
 unfold cN.F;rw[ah,dz];simp only[Jc]
 by_cases h:1<=l.length/\l.length<=20
 ·rw[ab (by simp;omega),ao (by simp),ab (by simp)]
  cases l with
  |nil=>simp at h
  |cons c r=>
   rw[ab (by simp<;>omega),gl,pH];simp only[Jc];unfold lX;rw[iN h];show(if(!yX c)=true then _ else _)=_;rcases kP (yX c)with hb|hb
   ·simp[hb]
   ·simp only[hb,Bool.not_true,if_true,Jt,if_false,Kf]
    unfold cN.j0;have:=pJ n (λ_=>some true) (c::r) [] n (by simpa using hl) hn;simp only[Kg,Jo]at this;rw[show((0:Nat):Int)=0 from rfl]at this;rw[this];rcases kP ((c::r).all dc)with hw|hw<;>simp[hw]
 ·rw[ao (by simp;omega)]
  unfold lX;rw[dp h]
  rfl
theorem yZ (n:Nat)(l:List UInt8)(hl:l.length<=4294967296)(hn:l.length+1<=n):gw.F n (bt l)=some (lX l):=by
 unfold gw.F;rw[ah,DA,Jc]
 by_cases h:1<=l.length/\l.length<=20
 ·rw[ab (by simp;omega),lk n l hl hn,Jc]
  cases l with
  |nil=>simp at h
  |cons c r=>
   unfold lX;rw[iN h,Kf];rcases kP (jw c)with hc|hc
   ·simp only[hc,Jt,if_false]
    rw[ao (by simp;omega)];have:yX c=false:=JK.2 λx=>by rw[Il x]at hc;cases hc
    simp only[this,Li]
   ·simp only[hc,if_true]
    rcases kP ((c::r).all dc)with hw|hw
    ·have:¬((c::r).takeWhile dc).length=(c::r).length:=λx=>by rw[jR.1 x]at hw;cases hw
     rw[ao (by simp only[db];omega),hw,Bool.and_false]
    ·have:((c::r).takeWhile dc).length=(c::r).length:=jR.2 hw
     rw[ab (by simp only[db];omega),ab (by simp<;>omega),gl,hw,Bool.and_true];unfold jw kc at hc;unfold yX;simp only[Bool.or_eq_true,db]at hc
     congr 1
     rw[decide_eq_decide];omega
 ·rw[ao (by simp;omega)]
  unfold lX;rw[dp h]
  rfl
section
variable {α:Type}
def kO (f:α->α)(l:List α)(i:Nat):List α:=(l.take i).map f++l.drop i
theorem oE (f:α->α)(l:List α):kO f l 0=l:=by simp[kO]
theorem oF (f:α->α)(l:List α){i:Nat}(h:l.length<=i):kO f l i=l.map f:=by
 unfold kO;rw[JI h,List.drop_eq_nil_of_le h,Kv]
theorem kz (f:α->α)(l:List α)(i:Nat):(kO f l i).length=l.length:=by
 unfold kO;rw[Jk,JT,KU,List.length_drop];omega
theorem oG {f:α->α}{l:List α}{i:Nat}(d:α)(h:i<l.length):Ji (kO f l i) (Jg (i:Int)) d=l[i]:=by
 have h2:i<(kO f l i).length:=by rw[kz];exact h
 rw[JD,KB];unfold kO;rw[List.getElem?_append_right (by simp;omega),JT,KU,Nat.min_eq_left (Nat.le_of_lt h),Nat.sub_self,List.getElem?_drop,Nat.add_zero,List.getElem?_eq_getElem h]
 rfl
theorem oH {f:α->α}{l:List α}{i:Nat}{x:α}(h:i<l.length)(hx:x=f l[i]):Kl (kO f l i) (Jg (i:Int)) x=kO f l (i+1):=by
 subst hx;unfold kO;rw[JD,Ju h,Kk,List.set_append_right _ _ (by simp;omega)];have:i - (List.map f (List.take i l)).length=0:=by simp;omega
 rw[this,Jv h,JO]
 rfl
theorem oI {f:α->α}{l:List α}{i:Nat}(h:i<l.length)(hx:f l[i]=l[i]):kO f l (i+1)=kO f l i:=by
 unfold kO;rw[Ju h,Kk,Jv h]
 simp[hx]
end
theorem z6 {a b s:ByteArray}(h:JL s a=true):nm a b s=b:=ab h
theorem z7 {a b s:ByteArray}(h:¬JL s a=true):nm a b s=s:=ao h
section
variable (n:Nat)
theorem Gj (a b:ByteArray)(p:PP)(hp:p.2.1.length<=100000)(t20 t21:PP)(T:List TD)(U:List Ru)(K:PP->Option (PP×Bool)):∀(k i:Nat),i<=p.2.1.length->p.2.1.length - i<k->
  bB.l2 n a b t20 t21 K k (i:Int) (T,(kO (E6 a b) p.2.1 i,U))=K (T,(p.2.1.map (E6 a b),U))
 |0,i,_,hk=>bJ hk (Jx _)
 |k+1,i,hi,hk=>by
  by_cases h:i<p.2.1.length
  ·have ih:=Gj a b p hp t20 t21 T U K k (i+1) (by omega) (by omega)
   conv=>lhs;unfold bB.l2
   dsimp only;rw[kz,ab (jj h),ab (inl' h),oG _ h,ab (inl' h),ja (by omega)]
   by_cases c:JL (p.2.1[i]).1 a=true
   ·rw[ab c,oH h (by unfold E6;rw[z6 c])]
    exact ih
   ·rw[ao c]
    rw[oI h (by unfold E6;rw[z7 c])]at ih;exact ih
  ·conv=>lhs;unfold bB.l2
   dsimp only;rw[kz,ao (kl h),oF _ _ (by omega)]
theorem Gk (a b:ByteArray)(B:List Ex)(hB:B.length<=100000)(t41:Int)(t43 t44 t45:PP)(E:List Ex)(hd:Ex)(K:Ru->Option (PP×Bool)):∀(k i:Nat),i<=B.length->B.length - i<k->
  bB.l5 n a b t41 t43 t44 t45 K k (i:Int) (E,(hd,kO (BT a b) B i))=K (E,(hd,B.map (BT a b)))
 |0,i,_,hk=>bJ hk (Jx _)
 |k+1,i,hi,hk=>by
  by_cases h:i<B.length
  ·have ih:=Gk a b B hB t41 t43 t44 t45 E hd K k (i+1) (by omega) (by omega)
   conv=>lhs;unfold bB.l5
   dsimp only;rw[kz,ab (jj h),ab (inl' h),oG _ h,ab (inl' h),ab (inl' h),ja (by omega)]
   by_cases c3:(B[i]).1=3
   ·rw[ao (by simp[c3])]
    rw[oI h (by unfold BT;rw[ab c3])]at ih;exact ih
   ·rw[ab (by simp[c3])]
    by_cases c:JL (B[i]).2.1 a=true
    ·rw[ab c,oH h (by unfold BT D9;rw[ao c3,z6 c])]
     exact ih
    ·rw[ao c]
     rw[oI h (by unfold BT D9;rw[ao c3,z7 c])]at ih;exact ih
  ·conv=>lhs;unfold bB.l5
   dsimp only;rw[kz,ao (kl h),oF _ _ (by omega)]
theorem Im (hn:1100000<=n)(a b:ByteArray)(r:Ru)(hB:r.2.2.length<=100000)(t34:Int)(t35 t36:PP)(T:List TD)(D:List RD)(U:List Ru)(hU:U.length<=100000)(K:PP->Option (PP×Bool)):
  bB.j4 n a b t34 t35 t36 (T,(D,U)) (r.1,(D9 a b r.2.1,r.2.2)) K=K (T,(D,U++[Af a b r])):=by
 unfold bB.j4;have e:=λK=>Gk n a b r.2.2 hB t34 t35 t36 (T,(D,U)) r.1 (D9 a b r.2.1) K n 0 (JF _) (by omega)
 simp only[oE,show((0:Nat):Int)=0 from rfl]at e;rw[e];dsimp only;rw[ab (cI hU)]
 rfl
theorem Gl (hn:1100000<=n)(a b:ByteArray)(p:PP)(hp:p.2.2.length<=100000)(hr:∀r∈p.2.2,SmR r/\r.2.2.length<=100000)(t29:PP)(T:List TD)(D:List RD)(K:PP->Option (PP×Bool)):∀(k i:Nat),i<=p.2.2.length->p.2.2.length - i<k->
  bB.l3 n a b p t29 K k (i:Int) (T,(D,(p.2.2.take i).map (Af a b)))=K (T,(D,p.2.2.map (Af a b)))
 |0,i,_,hk=>bJ hk (Jx _)
 |k+1,i,hi,hk=>by
  by_cases h:i<p.2.2.length
  ·have ih:=Gl hn a b p hp hr t29 T D K k (i+1) (by omega) (by omega)
   rw[Ju h,Kk]at ih;obtain⟨S,hB⟩:=hr _ (JB h)
   conv=>lhs;unfold bB.l3
   rw[ab (jj h),ab (inl' h),aN _ h,FJ n hn _ S,Jc,ja (by omega)];have e:=λt34 t35 t36 K=>Im n hn a b p.2.2[i] hB t34 t35 t36 T D ((p.2.2.take i).map (Af a b)) (by rw[JT,KU];omega) K
   by_cases c:JL (p.2.2[i]).2.1.2.1 a=true
   ·rw[ab c]
    unfold D9 at e;simp only[z6 c]at e;rw[e];exact ih
   ·rw[ao c]
    unfold D9 at e;simp only[z7 c]at e;rw[e];exact ih
  ·conv=>lhs;unfold bB.l3
   rw[ao (kl h),JI (by omega)]
theorem EZ (hn:1100000<=n)(a b:ByteArray)(p:PP)(S:wP p)(h1:p.2.1.length<=100000)(h2:p.2.2.length<=100000)(hr:∀r∈p.2.2,SmR r/\r.2.2.length<=100000)(t15:PP):
  bB.j1 n a b p t15=(fl.F n (Gg a b p)).bind λr=>if(!r)=true then some (P0,false)else some (Gg a b p,true):=by
 unfold bB.j1;rw[D6 n hn p S,Jc];have e2:=λK=>Gj n a b p h1 p t15 p.1 [] K n 0 (JF _) (by omega)
 have e3:=λK=>Gl n hn a b p h2 hr t15 p.1 (p.2.1.map (E6 a b)) K n 0 (JF _) (by omega)
 simp only[oE,KD,Kz,show((0:Nat):Int)=0 from rfl]at e2 e3;rw[e2,e3]
 rfl
theorem Hs (a b s:ByteArray):eu.F n s a b=some (nm a b s):=by
 unfold eu.F nm
 split<;>rfl
theorem Gm (a b:ByteArray)(p:PP)(hp:p.2.1.length<=100000)(t18:PP)(T:List TD)(U:List Ru)(K:PP->Option (PP×Bool)):∀(k i:Nat),i<=p.2.1.length->p.2.1.length - i<k->
  bM.l1 n (p.2.1.length:Int) a b t18 K k (i:Int) (T,(kO (E6 a b) p.2.1 i,U))=K (T,(p.2.1.map (E6 a b),U))
 |0,i,_,hk=>bJ hk (Jx _)
 |k+1,i,hi,hk=>by
  by_cases h:i<p.2.1.length
  ·have ih:=Gm a b p hp t18 T U K k (i+1) (by omega) (by omega)
   conv=>lhs;unfold bM.l1
   dsimp only;rw[kz,ab (jj h),ab (inl' h),oG _ h,Hs,Jc,ja (by omega),oH h (by unfold E6;rfl)];exact ih
  ·conv=>lhs;unfold bM.l1
   dsimp only;rw[ao (kl h),oF _ _ (by omega)]
theorem F5 {α:Type}{l:List α}{i:Nat}(x d:α)(h:i<l.length):Ji (Kl l i x) (Jg (i:Int)) d=x:=by
 rw[JD,KB,NT h]
 rfl
theorem set_get' {α:Type}{l:List α}{i:Nat}(x d:α)(h:i<l.length):Ji (Kl l i x) i d=x:=by
 rw[KB,NT h]
 rfl
theorem Gn (a b:ByteArray)(M:List Ru){i:Nat}(hM:i<M.length)(B:List Ex)(hB:B.length<=100000)(t32 t33:Int)(t38:PP)(T:List TD)(D:List RD)(E:List Ex)(hd:Ex)(K:PP->Option (PP×Bool)):∀(k j:Nat),j<=B.length->B.length - j<k->
  bM.l3 n (i:Int) t32 t33 (B.length:Int) a b t38 K k (j:Int) (T,(D,Kl M i (E,(hd,kO (BT a b) B j))))=K (T,(D,Kl M i (E,(hd,B.map (BT a b)))))
 |0,j,_,hk=>bJ hk (Jx _)
 |k+1,j,hj,hk=>by
  by_cases h:j<B.length
  ·have ih:=Gn a b M hM B hB t32 t33 t38 T D E hd K k (j+1) (by omega) (by omega)
   conv=>lhs;unfold bM.l3
   simp only[F5 _ _ hM];rw[kz,ab (jj h),ab (inl' h),oG _ h,ab (inl' h),Hs,Jc,ja (by omega)]
   by_cases c3:(B[j]).1=3
   ·rw[ao (by simp[c3])]
    rw[oI h (by unfold BT;rw[ab c3])]at ih;exact ih
   ·rw[ab (by simp[c3]),oH h (by unfold BT D9;rw[ao c3]),JD,List.set_set]
    exact ih
  ·conv=>lhs;unfold bM.l3
   rw[ao (kl h),oF _ _ (by omega)]
theorem Gp (hn:1100000<=n)(a b:ByteArray)(R:List Ru)(hR:R.length<=100000)(hr:∀r∈R,r.2.2.length<=100000)(t27:PP)(T:List TD)(D:List RD)(K:PP->Option (PP×Bool)):∀(k i:Nat),i<=R.length->R.length - i<k->
  bM.l2 n (R.length:Int) a b t27 K k (i:Int) (T,(D,kO (Af a b) R i))=K (T,(D,R.map (Af a b)))
 |0,i,_,hk=>bJ hk (Jx _)
 |k+1,i,hi,hk=>by
  by_cases h:i<R.length
  ·have ih:=Gp hn a b R hR hr t27 T D K k (i+1) (by omega) (by omega)
   have hB:=hr _ (JB h);have hM:i<(kO (Af a b) R i).length:=by rw[kz];exact h
   conv=>lhs;unfold bM.l2
   dsimp only;rw[kz,ab (jj h),ab (inl' h),oG _ h,Hs,Jc];simp only[JD];rw[set_get' _ _ hM];have e:=λt32 t33 K=>Gn n a b (kO (Af a b) R i) hM (R[i]).2.2 hB t32 t33 t27 T D (R[i]).1 (D9 a b (R[i]).2.1) K n 0 (JF _) (by omega)
   simp only[oE,show((0:Nat):Int)=0 from rfl]at e;refine(e _ _ _).trans ?_;have s:=oH (f:=Af a b) (x:=Af a b R[i]) h rfl;rw[JD]at s;show bM.l2 n (R.length:Int) a b t27 K k _ (T,(D,(kO (Af a b) R i).set i (Af a b R[i])))=_;rw[s,ja (by omega)];exact ih
  ·conv=>lhs;unfold bM.l2
   dsimp only;rw[ao (kl h),oF _ _ (by omega)]
theorem F6 (hn:1100000<=n)(a b:ByteArray)(p:PP)(S:wP p)(h1:p.2.1.length<=100000)(h2:p.2.2.length<=100000)(hr:∀r∈p.2.2,r.2.2.length<=100000)(t12:PP):
  bM.j0 n p a b t12=(gV.F n (Gg a b p)).bind λr=>if(!r)=true then some (P0,false)else some (Gg a b p,true):=by
 unfold bM.j0;rw[wZ n hn p S,Jc];have e1:=λK=>Gm n a b p h1 t12 p.1 p.2.2 K n 0 (JF _) (by omega)
 have e2:=λK=>Gp n hn a b p.2.2 h2 hr t12 p.1 (p.2.1.map (E6 a b)) K n 0 (JF _) (by omega)
 simp only[oE,show((0:Nat):Int)=0 from rfl]at e1 e2;refine(e1 _).trans ?_;refine(e2 _).trans ?_
 rfl
theorem x4 (p:PP)(s:ByteArray)(hp:p.2.1.length<=100000):∀(k i:Nat),i<=p.2.1.length->p.2.1.length - i<k->
  ∃v,iE.l0 n s p (λ_=>some (-1)) k (i:Int)=some v/\bX.l0 n p.2.1 (λa3=>(fQ.F n a3.1 s).bind some) (p.2.1.length:Int) (λ_=>some (-1)) k (i:Int)=some v
 |0,i,_,hk=>bJ hk (Jx _)
 |k+1,i,hi,hk=>by
  unfold iE.l0 bX.l0
  by_cases h:i<p.2.1.length
  ·rw[ab (jj h),ab (inl' h),ab (jj h),ab (inl' h),aN _ h]
   have e:(fQ.F n (p.2.1[i]) s).bind some=some (JL (p.2.1[i]).1 s):=rfl;rw[e,Jc]
   by_cases c:JL (p.2.1[i]).1 s=true
   ·rw[ab c,ab c]
    exact⟨_,rfl,rfl⟩
   ·rw[ao c,ao c,ja (by omega)]
    exact x4 p s hp k (i+1) (by omega) (by omega)
  ·rw[ao (kl h),ao (kl h)]
   exact⟨-1,rfl,rfl⟩
theorem rel_eq' (hn:1100000<=n)(p:PP)(s:ByteArray)(hp:p.2.1.length<=100000):∃v,iE.F n p s=some v/\fD.F n p s=some v:=by
 obtain⟨v,h1,h2⟩:=x4 n p s hp n 0 (JF _) (by omega);simp only[show((0:Nat):Int)=0 from rfl]at h1 h2;refine⟨v,h1,?_⟩;unfold fD.F bX.F;rw[h2,Jc]
def F7:List ByteArray:=[⟨#[116,121,112,101]⟩,⟨#[114,101,108]⟩,⟨#[110,117,109,98,101,114]⟩,⟨#[115,121,109,98,111,108]⟩,⟨#[105,110,112,117,116]⟩,⟨#[111,117,116,112,117,116]⟩,⟨#[105,110,108,105,110,101]⟩]
theorem F8 (a s:ByteArray)(p t:PP):bB.j0 n a s p t=if sC F7 s=true then some (P0,false)else bB.j1 n a s p t:=by
 unfold bB.j0 sC F7;have e:∀x:ByteArray,decide (x=s)=JL s x:=λx=>by rw[ir];exact decide_eq_decide.2 eq_comm
 simp only[List.any_cons,List.any_nil,e,Bool.or_false];generalize JL s ⟨#[116,121,112,101]⟩=b1;generalize JL s ⟨#[114,101,108]⟩=b2;generalize JL s ⟨#[110,117,109,98,101,114]⟩=b3;generalize JL s ⟨#[115,121,109,98,111,108]⟩=b4;generalize JL s ⟨#[105,110,112,117,116]⟩=b5;generalize JL s ⟨#[111,117,116,112,117,116]⟩=b6;generalize JL s ⟨#[105,110,108,105,110,101]⟩=b7;cases b1<;>cases b2<;>cases b3<;>cases b4<;>cases b5<;>cases b6<;>cases b7<;>rfl
theorem x5 (hn:dh<=n)(p:PP)(a s:ByteArray)(hb:Jr E5 p<=1048576)(hs:s.size<=1048576):
  ∃w,bB.F n p a s=some w/\bM.F n p a s=some w/\Jr E5 w.1<=1048576:=by
 have hn':1100000<=n:=by unfold dh at hn;omega
 have S:=D5 hb;have hz:Jr E5 P0<=1048576:=by rw[oC];simp
 obtain⟨b,b1,b2,b3⟩:=wX n hn p hb;unfold bB.F bM.F;rw[b1,b2,Jc,Jc];cases b with
 |false=>exact⟨(P0,false),rfl,rfl,hz⟩
 |true=>
  obtain⟨c1,c2,c3,c4,c5⟩:=b3 rfl;obtain⟨v,v1,v2⟩:=rel_eq' n hn' p a (by omega);obtain⟨u,u1,u2⟩:=rel_eq' n hn' p s (by omega);rw[ab (by simp),ab (by simp),v1,v2,Jc,Jc]
  by_cases hv:v<0
  ·rw[ao (by simp[hv]),ao (by simp[hv])]
   exact⟨(P0,false),rfl,rfl,hz⟩
  rw[ab (by simp[hv]),ab (by simp[hv]),u1,u2,Jc,Jc]
  by_cases hu:u>=0
  ·rw[ao (by simp[hu]),ao (by simp[hu])]
   exact⟨(P0,false),rfl,rfl,hz⟩
  rw[ab (by simp;omega),ab (by simp;omega)];have e1:=yY n s.data.toList (by rw[jx];omega) (by rw[jx];omega);have e2:=yZ n s.data.toList (by rw[jx];omega) (by rw[jx];omega);rw[← jv]at e1 e2;rw[e1,e2,Jc,Jc]
  by_cases hm:¬lX s.data.toList=true
  ·rw[JK.2 hm,ab (by simp),ao (by simp)]
   exact⟨(P0,false),rfl,rfl,hz⟩
  have hm:lX s.data.toList=true:=Classical.not_not.1 hm;rw[hm,ao (by simp),ab (by simp),xP n hn' _ s (by simp),Jc,F8];show∃w,_=some w/\(if sC F7 s=true then _ else _)=some w/\_
  by_cases hk:sC F7 s=true
  ·rw[ab hk,ab hk]
   exact⟨(P0,false),rfl,rfl,hz⟩
  rw[ao hk,ao hk];have hsz:s.size<=30:=by
   unfold lX at hm;simp only[Bool.and_eq_true,db]at hm;rw[← jx];omega
  have hr:∀r∈p.2.2,SmR r/\r.2.2.length<=100000:=λr hr=>⟨(pp (S.rul r hr)).toSmR,by have:=(c1.2.2 r hr).2.1;omega⟩
  rw[EZ n hn' a s p S (by omega) (by omega) hr,F6 n hn' a s p S (by omega) (by omega) (λr h=>(hr r h).2)];have hb2:=Ik (a:=a) hsz c1 c3 c4 c5;obtain⟨d,d1,d2,_⟩:=wX n hn (Gg a s p) hb2;rw[d1,d2,Jc];cases d with
  |false=>exact⟨(P0,false),rfl,rfl,hz⟩
  |true=>exact⟨(Gg a s p,true),rfl,rfl,hb2⟩
end
end Go.Abs
