/- The tokens: both sides see the same ones. Conditions: none. -/
import Derived.Test.YtkelpajcfmghiaaGreatDoorT7
import Derived.Test.YtkelpajcfmghiaaGreatDoorP8
open Bool renaming eq_false_iff → JK,or_eq_false_iff → K8
open ByteArray renaming empty → Jd,extract → Jz,size → Jf
open Go.Abs renaming seq → JL
open Go.IntKind renaming i64 → Jh
open Go.Lib renaming indexByte → LV
open Int renaming toNat → Jg,toNat_natCast → JD
open List renaming append_assoc → JO,append_cancel_right → NA,cons_append → KK,contains_cons → OA,contains_nil → OT,drop_zero → JN,find? → OB,length → Je,length_append → Jk,length_cons → Jj,length_nil → Jo,length_take → KU,mem_cons → JJ,nil_append → Kg,not_mem_nil → LP,takeWhile_cons → JR,take_succ_cons → MS
open List.cons renaming inj → MF
open Option renaming bind_some → Jc,getD_some → LQ
set_option linter.unusedVariables false
set_option linter.unusedSimpArgs false
namespace Go.Abs
theorem oz (n:Nat)(l t:List UInt8):dY.F n (bt l) (bt t)=some (l.take t.length==t):=by
 unfold dY.F internal_stringslite_HasPrefix.F;rw[ah,ah]
 by_cases h:t.length<=l.length
 ·rw[ab (by simp;omega),ab (by omega),show Jg 0=0 from rfl,JD,fV,gv,JN,Jc]
 ·rw[ao (by simp;omega),Jc]
  congr 1
  symm
  rw[beq_eq_false_iff_ne];intro e;have:=congrArg Je e;rw[KU]at this;omega
def yQ (c:UInt8):Bool:=decide (c=32)||decide (c=9)||decide (c=10)||decide (c=13)
theorem CI (c:UInt8):∀l:List UInt8,-1<=LV l c/\(LV l c>=0↔c∈l)
 |[]=>by simp[LV]
 |b::l=>by
  obtain⟨h1,h2⟩:=CI c l;unfold LV
  by_cases h:b=c
  ·subst h;simp
  ·rw[ao (by simp[h])]
   have h':¬c=b:=λe=>h e.symm
   by_cases h3:LV l c= -1
   ·rw[ab (by simp[h3])]
    have:¬c∈l:=λe=>by have:=h2.2 e;omega
    simp[h',this]
   ·rw[ao (by simp[h3])]
    have:c∈l:=h2.1 (by omega)
    simp[this]
    omega
theorem CJ (n:Nat)(c:UInt8):∃v,iu.F n ⟨#[32,9,10,13]⟩ (c.toNat:Int)=some v/\decide (v>=0)=yQ c:=by
 refine⟨_,rfl,?_⟩;have h:(Jg (c.toNat:Int)).toUInt8=c:=by rw[JD];exact UInt8.ofNat_toNat
 rw[h];show decide (LV [32,9,10,13] c>=0)=yQ c;have e:decide (LV [32,9,10,13] c>=0)=decide (c∈[32,9,10,13]):=decide_eq_decide.2 (CI c [32,9,10,13]).2;rw[e];unfold yQ
 simp[Bool.or_assoc]
def sgl:List UInt8:=[40,41,44,46,33,61,60,43,45,42,124,95]
def dbl:List (List UInt8):=[[58,45],[33,61],[60,61]]
def xR (l:List UInt8):Option (List UInt8):=
 if dbl.contains (l.take 2)=true then some (l.take 2)else match l with|[]=>none|c::_=>if sgl.contains c=true then some [c]else none
theorem kX (c v:UInt8){k:Int}(h:k=(v.toNat:Int)):decide ((c.toNat:Int)=k)=decide (c=v):=by
 rw[h,decide_eq_decide]
 constructor
 ·intro e;exact UInt8.toNat_inj.1 (by omega)
 ·intro e;rw[e]
theorem EM (n:Nat)(c:UInt8)(r:List UInt8):fR.j0 n (bt (c::r))=some (if sgl.contains c=true then bt [c]else Jd):=by
 unfold fR.j0;have hin:(0:Int)<=0/\(0:Int)<(Jf (bt (c::r)):Int):=by rw[ah];simp only[Jj];omega
 have hex:(0:Int)<=0/\(0:Int)<=1/\1<=(Jf (bt (c::r)):Int):=by rw[ah];simp only[Jj];omega
 have ex:Jz (bt (c::r)) (Jg 0) (Jg 1)=bt [c]:=by
  rw[show Jg 0=0 from rfl,show Jg 1=1 from rfl,fV];rfl
 simp only[gl,ab hin,ab hex,ex];rw[kX c 40 (k:=40) rfl,kX c 41 (k:=41) rfl,kX c 44 (k:=44) rfl,kX c 46 (k:=46) rfl,kX c 33 (k:=33) rfl,kX c 61 (k:=61) rfl,kX c 60 (k:=60) rfl,kX c 43 (k:=43) rfl,kX c 45 (k:=45) rfl,kX c 42 (k:=42) rfl,kX c 124 (k:=124) rfl,kX c 95 (k:=95) rfl]
 by_cases h1:c=40
 ·subst h1;rfl
 rw[dp h1]
 by_cases h2:c=41
 ·subst h2;rfl
 rw[dp h2]
 by_cases h3:c=44
 ·subst h3;rfl
 rw[dp h3]
 by_cases h4:c=46
 ·subst h4;rfl
 rw[dp h4]
 by_cases h5:c=33
 ·subst h5;rfl
 rw[dp h5]
 by_cases h6:c=61
 ·subst h6;rfl
 rw[dp h6]
 by_cases h7:c=60
 ·subst h7;rfl
 rw[dp h7]
 by_cases h8:c=43
 ·subst h8;rfl
 rw[dp h8]
 by_cases h9:c=45
 ·subst h9;rfl
 rw[dp h9]
 by_cases h10:c=42
 ·subst h10;rfl
 rw[dp h10]
 by_cases h11:c=124
 ·subst h11;rfl
 rw[dp h11]
 by_cases h12:c=95
 ·subst h12;rfl
 rw[dp h12];have:sgl.contains c=false:=by simp[sgl,h1,h2,h3,h4,h5,h6,h7,h8,h9,h10,h11,h12]
 rw[this]
 rfl
theorem yR {c:UInt8}{r:List UInt8}(h:dbl.contains ((c::r).take 2)=false):xR (c::r)=if sgl.contains c=true then some [c]else none:=by
 unfold xR;rw[h]
 rfl
theorem CK (n:Nat)(c:UInt8)(r:List UInt8):fR.F n (bt (c::r))=some (bt ((xR (c::r)).getD [])):=by
 unfold fR.F;rw[ah];have j:fR.j0 n (bt (c::r))=some (bt ((if sgl.contains c=true then some [c]else none:Option (List UInt8)).getD [])):=by
  rw[EM]
  split<;>rfl
 by_cases h:1<(c::r).length
 ·have hex:(0:Int)<=0/\(0:Int)<=2/\2<=((c::r).length:Int):=by omega
  have ex:Jz (bt (c::r)) (Jg 0) (Jg 2)=bt ((c::r).take 2):=by
   rw[show Jg 0=0 from rfl,show Jg 2=2 from rfl,fV,JN]
  rw[ab (by simp at h⊢;omega)];simp only[ab hex,ex];show(if JL (bt ((c::r).take 2)) (bt [58,45])=true then _ else if JL (bt ((c::r).take 2)) (bt [33,61])=true then _ else _)=_;rw[show(⟨#[58,45]⟩:ByteArray)=bt [58,45]from rfl,show(⟨#[33,61]⟩:ByteArray)=bt [33,61]from rfl,show(⟨#[60,61]⟩:ByteArray)=bt [60,61]from rfl,gv,gv,gv,j]
  by_cases h1:(c::r).take 2=[58,45]
  ·unfold xR;rw[h1];rfl
  ·rw[ao (by rw[beq_iff_eq];exact h1)]
   by_cases h2:(c::r).take 2=[33,61]
   ·unfold xR;rw[h2];rfl
   ·rw[ao (by rw[beq_iff_eq];exact h2)]
    by_cases h3:(c::r).take 2=[60,61]
    ·unfold xR;rw[h3];rfl
    ·rw[ao (by rw[beq_iff_eq];exact h3)]
     have:dbl.contains ((c::r).take 2)=false:=by
      simp only[dbl,OA,OT,Bool.or_false,K8,beq_eq_false_iff_ne];exact⟨h1,h2,h3⟩
     rw[yR this]
 ·have hr:r=[]:=by simp at h;exact h
  subst hr;rw[ao (by simp),j];have:dbl.contains ([c].take 2)=false:=by simp[dbl]
  rw[yR this]
theorem rO (n:Nat)(l:List UInt8)(K:Unit->Option (Int×Int×Int)):∀(r pre:List (List UInt8)) (k:Nat),(pre++r).length<=100->r.length+1<=k->
  bZ.l1 n (bt l) ((pre++r).map bt) (Je ((pre++r).map bt):Int) K k (pre.length:Int)=match r.find? (λt=>l.take t.length==t)with|some t=>some (5,(t.length:Int),0)|none=>K ()
 |r,pre,0,_,hk=>by omega
 |[],pre,k+1,hl,hk=>by
  rw[bZ.l1,ao (by simp)]
  rfl
 |t::r,pre,k+1,hl,hk=>by
  have hlen:(Je ((pre++t::r).map bt):Int)=((pre++t::r).length:Int):=by simp
  have hlt:(pre.length:Int)<((pre++t::r).length:Int):=by simp;omega
  have hget:List.getD ((pre++t::r).map bt) (Jg (pre.length:Int)) Jd=bt t:=by
   rw[JD];simp
  rw[bZ.l1,ab (by rw[hlen];exact iN hlt),ab ⟨by omega,by rw[hlen];exact hlt⟩,hget,oz,Jc,List.find?_cons];cases h:(l.take t.length==t)with
  |true=>rw[ab rfl,ah]
  |false=>
   simp only[Jk,Jj]at hl;rw[ao (by simp),nk (by omega),show((pre.length+1:Nat):Int)=((pre++[t]).length:Int)by simp,show pre++t::r=(pre++[t])++r by simp,
    rO n l K r (pre++[t]) k (by simp;omega) (by simpa using hk)]
theorem wF (c:UInt8)(r:List UInt8):∀S:List UInt8,(S.map λx=>[x]).find? (λt=>(c::r).take t.length==t)=if S.contains c=true then some [c]else none
 |[]=>rfl
 |x::S=>by
  rw[List.map_cons,List.find?_cons];have e:((c::r).take [x].length==[x])=(c==x):=by simp
  rw[e]
  by_cases h:c=x
  ·subst h;simp
  ·rw[beq_eq_false_iff_ne.2 h]
   simp only[wF c r S]
   simp[h]
theorem CL (n:Nat)(hn:30<=n)(c:UInt8)(r:List UInt8)(K:Unit->Option (Int×Int×Int)):
  bZ.l1 n (bt (c::r)) dx (Je dx:Int) K n 0=match xR (c::r)with|some t=>some (5,(t.length:Int),0)|none=>K ():=by
 have h:=rO n (c::r) K (dbl++sgl.map λx=>[x]) [] n (by decide) (by simp[dbl,sgl];omega);refine Eq.trans (b:=_) h ?_;rw[List.find?_append,wF]
 by_cases h1:(c::r).take 2=[58,45]
 ·unfold xR;simp[dbl,OB,h1]
 ·by_cases h2:(c::r).take 2=[33,61]
  ·unfold xR;simp[dbl,OB,h2]
  ·by_cases h3:(c::r).take 2=[60,61]
   ·unfold xR;simp[dbl,OB,h3]
   ·have e1:dbl.find? (λt=>(c::r).take t.length==t)=none:=by
     rw[List.find?_eq_none];intro x hx;simp only[dbl,JJ,LP,or_false]at hx;rw[Bool.not_eq_true,beq_eq_false_iff_ne];rcases hx with rfl|rfl|rfl<;>assumption
    have e2:dbl.contains ((c::r).take 2)=false:=by
     simp only[dbl,OA,OT,Bool.or_false,K8,beq_eq_false_iff_ne];exact⟨h1,h2,h3⟩
    rw[e1,Option.none_or,yR e2]
theorem wG {l t:List UInt8}(h:xR l=some t):t=l.take t.length/\1<=t.length/\t.length<=l.length/\bt t∈dx/\t.length<=2:=by
 unfold xR at h
 split at h
 ·rename_i hd
  cases h;have hm:l.take 2∈dbl:=by simpa using hd
  have hl:(l.take 2).length=2:=by
   simp only[dbl,JJ,LP,or_false]at hm;rcases hm with e|e|e<;>rw[e]<;>rfl
  refine⟨by rw[hl],by omega,by rw[KU]at hl⊢;omega,?_,by omega⟩;simp only[dbl,JJ,LP,or_false]at hm;rcases hm with e|e|e<;>rw[e]<;>simp[dx,bt]
 ·cases l with
  |nil=>cases h
  |cons c r=>
   simp only at h
   split at h
   ·rename_i hs
    cases h;refine⟨by simp,by simp,by simp,?_,by simp⟩;have hm:c∈sgl:=by simpa using hs
    simp only[sgl,JJ,LP,or_false]at hm;rcases hm with e|e|e|e|e|e|e|e|e|e|e|e<;>rw[e]<;>simp[dx,bt]
   ·cases h
def iv (c:UInt8):Bool:=!decide (c=34)
def nO (c:UInt8):Bool:=!decide (c=10)
theorem EN (c:UInt8):(!decide ((c.toNat:Int)=34))=iv c:=by unfold iv;rw[kX c 34 (k:=34) rfl]
theorem A9 (c:UInt8):(!decide ((c.toNat:Int)=10))=nO c:=by unfold nO;rw[kX c 10 (k:=10) rfl]
section
variable {n:Nat}
theorem FQ {t23 t25:List Tk}{K:Int->Option ((List Tk)×Int×Int)}:∀(q pre:List UInt8) (k:Nat),(pre++q).length<=4294967296->q.length+1<=k->
  az.l3 n (bt (pre++q)) t23 t25 K k (pre.length:Int)=K ((pre.length+(q.takeWhile nO).length:Nat):Int)
 |q,pre,0,_,hk=>by omega
 |[],pre,k+1,hl,hk=>by
  rw[az.l3,ah,ao (by simp)]
  rfl
 |c::q,pre,k+1,hl,hk=>by
  rw[az.l3,ah,ab (iN (fw pre q c)),ab (cC pre q c),ei,A9];simp only[Jc,JR];simp only[Jk,Jj]at hl;cases hw:nO c with
  |false=>rw[ao (by simp)];rfl
  |true=>
   rw[ab (by simp),aJ _ (by omega) (by omega),gX pre c,eN,FQ q (pre++[c]) k (by simp;omega) (by simpa using hk)]
   congr 2
   simp
   omega
theorem CM {t23:List Tk}{a b:Int}{t25:List Tk}{tk:Tk}{K:Int->Option ((List Tk)×Int×Int)}:∀(q pre:List UInt8) (k:Nat),(pre++q).length<=4294967296->q.length+1<=k->
  az.l5 n (bt (pre++q)) t23 a b t25 tk K k (pre.length:Int)=K ((pre.length+(q.takeWhile dc).length:Nat):Int)
 |q,pre,0,_,hk=>by omega
 |[],pre,k+1,hl,hk=>by
  rw[az.l5,ah,ao (by simp)]
  rfl
 |c::q,pre,k+1,hl,hk=>by
  rw[az.l5,ah,ab (iN (fw pre q c)),ab (cC pre q c),ei,sr];simp only[Jc,JR];simp only[Jk,Jj]at hl;cases hw:dc c with
  |false=>rw[ao (by simp)];rfl
  |true=>
   rw[ab (by simp),aJ _ (by omega) (by omega),gX pre c,eN,CM q (pre++[c]) k (by simp;omega) (by simpa using hk)]
   congr 2
   simp
   omega
theorem FR {t23:List Tk}{a:Int}{t25:List Tk}{tk:Tk}{K:Int->Option ((List Tk)×Int×Int)}:∀(q pre:List UInt8) (k:Nat),(pre++q).length<=4294967296->q.length+1<=k->
  az.l6 n (bt (pre++q)) t23 a t25 tk K k (pre.length:Int)=K ((pre.length+(q.takeWhile cV).length:Nat):Int)
 |q,pre,0,_,hk=>by omega
 |[],pre,k+1,hl,hk=>by
  rw[az.l6,ah,ao (by simp)]
  rfl
 |c::q,pre,k+1,hl,hk=>by
  rw[az.l6,ah,ab (iN (fw pre q c)),ab (cC pre q c),ei,lK];simp only[Jc,JR];simp only[Jk,Jj]at hl;cases hw:cV c with
  |false=>rw[ao (by simp)];rfl
  |true=>
   rw[ab (by simp),aJ _ (by omega) (by omega),gX pre c,eN,FR q (pre++[c]) k (by simp;omega) (by simpa using hk)]
   congr 2
   simp
   omega
theorem FT {t23:List Tk}{a:Int}{t25:List Tk}{tk:Tk}{K:Int->Option ((List Tk)×Int×Int)}:∀(q pre:List UInt8) (k:Nat),(pre++q).length<=4294967296->q.length+1<=k->
  az.l7 n (bt (pre++q)) t23 a t25 tk K k (pre.length:Int)=K ((pre.length+(q.takeWhile iv).length:Nat):Int)
 |q,pre,0,_,hk=>by omega
 |[],pre,k+1,hl,hk=>by
  rw[az.l7,ah,ao (by simp)]
  rfl
 |c::q,pre,k+1,hl,hk=>by
  rw[az.l7,ah,ab (iN (fw pre q c)),ab (cC pre q c),ei,EN];simp only[Jc,JR];simp only[Jk,Jj]at hl;cases hw:iv c with
  |false=>rw[ao (by simp)];rfl
  |true=>
   rw[ab (by simp),aJ _ (by omega) (by omega),gX pre c,eN,FT q (pre++[c]) k (by simp;omega) (by simpa using hk)]
   congr 2
   simp
   omega
theorem FU {t9:List Tk}{K:Int->Option ((List Tk)×Int×Int)}:∀(q pre:List UInt8) (k:Nat),(pre++q).length<=4294967296->q.length+1<=k->
  cZ.l1 n (bt (pre++q)) t9 K k (pre.length:Int)=K ((pre.length+(q.takeWhile nO).length:Nat):Int)
 |q,pre,0,_,hk=>by omega
 |[],pre,k+1,hl,hk=>by
  rw[cZ.l1,ah,ao (by simp)]
  rfl
 |c::q,pre,k+1,hl,hk=>by
  rw[cZ.l1,ah,ab (iN (fw pre q c)),ab (cC pre q c),ei,A9];simp only[Jc,JR];simp only[Jk,Jj]at hl;cases hw:nO c with
  |false=>rw[ao (by simp)];rfl
  |true=>
   rw[ab (by simp),aJ _ (by omega) (by omega),gX pre c,eN,FU q (pre++[c]) k (by simp;omega) (by simpa using hk)]
   congr 2
   simp
   omega
theorem FV {K:Int->Option (Int×Int×Int)}:∀(q pre:List UInt8) (k:Nat),(pre++q).length<=4294967296->q.length+1<=k->
  bZ.l0 n (bt (pre++q)) K k (pre.length:Int)=K ((pre.length+(q.takeWhile cV).length:Nat):Int)
 |q,pre,0,_,hk=>by omega
 |[],pre,k+1,hl,hk=>by
  rw[bZ.l0,ah,ao (by simp)]
  rfl
 |c::q,pre,k+1,hl,hk=>by
  rw[bZ.l0,ah,ab (iN (fw pre q c)),ab (cC pre q c),ei,iJ];simp only[Jc,JR];simp only[Jk,Jj]at hl;cases hw:cV c with
  |false=>rw[ao (by simp)];rfl
  |true=>
   rw[ab (by simp),aJ _ (by omega) (by omega),gX pre c,eN,FV q (pre++[c]) k (by simp;omega) (by simpa using hk)]
   congr 2
   simp
   omega
theorem tm1 {k:Nat}{l:List UInt8}(h:Tm k l)(hk:k=1):lj l:=by
 cases h with
 |num x h0 h1=>exact⟨x,h0,h1,rfl⟩
 |sym m _ _=>omega
 |con0 _ _=>omega
 |con _ _ _ _ _ _=>omega
theorem J6 {k:Nat}{l:List UInt8}(h:Tm k l)(hk:k=2):∃m,m.length<=20/\m.all eR=true/\l=34::(m++[34]):=by
 cases h with
 |num x h0 h1=>omega
 |sym m h1 h2=>exact⟨m,h1,h2,rfl⟩
 |con0 _ _=>omega
 |con _ _ _ _ _ _=>omega
theorem ni {l:List UInt8}(h:lj l):l.length<=8:=by
 obtain⟨x,h0,h1,rfl⟩:=h;obtain⟨u,hu,⟨_,_,e⟩|⟨_,e⟩⟩:=nT h0 h1
 ·rw[e];have:=so hu;simp;omega
 ·rw[e];have:=so hu;omega
theorem yS {l:List UInt8}{k:Nat}(h:kQ l k):k=1↔lj l:=by
 constructor
 ·intro e
  exact tm1 (h.sound (by omega)).1 e
 ·rintro hn
  have:=ni hn;obtain⟨x,h0,h1,rfl⟩:=hn;exact h.complete 1 (.num x h0 h1) (by omega)
theorem yT {p:UInt8->Bool}{m r:List UInt8}{c:UInt8}(hm:m.all p=true)(hc:p c=false):(m++c::r).takeWhile p=m:=by
 induction m with
 |nil=>simp[hc]
 |cons x m ih=>
  rw[List.all_cons,Bool.and_eq_true]at hm;rw[KK,JR,hm.1,ab rfl,ih hm.2]
theorem wH {p:UInt8->Bool}:∀{r:List UInt8} {c:UInt8},r[(r.takeWhile p).length]? =some c->r=r.takeWhile p++c::r.drop ((r.takeWhile p).length+1)
 |[],c,h=>by simp at h
 |x::r,c,h=>by
  rw[JR]at h⊢;cases hx:p x with
  |false=>rw[hx]at h;simp at h;simp[h]
  |true=>
   rw[hx]at h;simp only[if_true,Jj,List.getElem?_cons_succ]at h;simp only[if_true,Jj,KK,List.drop_succ_cons];rw[← wH h]
theorem wI {p:UInt8->Bool}(r:List UInt8):(r.takeWhile p).length<=r.length:=by
 induction r with
 |nil=>simp
 |cons x r ih=>rw[JR];split<;>simp;omega
theorem uT {p:UInt8->Bool}:∀{r:List UInt8},(r.takeWhile p).length<r.length->∃c,r[(r.takeWhile p).length]? =some c/\p c=false
 |[],h=>by simp at h
 |x::r,h=>by
  rw[JR]at h⊢;cases hx:p x with
  |false=>exact⟨x,by simp,hx⟩
  |true=>
   rw[hx]at h;simp only[if_true,Jj]at h;obtain⟨c,h1,h2⟩:=uT (r:=r) (p:=p) (by omega);exact⟨c,by simpa using h1,h2⟩
theorem EO {r:List UInt8}{k:Nat}(hk:(r.takeWhile iv).length<r.length->kQ (34::(r.takeWhile iv++[34])) k):
  ((r.takeWhile iv).length<r.length/\k=2)↔((r.takeWhile eR).length<=20/\r[(r.takeWhile eR).length]? =some 34):=by
 have q34:iv 34=false:=by decide
 have p34:eR 34=false:=by decide
 constructor
 ·rintro⟨h1,h2⟩
  have K:=hk h1;obtain⟨m,m1,m2,m3⟩:=J6 (K.sound (by omega)).1 h2;have e:r.takeWhile iv=m:=by
   have:=MF m3;exact NA this.2
  obtain⟨c,c1,c2⟩:=uT h1;have hc:c=34:=by unfold iv at c2;simpa using c2
  have hr:=wH c1;rw[e,hc]at hr;have:r.takeWhile eR=m:=by rw[hr];exact yT m2 p34
  rw[this];refine⟨m1,?_⟩;rw[hr]
  simp
 ·rintro⟨h1,h2⟩
  have hr:=wH h2;have hp:=vd eR r;generalize hm:r.takeWhile eR=m at hr hp h1;have hq:m.all iv=true:=by
   rw[List.all_eq_true]at hp⊢;intro x hx;have:=hp x hx;unfold eR at this;unfold iv;have h3:=of_decide_eq_true this;have:¬x=34:=λe=>h3.2.2.1 (by rw[e];rfl)
   simp[this]
  have e:r.takeWhile iv=m:=by rw[hr];exact yT hq q34
  have hlt:(r.takeWhile iv).length<r.length:=by
   rw[e,hr];simp
  refine⟨hlt,?_⟩;have K:=hk hlt;rw[e]at K;exact K.complete 2 (.sym m h1 hp) (by simp;omega)
end
structure CP (K:Int) (t:List UInt8):Prop where
 sg:K=1->bt t∉dx
 wd:K=5->bt t∉lI
 num:K=3->lj t
 len:t.length<=30
abbrev uU:Type:=Option ((List Tk)×Int×Int)
theorem sW {c:UInt8}{r:List UInt8}(h:jw c=true):bt (c::r)∉dx:=by
 intro hm;have key:∀(x:UInt8) (l:List UInt8),bt (c::r)=bt (x::l)->jw x=false->False:=by
  intro x l e hx;have:=MF (Dy e);rw[this.1,hx]at h;cases h
 simp only[dx,JJ,LP,or_false]at hm;rcases hm with e|e|e|e|e|e|e|e|e|e|e|e|e|e|e<;>exact key _ _ e (by decide)
theorem sX {s:ByteArray}(h:s∈dx):s∉lI:=by
 simp only[dx,JJ,LP,or_false]at h;rcases h with rfl|rfl|rfl|rfl|rfl|rfl|rfl|rfl|rfl|rfl|rfl|rfl|rfl|rfl|rfl<;>simp[lI]
section
variable {n:Nat}
theorem IV {c:UInt8}(h:jw c=true):dc c=true:=by unfold dc;rw[h];rfl
theorem CQ {c:UInt8}(h:jw c=true):(kc c=true/\¬97<=c.toNat)\/(kc c=false/\97<=c.toNat):=by
 unfold jw kc at h;unfold kc;simp only[Bool.or_eq_true,db]at h;rcases h with h|h
 ·right
  exact⟨dp (by omega),by omega⟩
 ·left
  exact⟨iN h,by omega⟩
theorem Hc {c:UInt8}(h:cV c=true):jw c=false/\kc c=false:=by
 unfold cV at h;have:=of_decide_eq_true h
 constructor
 ·unfold jw kc;simp;omega
 ·unfold kc;simp;omega
def wJ (n:Nat)(pre:List UInt8)(c:UInt8)(r:List UInt8)(x:(Int->Tk->uU)->List Tk->Tk->uU):Prop:=
 (∃code,code≠0/\(∀Kn out tk,x Kn out tk=some ([],(pre.length:Int),code))/\bZ.F n (bt (c::r))=some (0,0,code))\/
 (∃(K:Int) (len:Nat),1<=len/\len<=(c::r).length/\(∀Kn out tk,x Kn out tk=Kn ((pre.length+len:Nat):Int) (K,tk.2))/\bZ.F n (bt (c::r))=some (K,(len:Int),0)/\CP K ((c::r).take len))
theorem HX (c:UInt8)(r:List UInt8):(0:Int)<=0/\(0:Int)<(Jf (bt (c::r)):Int):=by rw[ah];simp only[Jj];omega
theorem wK (pre r:List UInt8)(c:UInt8)(hl:(pre++c::r).length<=3000)(hn:5000<=n)(hc:jw c=true){K1:Int->uU}:
  wJ n pre c r λKn out tk=>az.j4 n (bt (pre++c::r)) [] (pre.length:Int) (c.toNat:Int) ((pre.length+1:Nat):Int) true out tk Kn:=by
 simp only[Jk,Jj]at hl;have hnl:ci.F n (bt (c::r))=some ((1+(r.takeWhile dc).length:Nat):Int):=by
  rw[lk n (c::r) (by simp;omega) (by simp;omega)];simp only[hc,if_true,JR,IV hc,Jj];rw[Nat.add_comm]
 have hsp:∀Kn out tk,az.j4 n (bt (pre++c::r)) [] (pre.length:Int) (c.toNat:Int) ((pre.length+1:Nat):Int) true out tk Kn=
   if 20<1+(r.takeWhile dc).length then some ([],(pre.length:Int),2)else Kn ((pre.length+(1+(r.takeWhile dc).length):Nat):Int) ((if kc c=true then 2 else 1),tk.2):=by
  intro Kn out tk;unfold az.j4;rw[ab rfl,show pre++c::r=(pre++[c])++r by simp,show((pre.length+1:Nat):Int)=((pre++[c]).length:Int)by simp,CM _ _ _ (by simp;omega) (by omega)];have:=wI (p:=dc) r;rw[aJ _ (by simp;omega) (by simp;omega)];have e:(((pre++[c]).length+(r.takeWhile dc).length:Nat):Int) - (pre.length:Int)=((1+(r.takeWhile dc).length:Nat):Int):=by simp;omega
  rw[e]
  by_cases h:20<1+(r.takeWhile dc).length
  ·rw[ab (by simp;omega),ab h]
  ·rw[ao (by simp;omega),ao h,qI,Jc,show(pre++[c]).length+(r.takeWhile dc).length=pre.length+(1+(r.takeWhile dc).length)by simp;omega]
   cases kc c<;>simp
 have hle:=wI (p:=dc) r
 by_cases h:20<1+(r.takeWhile dc).length
 ·refine .inl ⟨2,by decide,λKn out tk=>(hsp Kn out tk).trans (ab h),?_⟩
  unfold bZ.F;rw[hnl,Jc,ab (by simp;omega),ab (by simp;omega)]
 ·refine .inr ⟨if kc c=true then 2 else 1,1+(r.takeWhile dc).length,by omega,by simp;omega,λKn out tk=>(hsp Kn out tk).trans (ao h),?_,?_⟩
  ·unfold bZ.F
   rw[hnl,Jc,ab (by simp;omega),ao (by simp;omega),ab (HX c r),gl];rcases CQ hc with⟨h1,h2⟩|⟨h1,h2⟩
   ·rw[ao (by simp;omega),h1,ab rfl]
   ·rw[ab (by simp;omega),h1,ao (by simp)]
  ·refine⟨λhk=>?_,λhk=>?_,λhk=>?_,by rw[KU];omega⟩
   ·rw[show 1+(r.takeWhile dc).length=(r.takeWhile dc).length+1 by omega,MS]
    exact sW hc
   ·split at hk<;>cases hk
   ·split at hk<;>cases hk
theorem mQ {c:UInt8}{r:List UInt8}(hl:r.length<=3000)(hn:5000<=n)(hc:jw c=false):ci.F n (bt (c::r))=some 0:=by
 rw[lk n (c::r) (by simp;omega) (by simp;omega)]
 simp[hc]
theorem kM (pre q:List UInt8)(len:Nat):Jz (bt (pre++q)) (Jg (pre.length:Int)) (Jg ((pre.length+len:Nat):Int))=bt (q.take len):=by
 rw[JD,JD,fV]
 congr 1
 rw[List.take_append,List.drop_append]
 simp
theorem rP (pre q:List UInt8)(len:Nat)(h:len<=q.length):(0:Int)<=(pre.length:Int)/\(pre.length:Int)<=((pre.length+len:Nat):Int)/\((pre.length+len:Nat):Int)<=(Jf (bt (pre++q)):Int):=by
 rw[ah,Jk];omega
theorem Aa {p:UInt8->Bool}(r:List UInt8):r.take (r.takeWhile p).length=r.takeWhile p:=by
 induction r with
 |nil=>rfl
 |cons x r ih=>rw[JR];split<;>simp[ih]
theorem EP (pre r:List UInt8)(c:UInt8)(hl:(pre++c::r).length<=3000)(hn:5000<=n)(hc:cV c=true):
  wJ n pre c r λKn out tk=>az.j4 n (bt (pre++c::r)) [] (pre.length:Int) (c.toNat:Int) ((pre.length+1:Nat):Int) false out tk Kn:=by
 simp only[Jk,Jj]at hl;have hle:=wI (p:=cV) r;have hq34:¬c=34:=λe=>by subst e;revert hc;decide
 have htake:(c::r).take (1+(r.takeWhile cV).length)=c::r.takeWhile cV:=by
  rw[show 1+(r.takeWhile cV).length=(r.takeWhile cV).length+1 by omega,MS,Aa]
 have htw:(c::r).takeWhile cV=c::r.takeWhile cV:=by rw[JR,hc];rfl
 obtain⟨v,ok,s1,s2,s3⟩:=pG n (c::r.takeWhile cV) (by omega);obtain⟨k,k1,k2⟩:=BO n (c::r.takeWhile cV) (by simp;omega) (by simp;omega);have hkn:=yS k2;have hsp:∀Kn out tk,az.j4 n (bt (pre++c::r)) [] (pre.length:Int) (c.toNat:Int) ((pre.length+1:Nat):Int) false out tk Kn=
   if ok=true then Kn ((pre.length+(1+(r.takeWhile cV).length):Nat):Int) (3,tk.2)else some ([],(pre.length:Int),4):=by
  intro Kn out tk;unfold az.j4;rw[ao (by simp),lK,Jc,ab hc];have e1:=FR (n:=n) (t23:=[]) (a:=(pre.length:Int)) (t25:=out) (tk:=tk) (K:=λt55=>
    if(0:Int)<=(pre.length:Int)/\(pre.length:Int)<=t55/\t55<=(Jf (bt (pre++c::r)):Int)then
    (bn.F n (Jz (bt (pre++c::r)) (Jg (pre.length:Int)) (Jg t55))).bind λr56=>
    if(!r56.2)=true then some ([],(pre.length:Int),4)else Kn t55 (3,tk.2)
    else none) r (pre++[c]) n (by simp;omega) (by omega)
  rw[show(pre++[c])++r=pre++c::r by simp,show((pre++[c]).length:Int)=((pre.length+1:Nat):Int)by simp,show(pre++[c]).length+(r.takeWhile cV).length=pre.length+(1+(r.takeWhile cV).length)by simp;omega]at e1;refine e1.trans ?_;rw[ab (rP pre (c::r) _ (by simp;omega)),kM,htake,s1,Jc];cases ok<;>simp
 have him:bZ.F n (bt (c::r))=if k=1 then some (3,((1+(r.takeWhile cV).length:Nat):Int),0)else some (0,0,4):=by
  unfold bZ.F;rw[mQ (by omega) hn (Hc hc).1,Jc,ao (by simp),ab (HX c r),gl,iJ,Jc,ab hc];have e1:=FV (n:=n) (K:=λt7=>
    if(0:Int)<=0/\(0:Int)<=t7/\t7<=(Jf (bt (c::r)):Int)then
    (gC.F n (Jz (bt (c::r)) (Jg 0) (Jg t7))).bind λr8=>
    if(!decide (r8=1))=true then some (0,0,4)else some (3,t7,0)
    else none) (c::r) [] n (by simp;omega) (by simp;omega)
  simp only[Kg,Jo,Nat.zero_add,htw,Jj]at e1;refine e1.trans ?_;have b:(0:Int)<=0/\(0:Int)<=(((r.takeWhile cV).length+1:Nat):Int)/\(((r.takeWhile cV).length+1:Nat):Int)<=(Jf (bt (c::r)):Int):=by rw[ah];simp only[Jj];omega
  have x:=kM [] (c::r) ((r.takeWhile cV).length+1);simp only[Kg,Jo,Nat.zero_add]at x;rw[ab b];rw[show(r.takeWhile cV).length+1=1+(r.takeWhile cV).length by omega]at x⊢;rw[htake]at x;refine Eq.trans (b:=(gC.F n (bt (c::r.takeWhile cV))).bind λr8=>if(!decide (r8=1))=true then some (0,0,4)else some (3,((1+(r.takeWhile cV).length:Nat):Int),0)) ?_ ?_
  ·exact congrArg (λz=>(gC.F n z).bind _) x
  ·rw[k1,Jc]
   by_cases h:k=1
   ·rw[ao (by simp;omega),ab h]
   ·rw[ab (by simp;omega),ao h]
 by_cases hnum:lj (c::r.takeWhile cV)
 ·have hok:ok=true:=s2.2 hnum
  have hk1:k=1:=hkn.2 hnum;refine .inr ⟨3,1+(r.takeWhile cV).length,by omega,by simp;omega,λKn out tk=>(hsp Kn out tk).trans (ab hok),by rw[him,ab hk1],?_⟩;refine⟨λh=>bJ h (by decide),λh=>bJ h (by decide),λ_=>?_,by rw[htake];have:=ni hnum;omega⟩;rw[htake];exact hnum
 ·have hok:¬ok=true:=λh=>hnum (s2.1 h)
  have hk1:¬k=1:=λh=>hnum (hkn.1 h)
  exact .inl ⟨4,by decide,λKn out tk=>(hsp Kn out tk).trans (ao hok),by rw[him,ao hk1]⟩
theorem EQ (pre r:List UInt8)(hl:(pre++34::r).length<=3000)(hn:5000<=n):
  wJ n pre 34 r λKn out tk=>az.j4 n (bt (pre++34::r)) [] (pre.length:Int) ((34:UInt8).toNat:Int) ((pre.length+1:Nat):Int) false out tk Kn:=by
 simp only[Jk,Jj]at hl;have hle:=wI (p:=iv) r;obtain⟨k,k1,k2⟩:=xw (34::(r.takeWhile iv++[34])).length (34::(r.takeWhile iv++[34])) n (Nat.le_refl _) (by simp;omega) (by simp;omega);have hq:=EO (r:=r) (k:=k) (λ_=>k2);have htake:(r.takeWhile iv).length<r.length->(34::r).take ((r.takeWhile iv).length+2)=34::(r.takeWhile iv++[34]):=by
  intro h;obtain⟨c,c1,c2⟩:=uT h;have hc:c=34:=by unfold iv at c2;simpa using c2
  have hr:=wH c1;rw[hc]at hr;rw[show(r.takeWhile iv).length+2=((r.takeWhile iv).length+1)+1 by omega,MS]
  congr 1
  rw[List.take_add_one,Aa,c1,hc]
  rfl
 have hsp:∀Kn out tk,az.j4 n (bt (pre++34::r)) [] (pre.length:Int) ((34:UInt8).toNat:Int) ((pre.length+1:Nat):Int) false out tk Kn=
   if(r.takeWhile iv).length<r.length/\k=2 then Kn ((pre.length+((r.takeWhile iv).length+2):Nat):Int) (4,tk.2)else some ([],(pre.length:Int),3):=by
  intro Kn out tk;unfold az.j4;rw[ao (by simp),lK,Jc,ao (by decide),ab (by decide)];have e1:=FT (n:=n) (t23:=[]) (a:=(pre.length:Int)) (t25:=out) (tk:=tk) (K:=λt63=>
    if(decide (t63=(Jf (bt (pre++34::r)):Int)))=false then
    if(0:Int)<=(pre.length:Int)/\(pre.length:Int)<=(Jh.wrap (t63+1))/\(Jh.wrap (t63+1))<=(Jf (bt (pre++34::r)):Int)then
    (bc.F n (Jz (bt (pre++34::r)) (Jg (pre.length:Int)) (Jg (Jh.wrap (t63+1))))).bind λr64=>
    if(!decide (r64=2))=true then some ([],(pre.length:Int),3)else Kn (Jh.wrap (t63+1)) (4,tk.2)
    else none
    else some ([],(pre.length:Int),3)) r (pre++[34]) n (by simp;omega) (by omega)
  rw[show(pre++[(34:UInt8)])++r=pre++34::r by simp,show((pre++[(34:UInt8)]).length:Int)=((pre.length+1:Nat):Int)by simp,show(pre++[(34:UInt8)]).length+(r.takeWhile iv).length=pre.length+1+(r.takeWhile iv).length by simp]at e1;refine e1.trans ?_
  by_cases h:(r.takeWhile iv).length<r.length
  ·simp only[nk (show pre.length+1+(r.takeWhile iv).length<=1000000000 by omega)]
   rw[ab (by rw[ah];simp;omega),show pre.length+1+(r.takeWhile iv).length+1=pre.length+((r.takeWhile iv).length+2)by omega,
    ab (rP pre (34::r) _ (by simp;omega)),kM,htake h,k1,Jc]
   by_cases h2:k=2
   ·rw[ao (by simp;omega),ab ⟨h,h2⟩]
   ·rw[ab (by simp;omega),ao (λx=>h2 x.2)]
  ·rw[ao (by rw[ah];simp;omega),ao (λx=>h x.1)]
 have him:bZ.F n (bt (34::r))=if(r.takeWhile eR).length<=20/\r[(r.takeWhile eR).length]? =some 34 then some (4,(((r.takeWhile eR).length+2:Nat):Int),0)else some (0,0,3):=by
  unfold bZ.F;rw[mQ (by omega) hn (by decide),Jc,ao (by simp),ab (HX 34 r),gl,iJ,Jc,ao (by decide),ab (HX 34 r),ab (by decide),nD n 34 r (by omega) (by omega),Jc]
  by_cases h:(r.takeWhile eR).length<=20/\r[(r.takeWhile eR).length]? =some 34
  ·rw[ab h,ab h,ab (by simp;omega)]
  ·rw[ao h,ao h,ao (by simp)]
 by_cases h:(r.takeWhile iv).length<r.length/\k=2
 ·have h2:=hq.1 h
  have e:(r.takeWhile eR).length=(r.takeWhile iv).length:=by
   obtain⟨m,m1,m2,m3⟩:=J6 (k2.sound (by omega)).1 h.2;have em:r.takeWhile iv=m:=NA (MF m3).2;obtain⟨c,c1,c2⟩:=uT h.1;have hc:c=34:=by unfold iv at c2;simpa using c2
   have hr:=wH c1;rw[em,hc]at hr;have:r.takeWhile eR=m:=by rw[hr];exact yT m2 (by decide)
   rw[this,em]
  refine .inr ⟨4,(r.takeWhile iv).length+2,by omega,by simp;omega,λKn out tk=>(hsp Kn out tk).trans (ab h),by rw[him,ab h2,e],?_⟩;exact⟨λh=>bJ h (by decide),λh=>bJ h (by decide),λh=>bJ h (by decide),by rw[KU];omega⟩
 ·exact .inl ⟨3,by decide,λKn out tk=>(hsp Kn out tk).trans (ao h),by rw[him,ao (λx=>h (hq.2 x))]⟩
theorem CR (pre r:List UInt8)(c:UInt8)(hl:(pre++c::r).length<=3000)(hn:5000<=n)(h1:jw c=false)(h2:cV c=false)(h3:¬c=34):
  wJ n pre c r λKn out tk=>az.j4 n (bt (pre++c::r)) [] (pre.length:Int) (c.toNat:Int) ((pre.length+1:Nat):Int) false out tk Kn:=by
 simp only[Jk,Jj]at hl;have h34:decide ((c.toNat:Int)=34)=false:=by rw[kX c 34 (k:=34) rfl];exact dp h3
 have hsp:∀Kn out tk,az.j4 n (bt (pre++c::r)) [] (pre.length:Int) (c.toNat:Int) ((pre.length+1:Nat):Int) false out tk Kn=
   match xR (c::r)with|some t=>Kn ((pre.length+t.length:Nat):Int) (5,tk.2)|none=>some ([],(pre.length:Int),2):=by
  intro Kn out tk;unfold az.j4;have b:(0:Int)<=(pre.length:Int)/\(pre.length:Int)<=(Jf (bt (pre++c::r)):Int)/\(Jf (bt (pre++c::r)):Int)<=(Jf (bt (pre++c::r)):Int):=by
   rw[ah,Jk];omega
  have x:Jz (bt (pre++c::r)) (Jg (pre.length:Int)) (Jg (Jf (bt (pre++c::r)):Int))=bt (c::r):=by
   rw[JD,JD,ah,fV,List.take_length]
   simp
  rw[ao (by simp),lK,Jc,ao (by simp[h2]),ao (by rw[h34];simp),ab b,x,CK,Jc];cases hs:xR (c::r)with
  |none=>
   rw[ab (by rw[iy];show JL (bt []) (bt [])=true;rw[gv];rfl)]
  |some t=>
   obtain⟨t1,t2,t3,t4,t5⟩:=wG hs;have:JL (bt ((some t).getD [])) Jd=false:=by
    rw[iy,gv,beq_eq_false_iff_ne];intro e;simp only[LQ]at e;rw[e]at t2;simp at t2
   rw[this,ao (by simp)];simp only[LQ,ah];simp only[Jj]at t3;rw[aJ _ (by omega) (by omega)]
   rfl
 have him:bZ.F n (bt (c::r))=match xR (c::r)with|some t=>some (5,(t.length:Int),0)|none=>some (0,0,2):=by
  unfold bZ.F;rw[mQ (by omega) hn h1,Jc,ao (by simp),ab (HX c r),gl,iJ,Jc,ao (by simp[h2]),ab (HX c r),ao (by rw[h34];simp)];exact CL n (by omega) c r _
 cases hs:xR (c::r)with
 |none=>exact .inl ⟨2,by decide,λKn out tk=>(hsp Kn out tk).trans (by rw[hs]),by rw[him,hs]⟩
 |some t=>
  obtain⟨t1,t2,t3,t4,t5⟩:=wG hs;refine .inr ⟨5,t.length,t2,t3,λKn out tk=>(hsp Kn out tk).trans (by rw[hs]),by rw[him,hs],?_⟩;refine⟨λh=>bJ h (by decide),λ_=>?_,λh=>bJ h (by decide),by rw[KU];omega⟩;rw[← t1];exact sX t4
theorem ER (pre r:List UInt8)(c:UInt8)(hl:(pre++c::r).length<=3000)(hn:5000<=n){K1:Int->uU}:
  wJ n pre c r λKn out tk=>az.j2 n (bt (pre++c::r)) [] (pre.length:Int) (c.toNat:Int) ((pre.length+1:Nat):Int) false out tk K1 Kn:=by
 unfold az.j2;simp only[Bool.false_eq_true,if_false,pH,qI,Jc]
 by_cases hs:97<=c.toNat/\c.toNat<=122
 ·have hc:jw c=true:=by unfold jw;rw[iN hs];rfl
  simp only[iN hs,Bool.true_eq_false,if_false];exact wK (K1:=K1) pre r c hl hn hc
 ·simp only[dp hs,if_true]
  cases hb:kc c with
  |true=>exact wK (K1:=K1) pre r c hl hn (by unfold jw;rw[hb];simp)
  |false=>
   have hc:jw c=false:=by unfold jw;rw[hb,dp hs];rfl
   by_cases hd:cV c=true
   ·exact EP pre r c hl hn hd
   ·by_cases hq:c=34
    ·subst hq;exact EQ pre r hl hn
    ·exact CR pre r c hl hn hc (JK.2 hd) hq
end
def He (t:Tk):Prop:=0<=t.2.2/\t.2.1.size<=30/\CP t.1 t.2.1.data.toList
section
variable {n:Nat}
def CS (m:Nat)(x y:uU):Prop:=∃R,x=some R/\y=some R/\((R.2.1=0/\R.2.2=0/\R.1.length<=m/\∀t∈R.1,He t)\/R.2.2≠0)
theorem nj {T:List Tk}{pre r:List UInt8}{c:UInt8}{out:List Tk}{tk:Tk}{K1:Int->uU}{Kn:Int->Tk->uU}:
  az.j1 n (bt (pre++c::r)) T (pre.length:Int) (c.toNat:Int) ((pre.length+1:Nat):Int) true out tk K1 Kn=K1 (Jh.wrap ((pre.length:Int)+1)):=by
 unfold az.j1;rw[ab rfl]
theorem oA (hn:5000<=n)(M:Nat)(hM:M<=3000):∀(m:Nat) (r pre:List UInt8) (out:List Tk) (f:Nat),r.length<=m->(pre++r).length=M->r.length<f->out.length<=pre.length->(∀t∈out,He t)->
  CS M (az.l0 n (bt (pre++r)) [] (λt=>some (t,0,0)) f (pre.length:Int) out) (cZ.l0 n (bt (pre++r)) (λt=>some (t,0,0)) f (pre.length:Int) out)
 |m,r,pre,out,0,_,_,hf,_,_=>by omega
 |m,[],pre,out,f+1,hm,hl,hf,ho,hx=>by
  rw[az.l0,cZ.l0,ah,ao (by simp),ao (by simp)];simp only[Jk,Jo]at hl;exact⟨_,rfl,rfl,.inl ⟨rfl,rfl,by simp only;omega,hx⟩⟩
 |0,c::r,pre,out,f+1,hm,hl,hf,ho,hx=>by simp at hm
 |m+1,c::r,pre,out,f+1,hm,hl,hf,ho,hx=>by
  simp only[Jk,Jj]at hl hm hf;have hl':(pre++c::r).length=M:=by simp;omega
  have hin:(0:Int)<=(pre.length:Int)/\(pre.length:Int)<(Jf (bt (pre++c::r)):Int):=by rw[ah];exact cC pre r c
  have hlt:decide ((pre.length:Int)<(Jf (bt (pre++c::r)):Int))=true:=iN hin.2;obtain⟨v,b1,b2⟩:=CJ n c;have next:CS M (az.l0 n (bt (pre++c::r)) [] (λt=>some (t,0,0)) f ((pre.length+1:Nat):Int) out) (cZ.l0 n (bt (pre++c::r)) (λt=>some (t,0,0)) f ((pre.length+1:Nat):Int) out):=by
   have:=oA hn M hM m r (pre++[c]) out f (by omega) (by simp;omega) (by omega) (by simp;omega) hx;rw[show(pre++[c])++r=pre++c::r by simp,show((pre++[c]).length:Int)=((pre.length+1:Nat):Int)by simp]at this;exact this
  rw[az.l0,cZ.l0,ab hlt,ab hlt,ab hin,ab hin,ei,b1,Jc,b2];rw[kX c 32 (k:=32) rfl,kX c 9 (k:=9) rfl,kX c 10 (k:=10) rfl,kX c 13 (k:=13) rfl,nk (by omega)]
  by_cases hb:yQ c=true
  ·-- a blank
   rw[ab hb];unfold yQ at hb
   by_cases h1:c=32
   ·rw[iN h1,ao (by simp),nj,nk (by omega)];exact next
   rw[dp h1,ab rfl]
   by_cases h2:c=9
   ·rw[iN h2,ao (by simp),nj,nk (by omega)];exact next
   rw[dp h2,ab rfl]
   by_cases h3:c=10
   ·rw[iN h3,ao (by simp),nj,nk (by omega)];exact next
   rw[dp h3,ab rfl];have h4:c=13:=by simpa[h1,h2,h3]using hb
   rw[iN h4,nj,nk (by omega)];exact next
  ·rw[ao hb]
   have nb:yQ c=false:=JK.2 hb;unfold yQ at nb;simp only[K8,vk]at nb;obtain⟨⟨⟨h1,h2⟩,h3⟩,h4⟩:=nb;rw[dp h1,dp h2,dp h3,dp h4,ab rfl,ab rfl,ab rfl];have b:(0:Int)<=(pre.length:Int)/\(pre.length:Int)<=(Jf (bt (pre++c::r)):Int)/\(Jf (bt (pre++c::r)):Int)<=(Jf (bt (pre++c::r)):Int):=by
    rw[ah,Jk];omega
   have x:Jz (bt (pre++c::r)) (Jg (pre.length:Int)) (Jg (Jf (bt (pre++c::r)):Int))=bt (c::r):=by
    rw[JD,JD,ah,fV,List.take_length]
    simp
   rw[ab b,x,show(⟨#[47,47]⟩:ByteArray)=bt [47,47]from rfl,oz,Jc]
   by_cases hc:(c::r).take 2=[47,47]
   ·-- a comment
    obtain⟨r',e1,e2⟩:∃r',c=47/\r=47::r':=by
     cases r with
     |nil=>simp at hc
     |cons d r'=>simp at hc;exact⟨r',hc.1,by rw[hc.2]⟩
    have hq:((c::r).take [(47:UInt8),47].length==[47,47])=true:=by rw[beq_iff_eq];exact hc
    rw[hq,ab rfl];unfold az.j1;have at1:aO (bt (pre++c::r)) ((pre.length+1:Nat):Int)=47:=by
     rw[e2,show pre++c::47::r'=(pre++[c])++47::r' by simp,show((pre.length+1:Nat):Int)=((pre++[c]).length:Int)by simp,ei];rfl
    have lt1:((pre.length+1:Nat):Int)<(Jf (bt (pre++c::r)):Int):=by rw[ah,e2];simp;omega
    rw[ao (by simp),kX c 47 (k:=47) rfl,iN e1,ab rfl,nk (by omega),ab (iN lt1),ab ⟨by omega,lt1⟩,at1];unfold az.j2;rw[ab (by decide)];have s1:=FQ (n:=n) (t23:=[]) (t25:=out) (K:=λt=>az.l0 n (bt (pre++c::r)) [] (λt=>some (t,0,0)) f t out) (c::r) pre n (by omega) (by simp;omega);have s2:=FU (n:=n) (t9:=out) (K:=λt=>cZ.l0 n (bt (pre++c::r)) (λt=>some (t,0,0)) f t out) (c::r) pre n (by omega) (by simp;omega);refine Eq.mpr (congr (congrArg (CS M) s1) s2) ?_;have htw:(c::r).takeWhile nO=c::r.takeWhile nO:=by rw[JR,e1];rfl
    have:=oA hn M hM m (r.drop (r.takeWhile nO).length) (pre++(c::r.takeWhile nO)) out f (by simp;omega) (by
     have:=wI (p:=nO) r
     simp;omega) (by simp;omega) (by simp;omega) hx
    have ew:(pre++(c::r.takeWhile nO))++r.drop (r.takeWhile nO).length=pre++c::r:=by
     rw[JO,KK,← n7]
    rw[ew,show((pre++(c::r.takeWhile nO)).length:Int)=((pre.length+((c::r).takeWhile nO).length:Nat):Int)by rw[htw];simp]at this;exact this
   ·-- a token
    have hq:((c::r).take [(47:UInt8),47].length==[47,47])=false:=by rw[beq_eq_false_iff_ne];exact hc
    rw[hq,ao (by simp)];have hj1:∀(tk:Tk) (K1:Int->uU) (Kn:Int->Tk->uU),az.j1 n (bt (pre++c::r)) [] (pre.length:Int) (c.toNat:Int) ((pre.length+1:Nat):Int) false out tk K1 Kn=
      az.j2 n (bt (pre++c::r)) [] (pre.length:Int) (c.toNat:Int) ((pre.length+1:Nat):Int) false out tk K1 Kn:=by
     intro tk K1 Kn;unfold az.j1;rw[ao (by simp),kX c 47 (k:=47) rfl]
     by_cases h47:c=47
     ·rw[iN h47,ab rfl,nk (by omega)]
      cases hr:r with
      |nil=>rw[ao (by rw[ah];simp)]
      |cons d r'=>
       have lt1:((pre.length+1:Nat):Int)<(Jf (bt (pre++c::d::r')):Int):=by rw[ah];simp;omega
       have at1:aO (bt (pre++c::d::r')) ((pre.length+1:Nat):Int)=(d.toNat:Int):=by
        rw[show pre++c::d::r'=(pre++[c])++d::r' by simp,show((pre.length+1:Nat):Int)=((pre++[c]).length:Int)by simp,ei]
       have hd:¬d=47:=λe=>hc (by rw[hr,h47,e];rfl)
       rw[ab (iN lt1),ab ⟨by omega,lt1⟩,at1,kX d 47 (k:=47) rfl,dp hd]
     ·rw[dp h47,ao (by simp)]
    rw[hj1,ab b];rcases ER (K1:=λt=>az.l0 n (bt (pre++c::r)) [] (λt=>some (t,0,0)) f t out) pre r c (by omega) hn with⟨code,hcode,t1,t2⟩|⟨K,len,q1,q2,t1,t2,t3⟩
    ·rw[t2,Jc,ab (by simp[hcode])]
     refine⟨([],(pre.length:Int),code),t1 _ _ _,rfl,.inr hcode⟩
    ·simp only[Jj]at q2
     rw[t2,Jc,ao (by simp)];have hw:Jh.wrap ((pre.length:Int)+(len:Int))=((pre.length+len:Nat):Int):=by rw[aJ _ (by omega) (by omega)];omega
     have bb:=rP pre (c::r) len (by simp;omega);simp only[hw];rw[ab bb,kM,ab (cI (by omega))];have e2:=t1 (λt80 t81=>az.j8 n (bt (pre++c::r)) [] (pre.length:Int) t80 out t81 λt88=>az.l0 n (bt (pre++c::r)) [] (λt=>some (t,0,0)) f t80 t88) out (0,(Jd,(pre.length:Int)));refine Eq.mpr (congrArg (λz=>CS M z _) e2) ?_;show CS M (az.j8 n (bt (pre++c::r)) [] (pre.length:Int) ((pre.length+len:Nat):Int) out (K,(Jd,(pre.length:Int))) _) _;unfold az.j8;rw[ab bb,kM,ab (cI (by omega))];have htk:He (K,(bt ((c::r).take len),(pre.length:Int))):=⟨by simp only;omega,by simp only[ah];exact t3.len,by simp only[ez];exact t3⟩;have:=oA hn M hM m ((c::r).drop len) (pre++(c::r).take len) (out++[(K,(bt ((c::r).take len),(pre.length:Int)))]) f (by simp;omega) (by simp;omega) (by simp;omega) (by simp;omega) (by
      intro t ht;rcases List.mem_append.1 ht with ht|ht
      ·exact hx t ht
      ·rw[List.mem_singleton.1 ht];exact htk)
     rw[show(pre++(c::r).take len)++(c::r).drop len=pre++c::r by rw[JO,List.take_append_drop],show((pre++(c::r).take len).length:Int)=((pre.length+len:Nat):Int)by simp;omega]at this;exact this
theorem Bx {n:Nat}(hn:100000<=n){l:List UInt8}(h:lj l):∃a b u,bn.F n (bt l)=some a/\bR.F n (Jh.wrap (0 - a.1))=some u/\iB.F n (bt l)=some b/\de.F n (Jh.wrap (0 - b))=some u/\u.size<=30:=by
 obtain⟨v,ok,s1,s2,s3⟩:=pG n l (by omega);obtain⟨e,v0,v1⟩:=s3 (s2.2 h);have hw:Jh.wrap (0 - v)= -v:=by rw[aJ _ (by omega) (by omega)];omega
 have hlen:=ni h;refine⟨(v,ok),v,bt (Lib.itoa (-v)),s1,?_,?_,?_,?_⟩
 ·simp only[hw]
  exact vc n (-v) (by omega) (by omega) (by omega)
 ·unfold iB.F eX.F
  rw[ah,ab (by omega),ez,e,tQ v v0 v1]
  rfl
 ·rw[hw]
  unfold de.F;rw[ab (by omega)]
  rfl
 ·rw[ah]
  have:=ni ⟨-v,by omega,by omega,rfl⟩;omega
theorem Bz {n:Nat}(hn:100000<=n):∃a b u,bn.F n Jd=some a/\bR.F n (Jh.wrap (0 - a.1))=some u/\iB.F n Jd=some b/\de.F n (Jh.wrap (0 - b))=some u/\u.size<=30:=by
 refine⟨(0,false),0,⟨#[48]⟩,?_,?_,?_,?_,by decide⟩
 ·unfold bn.F
  rw[ao (by decide)];unfold bn.j0;rw[dz,Jc,ab (by decide)]
 ·have:Jh.wrap (0 - (0:Int))=0:=by decide
  simp only[this];unfold bR.F;rw[ab (by decide)]
 ·rfl
 ·have:Jh.wrap (0 - (0:Int))=0:=by decide
  rw[this];unfold de.F;rw[ab (by decide)];have h1:=vc n 0 (by omega) (by decide) (by decide);unfold bR.F at h1;rw[ab (by decide)]at h1;exact h1.symm
theorem BA (hn:5000<=n)(s:ByteArray):
  (∃L,az.F n s=some (L,0,0)/\cZ.F n s=some (L,0,0)/\ef L (s.size:Int))\/
  (∃L p c,c≠0/\az.F n s=some (L,p,c)/\cZ.F n s=some (L,p,c)):=by
 unfold az.F cZ.F
 by_cases h:(s.size:Int)>3000
 ·rw[ab (by simpa using h),ab (by simpa using h)]
  exact .inr ⟨_,_,_,by decide,rfl,rfl⟩
 ·rw[ao (by simpa using h),ao (by simpa using h)]
  have e:=jv s;have hsz:s.data.toList.length=s.size:=rfl;have:=oA (n:=n) hn s.data.toList.length (by omega) s.data.toList.length s.data.toList [] [] n (Nat.le_refl _) (by simp) (by omega) (by simp) (by simp);simp only[Kg,Jo]at this;rw[← e]at this;obtain⟨⟨L,p,c⟩,r1,r2,r3⟩:=this;rcases r3 with⟨r3,r4,r5,r6⟩|r3
  ·simp only at r3 r4 r5 r6
   subst r3;subst r4;refine .inl ⟨L,r1,r2,?_⟩
   ·refine⟨by omega,by omega,λt ht=>(r6 t ht).1,λt ht=>(r6 t ht).2.1,λt ht h1=>?_,λt ht h1=>?_,?_⟩
    ·have:=(r6 t ht).2.2.sg h1;rwa [← jv]at this
    ·have:=(r6 t ht).2.2.wd h1;rwa [← jv]at this
    ·rintro n' hn' s' (rfl|⟨t,ht,t1,rfl⟩)
     ·exact Bz hn'
     ·have:=Bx hn' ((r6 t ht).2.2.num t1)
      rwa [← jv]at this
  ·exact .inr ⟨L,p,c,r3,r1,r2⟩
theorem CT (hn:200000<=n)(s:ByteArray):∃R,dV.F n s=some R/\dv.F n s=some R/\Ap R:=by
 rcases BA (n:=n) (by omega) s with⟨L,h1,h2,H⟩|⟨L,p,c,hc,h1,h2⟩
 ·exact Dx H hn h1 h2
 ·exact BL hc h1 h2
end
end Go.Abs
