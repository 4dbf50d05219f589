/- The tokens: both sides see the same ones. Conditions: none. -/
import Derived.Test.YtkelpajcfmghiaaGreatDoorT7
import Derived.Test.YtkelpajcfmghiaaGreatDoorP8
open Bool renaming eq_false_iff → JV,or_eq_false_iff → Lp
open ByteArray renaming empty → Jq,extract → JO,size → Js
open Go.Abs renaming seq → Km
open Go.IntKind renaming i64 → Ju
open Go.Lib renaming indexByte → Mc
open Int renaming toNat → Jt,toNat_natCast → JS
open List renaming append_assoc → Ka,append_cancel_right → NS,cons_append → Lc,contains_cons → OP,contains_nil → O8,drop_zero → JY,find? → OQ,length → Jr,length_append → Jx,length_cons → Jw,length_nil → JB,length_take → Li,mem_cons → JX,nil_append → Kx,not_mem_nil → L7,takeWhile_cons → Ke,take_succ_cons → M8
open List.cons renaming inj → MV
open Option renaming bind_some → Jp,getD_some → L8
set_option linter.unusedVariables false
set_option linter.unusedSimpArgs false
namespace Go.Abs
theorem oJ (n:Nat)(l t:List UInt8):dZ.F n (bt l) (bt t)=some (l.take t.length==t):=by
 unfold dZ.F internal_stringslite_HasPrefix.F;rw[ah,ah]
 by_cases h:t.length<=l.length
 ·rw[ab (by simp;omega),ab (by omega),show Jt 0=0 from rfl,JS,gb,gz,JY,Jp]
 ·rw[ao (by simp;omega),Jp]
  congr 1
  symm
  rw[beq_eq_false_iff_ne];intro e;have:=congrArg Jr e;rw[Li]at this;omega
def zn (c:UInt8):Bool:=decide (c=32)||decide (c=9)||decide (c=10)||decide (c=13)
theorem Df (c:UInt8):∀l:List UInt8,-1<=Mc l c/\(Mc l c>=0↔c∈l)
 |[]=>by simp[Mc]
 |b::l=>by
  obtain⟨h1,h2⟩:=Df c l;unfold Mc
  by_cases h:b=c
  ·subst h;simp
  ·rw[ao (by simp[h])]
   have h':¬c=b:=λe=>h e.symm
   by_cases h3:Mc l c= -1
   ·rw[ab (by simp[h3])]
    have:¬c∈l:=λe=>by have:=h2.2 e;omega
    simp[h',this]
   ·rw[ao (by simp[h3])]
    have:c∈l:=h2.1 (by omega)
    simp[this]
    omega
theorem Dg (n:Nat)(c:UInt8):∃v,ix.F n ⟨#[32,9,10,13]⟩ (c.toNat:Int)=some v/\decide (v>=0)=zn c:=by
 refine⟨_,rfl,?_⟩;have h:(Jt (c.toNat:Int)).toUInt8=c:=by rw[JS];exact UInt8.ofNat_toNat
 rw[h];show decide (Mc [32,9,10,13] c>=0)=zn c;have e:decide (Mc [32,9,10,13] c>=0)=decide (c∈[32,9,10,13]):=decide_eq_decide.2 (Df c [32,9,10,13]).2;rw[e];unfold zn
 simp[Bool.or_assoc]
def sgl:List UInt8:=[40,41,44,46,33,61,60,43,45,42,124,95]
def dbl:List (List UInt8):=[[58,45],[33,61],[60,61]]
def yl (l:List UInt8):Option (List UInt8):=
 if dbl.contains (l.take 2)=true then some (l.take 2)else match l with|[]=>none|c::_=>if sgl.contains c=true then some [c]else none
theorem lk (c v:UInt8){k:Int}(h:k=(v.toNat:Int)):decide ((c.toNat:Int)=k)=decide (c=v):=by
 rw[h,decide_eq_decide]
 constructor
 ·intro e;exact UInt8.toNat_inj.1 (by omega)
 ·intro e;rw[e]
theorem Ft (n:Nat)(c:UInt8)(r:List UInt8):fQ.j0 n (bt (c::r))=some (if sgl.contains c=true then bt [c]else Jq):=by
 unfold fQ.j0;have hin:(0:Int)<=0/\(0:Int)<(Js (bt (c::r)):Int):=by rw[ah];simp only[Jw];omega
 have hex:(0:Int)<=0/\(0:Int)<=1/\1<=(Js (bt (c::r)):Int):=by rw[ah];simp only[Jw];omega
 have ex:JO (bt (c::r)) (Jt 0) (Jt 1)=bt [c]:=by
  rw[show Jt 0=0 from rfl,show Jt 1=1 from rfl,gb];rfl
 simp only[iw,ab hin,ab hex,ex];rw[lk c 40 (k:=40) rfl,lk c 41 (k:=41) rfl,lk c 44 (k:=44) rfl,lk c 46 (k:=46) rfl,lk c 33 (k:=33) rfl,lk c 61 (k:=61) rfl,lk c 60 (k:=60) rfl,lk c 43 (k:=43) rfl,lk c 45 (k:=45) rfl,lk c 42 (k:=42) rfl,lk c 124 (k:=124) rfl,lk c 95 (k:=95) rfl]
 by_cases h1:c=40
 ·subst h1;rfl
 rw[dq h1]
 by_cases h2:c=41
 ·subst h2;rfl
 rw[dq h2]
 by_cases h3:c=44
 ·subst h3;rfl
 rw[dq h3]
 by_cases h4:c=46
 ·subst h4;rfl
 rw[dq h4]
 by_cases h5:c=33
 ·subst h5;rfl
 rw[dq h5]
 by_cases h6:c=61
 ·subst h6;rfl
 rw[dq h6]
 by_cases h7:c=60
 ·subst h7;rfl
 rw[dq h7]
 by_cases h8:c=43
 ·subst h8;rfl
 rw[dq h8]
 by_cases h9:c=45
 ·subst h9;rfl
 rw[dq h9]
 by_cases h10:c=42
 ·subst h10;rfl
 rw[dq h10]
 by_cases h11:c=124
 ·subst h11;rfl
 rw[dq h11]
 by_cases h12:c=95
 ·subst h12;rfl
 rw[dq h12];have:sgl.contains c=false:=by simp[sgl,h1,h2,h3,h4,h5,h6,h7,h8,h9,h10,h11,h12]
 rw[this]
 rfl
theorem zo {c:UInt8}{r:List UInt8}(h:dbl.contains ((c::r).take 2)=false):yl (c::r)=if sgl.contains c=true then some [c]else none:=by
 unfold yl;rw[h]
 rfl
theorem Dh (n:Nat)(c:UInt8)(r:List UInt8):fQ.F n (bt (c::r))=some (bt ((yl (c::r)).getD [])):=by
 unfold fQ.F;rw[ah];have j:fQ.j0 n (bt (c::r))=some (bt ((if sgl.contains c=true then some [c]else none:Option (List UInt8)).getD [])):=by
  rw[Ft]
  split<;>rfl
 by_cases h:1<(c::r).length
 ·have hex:(0:Int)<=0/\(0:Int)<=2/\2<=((c::r).length:Int):=by omega
  have ex:JO (bt (c::r)) (Jt 0) (Jt 2)=bt ((c::r).take 2):=by
   rw[show Jt 0=0 from rfl,show Jt 2=2 from rfl,gb,JY]
  rw[ab (by simp at h⊢;omega)];simp only[ab hex,ex];show(if Km (bt ((c::r).take 2)) (bt [58,45])=true then _ else if Km (bt ((c::r).take 2)) (bt [33,61])=true then _ else _)=_;rw[show(⟨#[58,45]⟩:ByteArray)=bt [58,45]from rfl,show(⟨#[33,61]⟩:ByteArray)=bt [33,61]from rfl,show(⟨#[60,61]⟩:ByteArray)=bt [60,61]from rfl,gz,gz,gz,j]
  by_cases h1:(c::r).take 2=[58,45]
  ·unfold yl;rw[h1];rfl
  ·rw[ao (by rw[beq_iff_eq];exact h1)]
   by_cases h2:(c::r).take 2=[33,61]
   ·unfold yl;rw[h2];rfl
   ·rw[ao (by rw[beq_iff_eq];exact h2)]
    by_cases h3:(c::r).take 2=[60,61]
    ·unfold yl;rw[h3];rfl
    ·rw[ao (by rw[beq_iff_eq];exact h3)]
     have:dbl.contains ((c::r).take 2)=false:=by
      simp only[dbl,OP,O8,Bool.or_false,Lp,beq_eq_false_iff_ne];exact⟨h1,h2,h3⟩
     rw[zo this]
 ·have hr:r=[]:=by simp at h;exact h
  subst hr;rw[ao (by simp),j];have:dbl.contains ([c].take 2)=false:=by simp[dbl]
  rw[zo this]
theorem sc (n:Nat)(l:List UInt8)(K:Unit->Option (Int×Int×Int)):∀(r pre:List (List UInt8)) (k:Nat),(pre++r).length<=100->r.length+1<=k->
  bZ.l1 n (bt l) ((pre++r).map bt) (Jr ((pre++r).map bt):Int) K k (pre.length:Int)=match r.find? (λt=>l.take t.length==t)with|some t=>some (5,(t.length:Int),0)|none=>K ()
 |r,pre,0,_,hk=>by omega
 |[],pre,k+1,hl,hk=>by
  rw[bZ.l1,ao (by simp)]
  rfl
 |t::r,pre,k+1,hl,hk=>by
  have hlen:(Jr ((pre++t::r).map bt):Int)=((pre++t::r).length:Int):=by simp
  have hlt:(pre.length:Int)<((pre++t::r).length:Int):=by simp;omega
  have hget:List.getD ((pre++t::r).map bt) (Jt (pre.length:Int)) Jq=bt t:=by
   rw[JS];simp
  rw[bZ.l1,ab (by rw[hlen];exact iX hlt),ab ⟨by omega,by rw[hlen];exact hlt⟩,hget,oJ,Jp,List.find?_cons];cases h:(l.take t.length==t)with
  |true=>rw[ab rfl,ah]
  |false=>
   simp only[Jx,Jw]at hl;rw[ao (by simp),ny (by omega),show((pre.length+1:Nat):Int)=((pre++[t]).length:Int)by simp,show pre++t::r=(pre++[t])++r by simp,
    sc n l K r (pre++[t]) k (by simp;omega) (by simpa using hk)]
theorem xb (c:UInt8)(r:List UInt8):∀S:List UInt8,(S.map λx=>[x]).find? (λt=>(c::r).take t.length==t)=if S.contains c=true then some [c]else none
 |[]=>rfl
 |x::S=>by
  rw[List.map_cons,List.find?_cons];have e:((c::r).take [x].length==[x])=(c==x):=by simp
  rw[e]
  by_cases h:c=x
  ·subst h;simp
  ·rw[beq_eq_false_iff_ne.2 h]
   simp only[xb c r S]
   simp[h]
theorem Di (n:Nat)(hn:30<=n)(c:UInt8)(r:List UInt8)(K:Unit->Option (Int×Int×Int)):
  bZ.l1 n (bt (c::r)) dA (Jr dA:Int) K n 0=match yl (c::r)with|some t=>some (5,(t.length:Int),0)|none=>K ():=by
 have h:=sc n (c::r) K (dbl++sgl.map λx=>[x]) [] n (by decide) (by simp[dbl,sgl];omega);refine Eq.trans (b:=_) h ?_;rw[List.find?_append,xb]
 by_cases h1:(c::r).take 2=[58,45]
 ·unfold yl;simp[dbl,OQ,h1]
 ·by_cases h2:(c::r).take 2=[33,61]
  ·unfold yl;simp[dbl,OQ,h2]
  ·by_cases h3:(c::r).take 2=[60,61]
   ·unfold yl;simp[dbl,OQ,h3]
   ·have e1:dbl.find? (λt=>(c::r).take t.length==t)=none:=by
     rw[List.find?_eq_none];intro x hx;simp only[dbl,JX,L7,or_false]at hx;rw[Bool.not_eq_true,beq_eq_false_iff_ne];rcases hx with rfl|rfl|rfl<;>assumption
    have e2:dbl.contains ((c::r).take 2)=false:=by
     simp only[dbl,OP,O8,Bool.or_false,Lp,beq_eq_false_iff_ne];exact⟨h1,h2,h3⟩
    rw[e1,Option.none_or,zo e2]
theorem xc {l t:List UInt8}(h:yl l=some t):t=l.take t.length/\1<=t.length/\t.length<=l.length/\bt t∈dA/\t.length<=2:=by
 unfold yl at h
 split at h
 ·rename_i hd
  cases h;have hm:l.take 2∈dbl:=by simpa using hd
  have hl:(l.take 2).length=2:=by
   simp only[dbl,JX,L7,or_false]at hm;rcases hm with e|e|e<;>rw[e]<;>rfl
  refine⟨by rw[hl],by omega,by rw[Li]at hl⊢;omega,?_,by omega⟩;simp only[dbl,JX,L7,or_false]at hm;rcases hm with e|e|e<;>rw[e]<;>simp[dA,bt]
 ·cases l with
  |nil=>cases h
  |cons c r=>
   simp only at h
   split at h
   ·rename_i hs
    cases h;refine⟨by simp,by simp,by simp,?_,by simp⟩;have hm:c∈sgl:=by simpa using hs
    simp only[sgl,JX,L7,or_false]at hm;rcases hm with e|e|e|e|e|e|e|e|e|e|e|e<;>rw[e]<;>simp[dA,bt]
   ·cases h
def iy (c:UInt8):Bool:=!decide (c=34)
def nZ (c:UInt8):Bool:=!decide (c=10)
theorem Fu (c:UInt8):(!decide ((c.toNat:Int)=34))=iy c:=by unfold iy;rw[lk c 34 (k:=34) rfl]
theorem Av (c:UInt8):(!decide ((c.toNat:Int)=10))=nZ c:=by unfold nZ;rw[lk c 10 (k:=10) rfl]
section
variable {n:Nat}
theorem Gi {t23 t25:List Tk}{K:Int->Option ((List Tk)×Int×Int)}:∀(q pre:List UInt8) (k:Nat),(pre++q).length<=4294967296->q.length+1<=k->
  az.l3 n (bt (pre++q)) t23 t25 K k (pre.length:Int)=K ((pre.length+(q.takeWhile nZ).length:Nat):Int)
 |q,pre,0,_,hk=>by omega
 |[],pre,k+1,hl,hk=>by
  rw[az.l3,ah,ao (by simp)]
  rfl
 |c::q,pre,k+1,hl,hk=>by
  rw[az.l3,ah,ab (iX (fC pre q c)),ab (cF pre q c),eu,Av];simp only[Jp,Ke];simp only[Jx,Jw]at hl;cases hw:nZ c with
  |false=>rw[ao (by simp)];rfl
  |true=>
   rw[ab (by simp),aK _ (by omega) (by omega),ia pre c,eR,Gi q (pre++[c]) k (by simp;omega) (by simpa using hk)]
   congr 2
   simp
   omega
theorem Dj {t23:List Tk}{a b:Int}{t25:List Tk}{tk:Tk}{K:Int->Option ((List Tk)×Int×Int)}:∀(q pre:List UInt8) (k:Nat),(pre++q).length<=4294967296->q.length+1<=k->
  az.l5 n (bt (pre++q)) t23 a b t25 tk K k (pre.length:Int)=K ((pre.length+(q.takeWhile dt).length:Nat):Int)
 |q,pre,0,_,hk=>by omega
 |[],pre,k+1,hl,hk=>by
  rw[az.l5,ah,ao (by simp)]
  rfl
 |c::q,pre,k+1,hl,hk=>by
  rw[az.l5,ah,ab (iX (fC pre q c)),ab (cF pre q c),eu,sK];simp only[Jp,Ke];simp only[Jx,Jw]at hl;cases hw:dt c with
  |false=>rw[ao (by simp)];rfl
  |true=>
   rw[ab (by simp),aK _ (by omega) (by omega),ia pre c,eR,Dj q (pre++[c]) k (by simp;omega) (by simpa using hk)]
   congr 2
   simp
   omega
theorem Gj {t23:List Tk}{a:Int}{t25:List Tk}{tk:Tk}{K:Int->Option ((List Tk)×Int×Int)}:∀(q pre:List UInt8) (k:Nat),(pre++q).length<=4294967296->q.length+1<=k->
  az.l6 n (bt (pre++q)) t23 a t25 tk K k (pre.length:Int)=K ((pre.length+(q.takeWhile cY).length:Nat):Int)
 |q,pre,0,_,hk=>by omega
 |[],pre,k+1,hl,hk=>by
  rw[az.l6,ah,ao (by simp)]
  rfl
 |c::q,pre,k+1,hl,hk=>by
  rw[az.l6,ah,ab (iX (fC pre q c)),ab (cF pre q c),eu,lR];simp only[Jp,Ke];simp only[Jx,Jw]at hl;cases hw:cY c with
  |false=>rw[ao (by simp)];rfl
  |true=>
   rw[ab (by simp),aK _ (by omega) (by omega),ia pre c,eR,Gj q (pre++[c]) k (by simp;omega) (by simpa using hk)]
   congr 2
   simp
   omega
theorem Gk {t23:List Tk}{a:Int}{t25:List Tk}{tk:Tk}{K:Int->Option ((List Tk)×Int×Int)}:∀(q pre:List UInt8) (k:Nat),(pre++q).length<=4294967296->q.length+1<=k->
  az.l7 n (bt (pre++q)) t23 a t25 tk K k (pre.length:Int)=K ((pre.length+(q.takeWhile iy).length:Nat):Int)
 |q,pre,0,_,hk=>by omega
 |[],pre,k+1,hl,hk=>by
  rw[az.l7,ah,ao (by simp)]
  rfl
 |c::q,pre,k+1,hl,hk=>by
  rw[az.l7,ah,ab (iX (fC pre q c)),ab (cF pre q c),eu,Fu];simp only[Jp,Ke];simp only[Jx,Jw]at hl;cases hw:iy c with
  |false=>rw[ao (by simp)];rfl
  |true=>
   rw[ab (by simp),aK _ (by omega) (by omega),ia pre c,eR,Gk q (pre++[c]) k (by simp;omega) (by simpa using hk)]
   congr 2
   simp
   omega
theorem Gl {t9:List Tk}{K:Int->Option ((List Tk)×Int×Int)}:∀(q pre:List UInt8) (k:Nat),(pre++q).length<=4294967296->q.length+1<=k->
  db.l1 n (bt (pre++q)) t9 K k (pre.length:Int)=K ((pre.length+(q.takeWhile nZ).length:Nat):Int)
 |q,pre,0,_,hk=>by omega
 |[],pre,k+1,hl,hk=>by
  rw[db.l1,ah,ao (by simp)]
  rfl
 |c::q,pre,k+1,hl,hk=>by
  rw[db.l1,ah,ab (iX (fC pre q c)),ab (cF pre q c),eu,Av];simp only[Jp,Ke];simp only[Jx,Jw]at hl;cases hw:nZ c with
  |false=>rw[ao (by simp)];rfl
  |true=>
   rw[ab (by simp),aK _ (by omega) (by omega),ia pre c,eR,Gl q (pre++[c]) k (by simp;omega) (by simpa using hk)]
   congr 2
   simp
   omega
theorem Gm {K:Int->Option (Int×Int×Int)}:∀(q pre:List UInt8) (k:Nat),(pre++q).length<=4294967296->q.length+1<=k->
  bZ.l0 n (bt (pre++q)) K k (pre.length:Int)=K ((pre.length+(q.takeWhile cY).length:Nat):Int)
 |q,pre,0,_,hk=>by omega
 |[],pre,k+1,hl,hk=>by
  rw[bZ.l0,ah,ao (by simp)]
  rfl
 |c::q,pre,k+1,hl,hk=>by
  rw[bZ.l0,ah,ab (iX (fC pre q c)),ab (cF pre q c),eu,iN];simp only[Jp,Ke];simp only[Jx,Jw]at hl;cases hw:cY c with
  |false=>rw[ao (by simp)];rfl
  |true=>
   rw[ab (by simp),aK _ (by omega) (by omega),ia pre c,eR,Gm q (pre++[c]) k (by simp;omega) (by simpa using hk)]
   congr 2
   simp
   omega
theorem tm1 {k:Nat}{l:List UInt8}(h:Tm k l)(hk:k=1):lz l:=by
 cases h with
 |num x h0 h1=>exact⟨x,h0,h1,rfl⟩
 |sym m _ _=>omega
 |con0 _ _=>omega
 |con _ _ _ _ _ _=>omega
theorem Ji {k:Nat}{l:List UInt8}(h:Tm k l)(hk:k=2):∃m,m.length<=20/\m.all eU=true/\l=34::(m++[34]):=by
 cases h with
 |num x h0 h1=>omega
 |sym m h1 h2=>exact⟨m,h1,h2,rfl⟩
 |con0 _ _=>omega
 |con _ _ _ _ _ _=>omega
theorem nw {l:List UInt8}(h:lz l):l.length<=8:=by
 obtain⟨x,h0,h1,rfl⟩:=h;obtain⟨u,hu,⟨_,_,e⟩|⟨_,e⟩⟩:=o7 h0 h1
 ·rw[e];have:=sI hu;simp;omega
 ·rw[e];have:=sI hu;omega
theorem zq {l:List UInt8}{k:Nat}(h:kX l k):k=1↔lz l:=by
 constructor
 ·intro e
  exact tm1 (h.sound (by omega)).1 e
 ·rintro hn
  have:=nw hn;obtain⟨x,h0,h1,rfl⟩:=hn;exact h.complete 1 (.num x h0 h1) (by omega)
theorem zr {p:UInt8->Bool}{m r:List UInt8}{c:UInt8}(hm:m.all p=true)(hc:p c=false):(m++c::r).takeWhile p=m:=by
 induction m with
 |nil=>simp[hc]
 |cons x m ih=>
  rw[List.all_cons,Bool.and_eq_true]at hm;rw[Lc,Ke,hm.1,ab rfl,ih hm.2]
theorem xd {p:UInt8->Bool}:∀{r:List UInt8} {c:UInt8},r[(r.takeWhile p).length]? =some c->r=r.takeWhile p++c::r.drop ((r.takeWhile p).length+1)
 |[],c,h=>by simp at h
 |x::r,c,h=>by
  rw[Ke]at h⊢;cases hx:p x with
  |false=>rw[hx]at h;simp at h;simp[h]
  |true=>
   rw[hx]at h;simp only[if_true,Jw,List.getElem?_cons_succ]at h;simp only[if_true,Jw,Lc,List.drop_succ_cons];rw[← xd h]
theorem xe {p:UInt8->Bool}(r:List UInt8):(r.takeWhile p).length<=r.length:=by
 induction r with
 |nil=>simp
 |cons x r ih=>rw[Ke];split<;>simp;omega
theorem vp {p:UInt8->Bool}:∀{r:List UInt8},(r.takeWhile p).length<r.length->∃c,r[(r.takeWhile p).length]? =some c/\p c=false
 |[],h=>by simp at h
 |x::r,h=>by
  rw[Ke]at h⊢;cases hx:p x with
  |false=>exact⟨x,by simp,hx⟩
  |true=>
   rw[hx]at h;simp only[if_true,Jw]at h;obtain⟨c,h1,h2⟩:=vp (r:=r) (p:=p) (by omega);exact⟨c,by simpa using h1,h2⟩
theorem Fv {r:List UInt8}{k:Nat}(hk:(r.takeWhile iy).length<r.length->kX (34::(r.takeWhile iy++[34])) k):
  ((r.takeWhile iy).length<r.length/\k=2)↔((r.takeWhile eU).length<=20/\r[(r.takeWhile eU).length]? =some 34):=by
 have q34:iy 34=false:=by decide
 have p34:eU 34=false:=by decide
 constructor
 ·rintro⟨h1,h2⟩
  have K:=hk h1;obtain⟨m,m1,m2,m3⟩:=Ji (K.sound (by omega)).1 h2;have e:r.takeWhile iy=m:=by
   have:=MV m3;exact NS this.2
  obtain⟨c,c1,c2⟩:=vp h1;have hc:c=34:=by unfold iy at c2;simpa using c2
  have hr:=xd c1;rw[e,hc]at hr;have:r.takeWhile eU=m:=by rw[hr];exact zr m2 p34
  rw[this];refine⟨m1,?_⟩;rw[hr]
  simp
 ·rintro⟨h1,h2⟩
  have hr:=xd h2;have hp:=vD eU r;generalize hm:r.takeWhile eU=m at hr hp h1;have hq:m.all iy=true:=by
   rw[List.all_eq_true]at hp⊢;intro x hx;have:=hp x hx;unfold eU at this;unfold iy;have h3:=of_decide_eq_true this;have:¬x=34:=λe=>h3.2.2.1 (by rw[e];rfl)
   simp[this]
  have e:r.takeWhile iy=m:=by rw[hr];exact zr hq q34
  have hlt:(r.takeWhile iy).length<r.length:=by
   rw[e,hr];simp
  refine⟨hlt,?_⟩;have K:=hk hlt;rw[e]at K;exact K.complete 2 (.sym m h1 hp) (by simp;omega)
end
structure Dk (K:Int) (t:List UInt8):Prop where
 sg:K=1->bt t∉dA
 wd:K=5->bt t∉lP
 num:K=3->lz t
 len:t.length<=30
abbrev vq:Type:=Option ((List Tk)×Int×Int)
theorem tt {c:UInt8}{r:List UInt8}(h:kD c=true):bt (c::r)∉dA:=by
 intro hm;have key:∀(x:UInt8) (l:List UInt8),bt (c::r)=bt (x::l)->kD x=false->False:=by
  intro x l e hx;have:=MV (E4 e);rw[this.1,hx]at h;cases h
 simp only[dA,JX,L7,or_false]at hm;rcases hm with e|e|e|e|e|e|e|e|e|e|e|e|e|e|e<;>exact key _ _ e (by decide)
theorem tu {s:ByteArray}(h:s∈dA):s∉lP:=by
 simp only[dA,JX,L7,or_false]at h;rcases h with rfl|rfl|rfl|rfl|rfl|rfl|rfl|rfl|rfl|rfl|rfl|rfl|rfl|rfl|rfl<;>simp[lP]
section
variable {n:Nat}
theorem J5 {c:UInt8}(h:kD c=true):dt c=true:=by unfold dt;rw[h];rfl
theorem Dl {c:UInt8}(h:kD c=true):(kC c=true/\¬97<=c.toNat)\/(kC c=false/\97<=c.toNat):=by
 unfold kD kC at h;unfold kC;simp only[Bool.or_eq_true,dg]at h;rcases h with h|h
 ·right
  exact⟨dq (by omega),by omega⟩
 ·left
  exact⟨iX h,by omega⟩
theorem Hw {c:UInt8}(h:cY c=true):kD c=false/\kC c=false:=by
 unfold cY at h;have:=of_decide_eq_true h
 constructor
 ·unfold kD kC;simp;omega
 ·unfold kC;simp;omega
def xf (n:Nat)(pre:List UInt8)(c:UInt8)(r:List UInt8)(x:(Int->Tk->vq)->List Tk->Tk->vq):Prop:=
 (∃code,code≠0/\(∀Kn out tk,x Kn out tk=some ([],(pre.length:Int),code))/\bZ.F n (bt (c::r))=some (0,0,code))\/
 (∃(K:Int) (len:Nat),1<=len/\len<=(c::r).length/\(∀Kn out tk,x Kn out tk=Kn ((pre.length+len:Nat):Int) (K,tk.2))/\bZ.F n (bt (c::r))=some (K,(len:Int),0)/\Dk K ((c::r).take len))
theorem Ie (c:UInt8)(r:List UInt8):(0:Int)<=0/\(0:Int)<(Js (bt (c::r)):Int):=by rw[ah];simp only[Jw];omega
theorem xg (pre r:List UInt8)(c:UInt8)(hl:(pre++c::r).length<=3000)(hn:5000<=n)(hc:kD c=true){K1:Int->vq}:
  xf n pre c r λKn out tk=>az.j4 n (bt (pre++c::r)) [] (pre.length:Int) (c.toNat:Int) ((pre.length+1:Nat):Int) true out tk Kn:=by
 simp only[Jx,Jw]at hl;have hnl:cK.F n (bt (c::r))=some ((1+(r.takeWhile dt).length:Nat):Int):=by
  rw[ng n (c::r) (by simp;omega) (by simp;omega)];simp only[hc,if_true,Ke,J5 hc,Jw];rw[Nat.add_comm]
 have hsp:∀Kn out tk,az.j4 n (bt (pre++c::r)) [] (pre.length:Int) (c.toNat:Int) ((pre.length+1:Nat):Int) true out tk Kn=
   if 20<1+(r.takeWhile dt).length then some ([],(pre.length:Int),2)else Kn ((pre.length+(1+(r.takeWhile dt).length):Nat):Int) ((if kC c=true then 2 else 1),tk.2):=by
  intro Kn out tk;unfold az.j4;rw[ab rfl,show pre++c::r=(pre++[c])++r by simp,show((pre.length+1:Nat):Int)=((pre++[c]).length:Int)by simp,Dj _ _ _ (by simp;omega) (by omega)];have:=xe (p:=dt) r;rw[aK _ (by simp;omega) (by simp;omega)];have e:(((pre++[c]).length+(r.takeWhile dt).length:Nat):Int) - (pre.length:Int)=((1+(r.takeWhile dt).length:Nat):Int):=by simp;omega
  rw[e]
  by_cases h:20<1+(r.takeWhile dt).length
  ·rw[ab (by simp;omega),ab h]
  ·rw[ao (by simp;omega),ao h,qZ,Jp,show(pre++[c]).length+(r.takeWhile dt).length=pre.length+(1+(r.takeWhile dt).length)by simp;omega]
   cases kC c<;>simp
 have hle:=xe (p:=dt) r
 by_cases h:20<1+(r.takeWhile dt).length
 ·refine .inl ⟨2,by decide,λKn out tk=>(hsp Kn out tk).trans (ab h),?_⟩
  unfold bZ.F;rw[hnl,Jp,ab (by simp;omega),ab (by simp;omega)]
 ·refine .inr ⟨if kC c=true then 2 else 1,1+(r.takeWhile dt).length,by omega,by simp;omega,λKn out tk=>(hsp Kn out tk).trans (ao h),?_,?_⟩
  ·unfold bZ.F
   rw[hnl,Jp,ab (by simp;omega),ao (by simp;omega),ab (Ie c r),iw];rcases Dl hc with⟨h1,h2⟩|⟨h1,h2⟩
   ·rw[ao (by simp;omega),h1,ab rfl]
   ·rw[ab (by simp;omega),h1,ao (by simp)]
  ·refine⟨λhk=>?_,λhk=>?_,λhk=>?_,by rw[Li];omega⟩
   ·rw[show 1+(r.takeWhile dt).length=(r.takeWhile dt).length+1 by omega,M8]
    exact tt hc
   ·split at hk<;>cases hk
   ·split at hk<;>cases hk
theorem mX {c:UInt8}{r:List UInt8}(hl:r.length<=3000)(hn:5000<=n)(hc:kD c=false):cK.F n (bt (c::r))=some 0:=by
 rw[ng n (c::r) (by simp;omega) (by simp;omega)]
 simp[hc]
theorem kU (pre q:List UInt8)(len:Nat):JO (bt (pre++q)) (Jt (pre.length:Int)) (Jt ((pre.length+len:Nat):Int))=bt (q.take len):=by
 rw[JS,JS,gb]
 congr 1
 rw[List.take_append,List.drop_append]
 simp
theorem sd (pre q:List UInt8)(len:Nat)(h:len<=q.length):(0:Int)<=(pre.length:Int)/\(pre.length:Int)<=((pre.length+len:Nat):Int)/\((pre.length+len:Nat):Int)<=(Js (bt (pre++q)):Int):=by
 rw[ah,Jx];omega
theorem Aw {p:UInt8->Bool}(r:List UInt8):r.take (r.takeWhile p).length=r.takeWhile p:=by
 induction r with
 |nil=>rfl
 |cons x r ih=>rw[Ke];split<;>simp[ih]
theorem Fw (pre r:List UInt8)(c:UInt8)(hl:(pre++c::r).length<=3000)(hn:5000<=n)(hc:cY c=true):
  xf n pre c r λKn out tk=>az.j4 n (bt (pre++c::r)) [] (pre.length:Int) (c.toNat:Int) ((pre.length+1:Nat):Int) false out tk Kn:=by
 simp only[Jx,Jw]at hl;have hle:=xe (p:=cY) r;have hq34:¬c=34:=λe=>by subst e;revert hc;decide
 have htake:(c::r).take (1+(r.takeWhile cY).length)=c::r.takeWhile cY:=by
  rw[show 1+(r.takeWhile cY).length=(r.takeWhile cY).length+1 by omega,M8,Aw]
 have htw:(c::r).takeWhile cY=c::r.takeWhile cY:=by rw[Ke,hc];rfl
 obtain⟨v,ok,s1,s2,s3⟩:=pQ n (c::r.takeWhile cY) (by omega);obtain⟨k,k1,k2⟩:=Ch n (c::r.takeWhile cY) (by simp;omega) (by simp;omega);have hkn:=zq k2;have hsp:∀Kn out tk,az.j4 n (bt (pre++c::r)) [] (pre.length:Int) (c.toNat:Int) ((pre.length+1:Nat):Int) false out tk Kn=
   if ok=true then Kn ((pre.length+(1+(r.takeWhile cY).length):Nat):Int) (3,tk.2)else some ([],(pre.length:Int),4):=by
  intro Kn out tk;unfold az.j4;rw[ao (by simp),lR,Jp,ab hc];have e1:=Gj (n:=n) (t23:=[]) (a:=(pre.length:Int)) (t25:=out) (tk:=tk) (K:=λt55=>
    if(0:Int)<=(pre.length:Int)/\(pre.length:Int)<=t55/\t55<=(Js (bt (pre++c::r)):Int)then
    (bn.F n (JO (bt (pre++c::r)) (Jt (pre.length:Int)) (Jt t55))).bind λr56=>
    if(!r56.2)=true then some ([],(pre.length:Int),4)else Kn t55 (3,tk.2)
    else none) r (pre++[c]) n (by simp;omega) (by omega)
  rw[show(pre++[c])++r=pre++c::r by simp,show((pre++[c]).length:Int)=((pre.length+1:Nat):Int)by simp,show(pre++[c]).length+(r.takeWhile cY).length=pre.length+(1+(r.takeWhile cY).length)by simp;omega]at e1;refine e1.trans ?_;rw[ab (sd pre (c::r) _ (by simp;omega)),kU,htake,s1,Jp];cases ok<;>simp
 have him:bZ.F n (bt (c::r))=if k=1 then some (3,((1+(r.takeWhile cY).length:Nat):Int),0)else some (0,0,4):=by
  unfold bZ.F;rw[mX (by omega) hn (Hw hc).1,Jp,ao (by simp),ab (Ie c r),iw,iN,Jp,ab hc];have e1:=Gm (n:=n) (K:=λt7=>
    if(0:Int)<=0/\(0:Int)<=t7/\t7<=(Js (bt (c::r)):Int)then
    (gK.F n (JO (bt (c::r)) (Jt 0) (Jt t7))).bind λr8=>
    if(!decide (r8=1))=true then some (0,0,4)else some (3,t7,0)
    else none) (c::r) [] n (by simp;omega) (by simp;omega)
  simp only[Kx,JB,Nat.zero_add,htw,Jw]at e1;refine e1.trans ?_;have b:(0:Int)<=0/\(0:Int)<=(((r.takeWhile cY).length+1:Nat):Int)/\(((r.takeWhile cY).length+1:Nat):Int)<=(Js (bt (c::r)):Int):=by rw[ah];simp only[Jw];omega
  have x:=kU [] (c::r) ((r.takeWhile cY).length+1);simp only[Kx,JB,Nat.zero_add]at x;rw[ab b];rw[show(r.takeWhile cY).length+1=1+(r.takeWhile cY).length by omega]at x⊢;rw[htake]at x;refine Eq.trans (b:=(gK.F n (bt (c::r.takeWhile cY))).bind λr8=>if(!decide (r8=1))=true then some (0,0,4)else some (3,((1+(r.takeWhile cY).length:Nat):Int),0)) ?_ ?_
  ·exact congrArg (λz=>(gK.F n z).bind _) x
  ·rw[k1,Jp]
   by_cases h:k=1
   ·rw[ao (by simp;omega),ab h]
   ·rw[ab (by simp;omega),ao h]
 by_cases hnum:lz (c::r.takeWhile cY)
 ·have hok:ok=true:=s2.2 hnum
  have hk1:k=1:=hkn.2 hnum;refine .inr ⟨3,1+(r.takeWhile cY).length,by omega,by simp;omega,λKn out tk=>(hsp Kn out tk).trans (ab hok),by rw[him,ab hk1],?_⟩;refine⟨λh=>bH h (by decide),λh=>bH h (by decide),λ_=>?_,by rw[htake];have:=nw hnum;omega⟩;rw[htake];exact hnum
 ·have hok:¬ok=true:=λh=>hnum (s2.1 h)
  have hk1:¬k=1:=λh=>hnum (hkn.1 h)
  exact .inl ⟨4,by decide,λKn out tk=>(hsp Kn out tk).trans (ao hok),by rw[him,ao hk1]⟩
theorem Fy (pre r:List UInt8)(hl:(pre++34::r).length<=3000)(hn:5000<=n):
  xf n pre 34 r λKn out tk=>az.j4 n (bt (pre++34::r)) [] (pre.length:Int) ((34:UInt8).toNat:Int) ((pre.length+1:Nat):Int) false out tk Kn:=by
 simp only[Jx,Jw]at hl;have hle:=xe (p:=iy) r;obtain⟨k,k1,k2⟩:=xV (34::(r.takeWhile iy++[34])).length (34::(r.takeWhile iy++[34])) n (Nat.le_refl _) (by simp;omega) (by simp;omega);have hq:=Fv (r:=r) (k:=k) (λ_=>k2);have htake:(r.takeWhile iy).length<r.length->(34::r).take ((r.takeWhile iy).length+2)=34::(r.takeWhile iy++[34]):=by
  intro h;obtain⟨c,c1,c2⟩:=vp h;have hc:c=34:=by unfold iy at c2;simpa using c2
  have hr:=xd c1;rw[hc]at hr;rw[show(r.takeWhile iy).length+2=((r.takeWhile iy).length+1)+1 by omega,M8]
  congr 1
  rw[List.take_add_one,Aw,c1,hc]
  rfl
 have hsp:∀Kn out tk,az.j4 n (bt (pre++34::r)) [] (pre.length:Int) ((34:UInt8).toNat:Int) ((pre.length+1:Nat):Int) false out tk Kn=
   if(r.takeWhile iy).length<r.length/\k=2 then Kn ((pre.length+((r.takeWhile iy).length+2):Nat):Int) (4,tk.2)else some ([],(pre.length:Int),3):=by
  intro Kn out tk;unfold az.j4;rw[ao (by simp),lR,Jp,ao (by decide),ab (by decide)];have e1:=Gk (n:=n) (t23:=[]) (a:=(pre.length:Int)) (t25:=out) (tk:=tk) (K:=λt63=>
    if(decide (t63=(Js (bt (pre++34::r)):Int)))=false then
    if(0:Int)<=(pre.length:Int)/\(pre.length:Int)<=(Ju.wrap (t63+1))/\(Ju.wrap (t63+1))<=(Js (bt (pre++34::r)):Int)then
    (be.F n (JO (bt (pre++34::r)) (Jt (pre.length:Int)) (Jt (Ju.wrap (t63+1))))).bind λr64=>
    if(!decide (r64=2))=true then some ([],(pre.length:Int),3)else Kn (Ju.wrap (t63+1)) (4,tk.2)
    else none
    else some ([],(pre.length:Int),3)) r (pre++[34]) n (by simp;omega) (by omega)
  rw[show(pre++[(34:UInt8)])++r=pre++34::r by simp,show((pre++[(34:UInt8)]).length:Int)=((pre.length+1:Nat):Int)by simp,show(pre++[(34:UInt8)]).length+(r.takeWhile iy).length=pre.length+1+(r.takeWhile iy).length by simp]at e1;refine e1.trans ?_
  by_cases h:(r.takeWhile iy).length<r.length
  ·simp only[ny (show pre.length+1+(r.takeWhile iy).length<=1000000000 by omega)]
   rw[ab (by rw[ah];simp;omega),show pre.length+1+(r.takeWhile iy).length+1=pre.length+((r.takeWhile iy).length+2)by omega,
    ab (sd pre (34::r) _ (by simp;omega)),kU,htake h,k1,Jp]
   by_cases h2:k=2
   ·rw[ao (by simp;omega),ab ⟨h,h2⟩]
   ·rw[ab (by simp;omega),ao (λx=>h2 x.2)]
  ·rw[ao (by rw[ah];simp;omega),ao (λx=>h x.1)]
 have him:bZ.F n (bt (34::r))=if(r.takeWhile eU).length<=20/\r[(r.takeWhile eU).length]? =some 34 then some (4,(((r.takeWhile eU).length+2:Nat):Int),0)else some (0,0,3):=by
  unfold bZ.F;rw[mX (by omega) hn (by decide),Jp,ao (by simp),ab (Ie 34 r),iw,iN,Jp,ao (by decide),ab (Ie 34 r),ab (by decide),nN n 34 r (by omega) (by omega),Jp]
  by_cases h:(r.takeWhile eU).length<=20/\r[(r.takeWhile eU).length]? =some 34
  ·rw[ab h,ab h,ab (by simp;omega)]
  ·rw[ao h,ao h,ao (by simp)]
 by_cases h:(r.takeWhile iy).length<r.length/\k=2
 ·have h2:=hq.1 h
  have e:(r.takeWhile eU).length=(r.takeWhile iy).length:=by
   obtain⟨m,m1,m2,m3⟩:=Ji (k2.sound (by omega)).1 h.2;have em:r.takeWhile iy=m:=NS (MV m3).2;obtain⟨c,c1,c2⟩:=vp h.1;have hc:c=34:=by unfold iy at c2;simpa using c2
   have hr:=xd c1;rw[em,hc]at hr;have:r.takeWhile eU=m:=by rw[hr];exact zr m2 (by decide)
   rw[this,em]
  refine .inr ⟨4,(r.takeWhile iy).length+2,by omega,by simp;omega,λKn out tk=>(hsp Kn out tk).trans (ab h),by rw[him,ab h2,e],?_⟩;exact⟨λh=>bH h (by decide),λh=>bH h (by decide),λh=>bH h (by decide),by rw[Li];omega⟩
 ·exact .inl ⟨3,by decide,λKn out tk=>(hsp Kn out tk).trans (ao h),by rw[him,ao (λx=>h (hq.2 x))]⟩
theorem Dm (pre r:List UInt8)(c:UInt8)(hl:(pre++c::r).length<=3000)(hn:5000<=n)(h1:kD c=false)(h2:cY c=false)(h3:¬c=34):
  xf n pre c r λKn out tk=>az.j4 n (bt (pre++c::r)) [] (pre.length:Int) (c.toNat:Int) ((pre.length+1:Nat):Int) false out tk Kn:=by
 simp only[Jx,Jw]at hl;have h34:decide ((c.toNat:Int)=34)=false:=by rw[lk c 34 (k:=34) rfl];exact dq h3
 have hsp:∀Kn out tk,az.j4 n (bt (pre++c::r)) [] (pre.length:Int) (c.toNat:Int) ((pre.length+1:Nat):Int) false out tk Kn=
   match yl (c::r)with|some t=>Kn ((pre.length+t.length:Nat):Int) (5,tk.2)|none=>some ([],(pre.length:Int),2):=by
  intro Kn out tk;unfold az.j4;have b:(0:Int)<=(pre.length:Int)/\(pre.length:Int)<=(Js (bt (pre++c::r)):Int)/\(Js (bt (pre++c::r)):Int)<=(Js (bt (pre++c::r)):Int):=by
   rw[ah,Jx];omega
  have x:JO (bt (pre++c::r)) (Jt (pre.length:Int)) (Jt (Js (bt (pre++c::r)):Int))=bt (c::r):=by
   rw[JS,JS,ah,gb,List.take_length]
   simp
  rw[ao (by simp),lR,Jp,ao (by simp[h2]),ao (by rw[h34];simp),ab b,x,Dh,Jp];cases hs:yl (c::r)with
  |none=>
   rw[ab (by rw[iB];show Km (bt []) (bt [])=true;rw[gz];rfl)]
  |some t=>
   obtain⟨t1,t2,t3,t4,t5⟩:=xc hs;have:Km (bt ((some t).getD [])) Jq=false:=by
    rw[iB,gz,beq_eq_false_iff_ne];intro e;simp only[L8]at e;rw[e]at t2;simp at t2
   rw[this,ao (by simp)];simp only[L8,ah];simp only[Jw]at t3;rw[aK _ (by omega) (by omega)]
   rfl
 have him:bZ.F n (bt (c::r))=match yl (c::r)with|some t=>some (5,(t.length:Int),0)|none=>some (0,0,2):=by
  unfold bZ.F;rw[mX (by omega) hn h1,Jp,ao (by simp),ab (Ie c r),iw,iN,Jp,ao (by simp[h2]),ab (Ie c r),ao (by rw[h34];simp)];exact Di n (by omega) c r _
 cases hs:yl (c::r)with
 |none=>exact .inl ⟨2,by decide,λKn out tk=>(hsp Kn out tk).trans (by rw[hs]),by rw[him,hs]⟩
 |some t=>
  obtain⟨t1,t2,t3,t4,t5⟩:=xc hs;refine .inr ⟨5,t.length,t2,t3,λKn out tk=>(hsp Kn out tk).trans (by rw[hs]),by rw[him,hs],?_⟩;refine⟨λh=>bH h (by decide),λ_=>?_,λh=>bH h (by decide),by rw[Li];omega⟩;rw[← t1];exact tu t4
theorem Fz (pre r:List UInt8)(c:UInt8)(hl:(pre++c::r).length<=3000)(hn:5000<=n){K1:Int->vq}:
  xf n pre c r λKn out tk=>az.j2 n (bt (pre++c::r)) [] (pre.length:Int) (c.toNat:Int) ((pre.length+1:Nat):Int) false out tk K1 Kn:=by
 unfold az.j2;simp only[Bool.false_eq_true,if_false,uq,qZ,Jp]
 by_cases hs:97<=c.toNat/\c.toNat<=122
 ·have hc:kD c=true:=by unfold kD;rw[iX hs];rfl
  simp only[iX hs,Bool.true_eq_false,if_false];exact xg (K1:=K1) pre r c hl hn hc
 ·simp only[dq hs,if_true]
  cases hb:kC c with
  |true=>exact xg (K1:=K1) pre r c hl hn (by unfold kD;rw[hb];simp)
  |false=>
   have hc:kD c=false:=by unfold kD;rw[hb,dq hs];rfl
   by_cases hd:cY c=true
   ·exact Fw pre r c hl hn hd
   ·by_cases hq:c=34
    ·subst hq;exact Fy pre r hl hn
    ·exact Dm pre r c hl hn hc (JV.2 hd) hq
end
def Hx (t:Tk):Prop:=0<=t.2.2/\t.2.1.size<=30/\Dk t.1 t.2.1.data.toList
section
variable {n:Nat}
def Dn (m:Nat)(x y:vq):Prop:=∃R,x=some R/\y=some R/\((R.2.1=0/\R.2.2=0/\R.1.length<=m/\∀t∈R.1,Hx t)\/R.2.2≠0)
theorem nx {T:List Tk}{pre r:List UInt8}{c:UInt8}{out:List Tk}{tk:Tk}{K1:Int->vq}{Kn:Int->Tk->vq}:
  az.j1 n (bt (pre++c::r)) T (pre.length:Int) (c.toNat:Int) ((pre.length+1:Nat):Int) true out tk K1 Kn=K1 (Ju.wrap ((pre.length:Int)+1)):=by
 unfold az.j1;rw[ab rfl]
theorem oL (hn:5000<=n)(M:Nat)(hM:M<=3000):∀(m:Nat) (r pre:List UInt8) (out:List Tk) (f:Nat),r.length<=m->(pre++r).length=M->r.length<f->out.length<=pre.length->(∀t∈out,Hx t)->
  Dn M (az.l0 n (bt (pre++r)) [] (λt=>some (t,0,0)) f (pre.length:Int) out) (db.l0 n (bt (pre++r)) (λt=>some (t,0,0)) f (pre.length:Int) out)
 |m,r,pre,out,0,_,_,hf,_,_=>by omega
 |m,[],pre,out,f+1,hm,hl,hf,ho,hx=>by
  rw[az.l0,db.l0,ah,ao (by simp),ao (by simp)];simp only[Jx,JB]at hl;exact⟨_,rfl,rfl,.inl ⟨rfl,rfl,by simp only;omega,hx⟩⟩
 |0,c::r,pre,out,f+1,hm,hl,hf,ho,hx=>by simp at hm
 |m+1,c::r,pre,out,f+1,hm,hl,hf,ho,hx=>by
  simp only[Jx,Jw]at hl hm hf;have hl':(pre++c::r).length=M:=by simp;omega
  have hin:(0:Int)<=(pre.length:Int)/\(pre.length:Int)<(Js (bt (pre++c::r)):Int):=by rw[ah];exact cF pre r c
  have hlt:decide ((pre.length:Int)<(Js (bt (pre++c::r)):Int))=true:=iX hin.2;obtain⟨v,b1,b2⟩:=Dg n c;have next:Dn M (az.l0 n (bt (pre++c::r)) [] (λt=>some (t,0,0)) f ((pre.length+1:Nat):Int) out) (db.l0 n (bt (pre++c::r)) (λt=>some (t,0,0)) f ((pre.length+1:Nat):Int) out):=by
   have:=oL hn M hM m r (pre++[c]) out f (by omega) (by simp;omega) (by omega) (by simp;omega) hx;rw[show(pre++[c])++r=pre++c::r by simp,show((pre++[c]).length:Int)=((pre.length+1:Nat):Int)by simp]at this;exact this
  rw[az.l0,db.l0,ab hlt,ab hlt,ab hin,ab hin,eu,b1,Jp,b2];rw[lk c 32 (k:=32) rfl,lk c 9 (k:=9) rfl,lk c 10 (k:=10) rfl,lk c 13 (k:=13) rfl,ny (by omega)]
  by_cases hb:zn c=true
  ·-- a blank
   rw[ab hb];unfold zn at hb
   by_cases h1:c=32
   ·rw[iX h1,ao (by simp),nx,ny (by omega)];exact next
   rw[dq h1,ab rfl]
   by_cases h2:c=9
   ·rw[iX h2,ao (by simp),nx,ny (by omega)];exact next
   rw[dq h2,ab rfl]
   by_cases h3:c=10
   ·rw[iX h3,ao (by simp),nx,ny (by omega)];exact next
   rw[dq h3,ab rfl];have h4:c=13:=by simpa[h1,h2,h3]using hb
   rw[iX h4,nx,ny (by omega)];exact next
  ·rw[ao hb]
   have nb:zn c=false:=JV.2 hb;unfold zn at nb;simp only[Lp,vK]at nb;obtain⟨⟨⟨h1,h2⟩,h3⟩,h4⟩:=nb;rw[dq h1,dq h2,dq h3,dq h4,ab rfl,ab rfl,ab rfl];have b:(0:Int)<=(pre.length:Int)/\(pre.length:Int)<=(Js (bt (pre++c::r)):Int)/\(Js (bt (pre++c::r)):Int)<=(Js (bt (pre++c::r)):Int):=by
    rw[ah,Jx];omega
   have x:JO (bt (pre++c::r)) (Jt (pre.length:Int)) (Jt (Js (bt (pre++c::r)):Int))=bt (c::r):=by
    rw[JS,JS,ah,gb,List.take_length]
    simp
   rw[ab b,x,show(⟨#[47,47]⟩:ByteArray)=bt [47,47]from rfl,oJ,Jp]
   by_cases hc:(c::r).take 2=[47,47]
   ·-- a comment
    obtain⟨r',e1,e2⟩:∃r',c=47/\r=47::r':=by
     cases r with
     |nil=>simp at hc
     |cons d r'=>simp at hc;exact⟨r',hc.1,by rw[hc.2]⟩
    have hq:((c::r).take [(47:UInt8),47].length==[47,47])=true:=by rw[beq_iff_eq];exact hc
    rw[hq,ab rfl];unfold az.j1;have at1:aP (bt (pre++c::r)) ((pre.length+1:Nat):Int)=47:=by
     rw[e2,show pre++c::47::r'=(pre++[c])++47::r' by simp,show((pre.length+1:Nat):Int)=((pre++[c]).length:Int)by simp,eu];rfl
    have lt1:((pre.length+1:Nat):Int)<(Js (bt (pre++c::r)):Int):=by rw[ah,e2];simp;omega
    rw[ao (by simp),lk c 47 (k:=47) rfl,iX e1,ab rfl,ny (by omega),ab (iX lt1),ab ⟨by omega,lt1⟩,at1];unfold az.j2;rw[ab (by decide)];have s1:=Gi (n:=n) (t23:=[]) (t25:=out) (K:=λt=>az.l0 n (bt (pre++c::r)) [] (λt=>some (t,0,0)) f t out) (c::r) pre n (by omega) (by simp;omega);have s2:=Gl (n:=n) (t9:=out) (K:=λt=>db.l0 n (bt (pre++c::r)) (λt=>some (t,0,0)) f t out) (c::r) pre n (by omega) (by simp;omega);refine Eq.mpr (congr (congrArg (Dn M) s1) s2) ?_;have htw:(c::r).takeWhile nZ=c::r.takeWhile nZ:=by rw[Ke,e1];rfl
    have:=oL hn M hM m (r.drop (r.takeWhile nZ).length) (pre++(c::r.takeWhile nZ)) out f (by simp;omega) (by
     have:=xe (p:=nZ) r
     simp;omega) (by simp;omega) (by simp;omega) hx
    have ew:(pre++(c::r.takeWhile nZ))++r.drop (r.takeWhile nZ).length=pre++c::r:=by
     rw[Ka,Lc,← ni]
    rw[ew,show((pre++(c::r.takeWhile nZ)).length:Int)=((pre.length+((c::r).takeWhile nZ).length:Nat):Int)by rw[htw];simp]at this;exact this
   ·-- a token
    have hq:((c::r).take [(47:UInt8),47].length==[47,47])=false:=by rw[beq_eq_false_iff_ne];exact hc
    rw[hq,ao (by simp)];have hj1:∀(tk:Tk) (K1:Int->vq) (Kn:Int->Tk->vq),az.j1 n (bt (pre++c::r)) [] (pre.length:Int) (c.toNat:Int) ((pre.length+1:Nat):Int) false out tk K1 Kn=
      az.j2 n (bt (pre++c::r)) [] (pre.length:Int) (c.toNat:Int) ((pre.length+1:Nat):Int) false out tk K1 Kn:=by
     intro tk K1 Kn;unfold az.j1;rw[ao (by simp),lk c 47 (k:=47) rfl]
     by_cases h47:c=47
     ·rw[iX h47,ab rfl,ny (by omega)]
      cases hr:r with
      |nil=>rw[ao (by rw[ah];simp)]
      |cons d r'=>
       have lt1:((pre.length+1:Nat):Int)<(Js (bt (pre++c::d::r')):Int):=by rw[ah];simp;omega
       have at1:aP (bt (pre++c::d::r')) ((pre.length+1:Nat):Int)=(d.toNat:Int):=by
        rw[show pre++c::d::r'=(pre++[c])++d::r' by simp,show((pre.length+1:Nat):Int)=((pre++[c]).length:Int)by simp,eu]
       have hd:¬d=47:=λe=>hc (by rw[hr,h47,e];rfl)
       rw[ab (iX lt1),ab ⟨by omega,lt1⟩,at1,lk d 47 (k:=47) rfl,dq hd]
     ·rw[dq h47,ao (by simp)]
    rw[hj1,ab b];rcases Fz (K1:=λt=>az.l0 n (bt (pre++c::r)) [] (λt=>some (t,0,0)) f t out) pre r c (by omega) hn with⟨code,hcode,t1,t2⟩|⟨K,len,q1,q2,t1,t2,t3⟩
    ·rw[t2,Jp,ab (by simp[hcode])]
     refine⟨([],(pre.length:Int),code),t1 _ _ _,rfl,.inr hcode⟩
    ·simp only[Jw]at q2
     rw[t2,Jp,ao (by simp)];have hw:Ju.wrap ((pre.length:Int)+(len:Int))=((pre.length+len:Nat):Int):=by rw[aK _ (by omega) (by omega)];omega
     have bb:=sd pre (c::r) len (by simp;omega);simp only[hw];rw[ab bb,kU,ab (cC (by omega))];have e2:=t1 (λt80 t81=>az.j8 n (bt (pre++c::r)) [] (pre.length:Int) t80 out t81 λt88=>az.l0 n (bt (pre++c::r)) [] (λt=>some (t,0,0)) f t80 t88) out (0,(Jq,(pre.length:Int)));refine Eq.mpr (congrArg (λz=>Dn M z _) e2) ?_;show Dn M (az.j8 n (bt (pre++c::r)) [] (pre.length:Int) ((pre.length+len:Nat):Int) out (K,(Jq,(pre.length:Int))) _) _;unfold az.j8;rw[ab bb,kU,ab (cC (by omega))];have htk:Hx (K,(bt ((c::r).take len),(pre.length:Int))):=⟨by simp only;omega,by simp only[ah];exact t3.len,by simp only[eB];exact t3⟩;have:=oL hn M hM m ((c::r).drop len) (pre++(c::r).take len) (out++[(K,(bt ((c::r).take len),(pre.length:Int)))]) f (by simp;omega) (by simp;omega) (by simp;omega) (by simp;omega) (by
      intro t ht;rcases List.mem_append.1 ht with ht|ht
      ·exact hx t ht
      ·rw[List.mem_singleton.1 ht];exact htk)
     rw[show(pre++(c::r).take len)++(c::r).drop len=pre++c::r by rw[Ka,List.take_append_drop],show((pre++(c::r).take len).length:Int)=((pre.length+len:Nat):Int)by simp;omega]at this;exact this
theorem BY {n:Nat}(hn:100000<=n){l:List UInt8}(h:lz l):∃a b u,bn.F n (bt l)=some a/\bO.F n (Ju.wrap (0 - a.1))=some u/\iL.F n (bt l)=some b/\cI.F n (Ju.wrap (0 - b))=some u/\u.size<=30:=by
 obtain⟨v,ok,s1,s2,s3⟩:=pQ n l (by omega);obtain⟨e,v0,v1⟩:=s3 (s2.2 h);have hw:Ju.wrap (0 - v)= -v:=by rw[aK _ (by omega) (by omega)];omega
 have hlen:=nw h;refine⟨(v,ok),v,bt (Lib.itoa (-v)),s1,?_,?_,?_,?_⟩
 ·simp only[hw]
  exact qY n (-v) (by omega) (by omega) (by omega)
 ·unfold iL.F fa.F
  rw[ah,ab (by omega),eB,e,uo v v0 v1]
  rfl
 ·rw[hw]
  unfold cI.F;rw[ab (by omega)]
  rfl
 ·rw[ah]
  have:=nw ⟨-v,by omega,by omega,rfl⟩;omega
theorem BZ {n:Nat}(hn:100000<=n):∃a b u,bn.F n Jq=some a/\bO.F n (Ju.wrap (0 - a.1))=some u/\iL.F n Jq=some b/\cI.F n (Ju.wrap (0 - b))=some u/\u.size<=30:=by
 refine⟨(0,false),0,⟨#[48]⟩,?_,?_,?_,?_,by decide⟩
 ·unfold bn.F
  rw[ao (by decide)];unfold bn.j0;rw[dW,Jp,ab (by decide)]
 ·have:Ju.wrap (0 - (0:Int))=0:=by decide
  simp only[this];unfold bO.F;rw[ab (by decide)]
 ·rfl
 ·have:Ju.wrap (0 - (0:Int))=0:=by decide
  rw[this];unfold cI.F;rw[ab (by decide)];have h1:=qY n 0 (by omega) (by decide) (by decide);unfold bO.F at h1;rw[ab (by decide)]at h1;exact h1.symm
theorem C0 (hn:5000<=n)(s:ByteArray):
  (∃L,az.F n s=some (L,0,0)/\db.F n s=some (L,0,0)/\ek L (s.size:Int))\/
  (∃L p c,c≠0/\az.F n s=some (L,p,c)/\db.F n s=some (L,p,c)):=by
 unfold az.F db.F
 by_cases h:(s.size:Int)>3000
 ·rw[ab (by simpa using h),ab (by simpa using h)]
  exact .inr ⟨_,_,_,by decide,rfl,rfl⟩
 ·rw[ao (by simpa using h),ao (by simpa using h)]
  have e:=jK s;have hsz:s.data.toList.length=s.size:=rfl;have:=oL (n:=n) hn s.data.toList.length (by omega) s.data.toList.length s.data.toList [] [] n (Nat.le_refl _) (by simp) (by omega) (by simp) (by simp);simp only[Kx,JB]at this;rw[← e]at this;obtain⟨⟨L,p,c⟩,r1,r2,r3⟩:=this;rcases r3 with⟨r3,r4,r5,r6⟩|r3
  ·simp only at r3 r4 r5 r6
   subst r3;subst r4;refine .inl ⟨L,r1,r2,?_⟩
   ·refine⟨by omega,by omega,λt ht=>(r6 t ht).1,λt ht=>(r6 t ht).2.1,λt ht h1=>?_,λt ht h1=>?_,?_⟩
    ·have:=(r6 t ht).2.2.sg h1;rwa [← jK]at this
    ·have:=(r6 t ht).2.2.wd h1;rwa [← jK]at this
    ·rintro n' hn' s' (rfl|⟨t,ht,t1,rfl⟩)
     ·exact BZ hn'
     ·have:=BY hn' ((r6 t ht).2.2.num t1)
      rwa [← jK]at this
  ·exact .inr ⟨L,p,c,r3,r1,r2⟩
theorem Do (hn:200000<=n)(s:ByteArray):∃R,ea.F n s=some R/\dy.F n s=some R/\AO R:=by
 rcases C0 (n:=n) (by omega) s with⟨L,h1,h2,H⟩|⟨L,p,c,hc,h1,h2⟩
 ·exact E3 H hn h1 h2
 ·exact Ce hc h1 h2
end
end Go.Abs
