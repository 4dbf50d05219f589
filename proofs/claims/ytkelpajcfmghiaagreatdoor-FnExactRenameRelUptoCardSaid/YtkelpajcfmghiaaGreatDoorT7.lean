/- The reference's TermKind and the program's kindOf: both answer the kind of a term. Conditions: none. -/
import Derived.Test.YtkelpajcfmghiaaGreatDoorPl
import Derived.Test.YtkelpajcfmghiaaGreatDoorF4
import Derived.Lib.AtoiTie
open Bool renaming and_eq_true → Jm,eq_false_iff → JK,false_eq_true → Jt,not_eq_false' → OD,not_eq_true' → LM,not_true → KF,true_and → Kf
open ByteArray renaming empty → Jd,extract → Jz,size → Jf
open Go.Abs renaming seq → JL
open Go.IntKind renaming i64 → Jh,u8 → L8
open Go.Lib renaming atoiAll → Mn,decDigits → Ke,decFrom → LG,digitVal → L6,itoa → KZ
open Int renaming tdiv → MO,toNat → Jg,toNat_natCast → JD
open List renaming all_cons → Kh,all_eq_true → JS,append_nil → Kv,cons_append → KK,drop_append_of_le_length → Ni,drop_drop → Lo,drop_eq_nil_iff → MM,drop_left → Kx,drop_zero → JN,getD_eq_getElem?_getD → KB,head?_drop → MG,length → Je,length_append → Jk,length_cons → Jj,length_drop → LH,length_eq_zero_iff → Kb,length_map → JT,length_nil → Jo,length_pos_iff → Lj,length_singleton → Kc,map_append → Kk,map_map → Lc,mem_cons → JJ,mem_cons_of_mem → JE,mem_cons_self → JA,mem_singleton → JQ,nil_append → Kg,prefix_iff_eq_take → NG,singleton_append → KO,takeWhile_cons → JR,takeWhile_prefix → Lg,take_append_of_le_length → Mb,take_left → KM
open Nat renaming le_refl → JG,pow_le_pow_right → Og,pow_succ → NY,strongRecOn → NR
open Option renaming bind_some → Jc
open Option.some renaming inj → LY
open UInt8 renaming ofNat → Lu,toNat_inj → LJ
set_option linter.unusedVariables false
set_option linter.unusedSimpArgs false
namespace Go.Abs
def bt (l:List UInt8):ByteArray:=⟨l.toArray⟩
theorem ah (l:List UInt8):Jf (bt l)=l.length:=by simp[bt,Jf]
theorem ez (l:List UInt8):(bt l).data.toList=l:=by simp[bt]
theorem jv (s:ByteArray):s=bt s.data.toList:=by cases s;simp[bt]
theorem Dy {a b:List UInt8}(h:bt a=bt b):a=b:=by rw[← ez a,← ez b,h]
theorem IC (l:List UInt8):(⟨l.toArray⟩:ByteArray)=bt l:=rfl
theorem fV (l:List UInt8)(i j:Nat):Jz (bt l) i j=bt ((l.take j).drop i):=by
 rw[jv (Jz (bt l) i j)]
 congr 1
 rw[ByteArray.data_extract,Array.toList_extract,List.extract_eq_take_drop,List.drop_take,ez]
theorem gv (a b:List UInt8):JL (bt a) (bt b)=(a==b):=by
 unfold JL;rw[Lib.toList_data,Lib.toList_data,ez,ez]
theorem tO (l:List UInt8)(i:Nat):aO (bt l) (i:Int)=((l.getD i 0).toNat:Int):=by
 unfold aO bt;simp only[JD]
 congr 2
 simp[Array.getD_eq_getD_getElem?,List.getD]
theorem iy:Jd=bt []:=rfl
theorem ap (a b:List UInt8):bt a++bt b=bt (a++b):=by
 rw[jv (bt a++bt b)]
 congr 1
theorem Ar:∀(l:List Int) (r:ByteArray),(l.foldl (λr n=>r.push (Lu n.toNat)) r)=bt (r.data.toList++l.map λn=>Lu n.toNat)
 |[],r=>by rw[List.foldl_nil,List.map_nil,Kv];exact jv r
 |x::l,r=>by
  rw[List.foldl_cons,Ar l]
  congr 1
  show(r.data.push _).toList++_=_
  simp
theorem As (l:List Int):qM l=bt (l.map λn=>Lu n.toNat):=by
 unfold qM;rw[Ar]
 simp
theorem sh {u:Nat}(h:¬u<10):Ke u=Ke (u / 10)++[Lu (48+u % 10)]:=by rw[Ke,dif_neg h]
theorem nQ {u:Nat}(h:u<10):Ke u=[Lu (48+u)]:=Lib.decDigits_one h
theorem li (d:Nat)(h:d<10):48<=(Lu (48+d)).toNat/\(Lu (48+d)).toNat<=57/\(Lu (48+d)).toNat=48+d:=by
 rw[UInt8.toNat_ofNat'];omega
theorem sk (u:Nat):∀b∈Ke u,48<=b.toNat/\b.toNat<=57:=by
 induction u using NR with
 |_ u ih=>
  intro b hb
  by_cases h:u<10
  ·rw[nQ h]at hb
   simp only[JQ]at hb;subst hb;have:=li u h;omega
  ·rw[sh h]at hb
   simp only[List.mem_append,JQ]at hb;rcases hb with hb|rfl
   ·exact ih (u / 10) (by omega) b hb
   ·have:=li (u % 10) (by omega)
    omega
theorem zm (u:Nat):Ke u≠[]:=by
 intro h
 by_cases hu:u<10
 ·rw[nQ hu]at h;cases h
 ·rw[sh hu]at h;simp at h
theorem mY:∀(a b:List UInt8) (acc:Nat),LG acc (a++b)=(LG acc a).bind λx=>LG x b
 |[],b,acc=>rfl
 |x::a,b,acc=>by
  simp only[KK,LG];cases L6 x with
  |none=>rfl
  |some d=>exact mY a b _
theorem qb (d:Nat)(h:d<10):L6 (Lu (48+d))=some d:=by
 obtain⟨h1,h2,h3⟩:=li d h;unfold L6;rw[ab ⟨h1,h2⟩,h3]
 simp
theorem mZ (u:Nat):LG 0 (Ke u)=some u:=by
 induction u using NR with
 |_ u ih=>
  by_cases h:u<10
  ·rw[nQ h]
   simp only[LG,qb u h]
   simp
  ·rw[sh h,mY,ih (u / 10) (by omega)]
   simp only[Jc,LG,qb (u % 10) (by omega)];rw[Nat.div_add_mod' u 10]
theorem qH:∀(j u:Nat),u<10 ^ (j+1)->(Ke u).length<=j+1
 |0,u,h=>by rw[nQ (by simpa using h)];simp
 |j+1,u,h=>by
  by_cases hu:u<10
  ·rw[nQ hu];simp
  ·rw[sh hu,Jk]
   have:=qH j (u / 10) (by rw[NY]at h;omega);simp only[Kc];omega
theorem sn (u:Nat):∃c r,Ke u=c::r/\48<=c.toNat/\c.toNat<=57:=by
 cases h:Ke u with
 |nil=>exact bJ h (zm u)
 |cons c r=>
  have:=sk u c (by rw[h];simp);exact⟨c,r,rfl,this⟩
theorem tQ (x:Int)(h0:-1000000<=x)(h1:x<=1000000):Mn (KZ x)= .ok x:=by
 have mag:∀u:Nat,u<=1000000->Lib.parseMag (Ke u)= .ok u:=by
  intro u hu;rw[Lib.parseMag_short _ (by have:=qH 6 u (by omega);omega)];unfold Lib.decNat;rw[ao (by simp[zm]),mZ]
  rfl
 unfold KZ
 split
 ·rename_i hx
  unfold Mn;simp only[show(45:UInt8).toNat=45 from rfl,or_true,if_true,mag x.natAbs (by omega)];rw[ao (by omega),ao (by omega)]
  congr 1
  omega
 ·rename_i hx
  obtain⟨c,r,hc,h2,h3⟩:=sn x.toNat;have hm:=mag x.toNat (by omega);rw[hc]at hm⊢;unfold Mn;simp only[show¬c.toNat=45 by omega,show¬c.toNat=43 by omega,or_self,if_false,hm];rw[ao (by omega),ao (by simp)]
  congr 1
  omega
def HZ (b:UInt8):Int:=(b.toNat:Int)
theorem At (l:List UInt8):(l.map HZ).map (λn=>Lu n.toNat)=l:=by
 rw[Lc]
 conv=>rhs;rw[← List.map_id l]
 congr 1
 funext b
 simp[HZ]
theorem Dz (z:Int)(h0:0<=z)(h1:z<=255):L8.wrap z=z:=by
 simp only[IntKind.wrap,IntKind.signed,IntKind.bits]
 simp
 omega
theorem Au (n:Nat)(t:Int)(K:List Int->Option ByteArray):∀(j k:Nat) (m:Int) (out:List Int),m.natAbs<10 ^ j->j+1<=k->Je out+j<=100->m.natAbs<=4611686018427387904->
  bR.l0 n t K k m out=K ((if m=0 then []else(Ke m.natAbs).map HZ)++out)
 |j,0,m,out,_,hk,_,_=>by omega
 |0,k+1,m,out,hm,hk,ho,hb=>by
  have:m=0:=by simp at hm;exact hm
  subst this;unfold bR.l0
  simp
 |j+1,k+1,m,out,hm,hk,ho,hb=>by
  unfold bR.l0
  by_cases h0:m=0
  ·subst h0;simp
  ·have hd:(MO m 10).natAbs=m.natAbs / 10:=by rw[Int.natAbs_tdiv];rfl
   have hr:(Int.tmod m 10).natAbs=m.natAbs % 10:=by rw[Int.natAbs_tmod];rfl
   have hw:Jh.wrap (MO m 10)=MO m 10:=aJ _ (by omega) (by omega);have hl:Je [(1:Int)]+Je out<=aU:=by unfold aU;simp;omega
   have step:∀d:Int,d=((m.natAbs % 10:Nat):Int)->bR.l0 n t K k (Jh.wrap (MO m 10)) ([L8.wrap (Jh.wrap (48+d))]++out)=K ((Ke m.natAbs).map HZ++out):=by
    intro d hdd;have e1:L8.wrap (Jh.wrap (48+d))=HZ (Lu (48+m.natAbs % 10)):=by
     rw[aJ _ (by omega) (by omega),Dz _ (by omega) (by omega)];unfold HZ;have:=(li (m.natAbs % 10) (by omega)).2.2;omega
    rw[hw,e1,Au n t K j k (MO m 10) _ (by rw[hd];rw[NY]at hm;omega) (by omega) (by simp;omega) (by omega),hd]
    congr 1
    by_cases hu:m.natAbs<10
    ·have hz:MO m 10=0:=by omega
     rw[ab hz,nQ hu]
     simp[Nat.mod_eq_of_lt hu]
    ·have hz:¬MO m 10=0:=by omega
     rw[ao hz,sh hu]
     simp
   have hl2:∀z:Int,Je [z]+Je out<=aU:=λz=>by unfold aU;simp;omega
   rw[ao h0,ab (by simpa using h0)]
   split
   ·rename_i hneg
    rw[ab (hl2 _)];apply step;have hneg:=of_decide_eq_true hneg;rw[aJ _ (by omega) (by omega)];omega
   ·rename_i hneg
    have hneg:¬(Int.tmod m 10)<0:=λh=>hneg (iN h)
    rw[ab (hl2 _)];apply step;omega
theorem vc (n:Nat)(x:Int)(hn:25<=n)(h0:-4611686018427387904<=x)(h1:x<=4611686018427387904):bR.F n x=some (bt (KZ x)):=by
 unfold bR.F
 split
 ·rename_i h
  have h:=of_decide_eq_true h;subst h;have:KZ 0=[48]:=by unfold KZ;rw[ao (by omega),show Jg 0=0 from rfl,nQ (by omega)];rfl
  rw[this]
  rfl
 ·rename_i h
  have h:¬x=0:=λe=>h (iN e)
  rw[Au n x _ 20 n x [] (by omega) (by omega) (by simp) (by omega)];rw[ao h,Kv];unfold KZ
  by_cases hx:x<0
  ·rw[ab (iN hx),ab hx,ab]
   ·rw[As,Kk,At]
    rfl
   ·have:=qH 19 x.natAbs (by omega)
    unfold aU
    simp
    omega
  ·rw[ao (by simpa using hx),ao hx,As,At]
   have:x.natAbs=x.toNat:=by omega
   rw[this]
def lj (l:List UInt8):Prop:=∃x:Int,-1000000<=x/\x<=1000000/\l=KZ x
def iz (l:List UInt8):List UInt8:=match l with
 |[]=>[]
 |c::r=>if c.toNat=45 then r else c::r
theorem dz (n:Nat)(a b c:Int):bi.F n a b c=some (decide (b<=a/\a<=c)):=by
 unfold bi.F
 by_cases h:b<=a
 ·rw[ab (by simpa using h)]
  simp[h]
 ·rw[ao (by simpa using h)]
  simp[h]
theorem qc (n:Nat)(b:Int):dF.F n b=some (decide (48<=b/\b<=57)):=by
 unfold dF.F
 by_cases h:48<=b
 ·rw[ab (by simpa using h)]
  simp[h]
 ·rw[ao (by simpa using h)]
  simp[h]
theorem xl {b:UInt8}{d:Nat}(h:L6 b=some d):d<=9/\b.toNat=48+d:=by
 unfold L6 at h
 split at h
 ·cases h;omega
 ·cases h
theorem Av (n:Nat)(s:ByteArray)(K:Int->Option (Int×Bool)):∀(r pre:List UInt8) (t k:Nat),Je (pre++r)<=7->t<10 ^ pre.length->r.length+1<=k->
  bn.l1 n s (bt (pre++r)) K k (t:Int) (pre.length:Int)=match LG t r with|some v=>K (v:Int)|none=>some (0,false)
 |r,pre,t,0,_,_,hk=>by omega
 |[],pre,t,k+1,hl,ht,hk=>by
  unfold bn.l1;rw[ah,ao (by simp)]
  rfl
 |c::r,pre,t,k+1,hl,ht,hk=>by
  unfold bn.l1;have hlen:(pre.length:Int)<((pre++c::r).length:Int):=by simp;omega
  have hat:aO (bt (pre++c::r)) (pre.length:Int)=(c.toNat:Int):=by rw[tO,cR]
  rw[ah,ab (iN hlen),ab ⟨by omega,hlen⟩,hat,qc];simp only[Jc];simp only[LG];have hpl:pre.length<=6:=by simp at hl;omega
  have hp:(10:Nat) ^ pre.length<=10 ^ 6:=Og (by omega) hpl;cases hd:L6 c with
  |none=>
   have:¬(48<=(c.toNat:Int)/\(c.toNat:Int)<=57):=by
    intro⟨h1,h2⟩;unfold L6 at hd;rw[ab (by omega)]at hd;cases hd
   rw[ab (by simp only[LM,vk];exact this)]
  |some d=>
   obtain⟨d1,d2⟩:=xl hd;rw[ao (by simp;omega),ab ⟨by omega,hlen⟩,Dz _ (by omega) (by omega),aJ (10*(t:Int)) (by omega) (by omega),aJ ((c.toNat:Int) - 48) (by omega) (by omega),
    aJ (10*(t:Int)+_) (by omega) (by omega),aJ ((pre.length:Int)+1) (by omega) (by omega)]
   have e1:10*(t:Int)+((c.toNat:Int) - 48)=((t*10+d:Nat):Int):=by omega
   have e2:(pre.length:Int)+1=((pre++[c]).length:Int):=by simp
   have e3:pre++c::r=(pre++[c])++r:=by simp
   rw[e1,e2,e3];exact Av n s K r (pre++[c]) (t*10+d) k (by rw[← e3];exact hl) (by simp only[Jk,Kc,NY];omega) (by simpa using hk)
theorem nT {x:Int}(h0:-1000000<=x)(h1:x<=1000000):∃u:Nat,u<=1000000/\((1<=u/\x= -(u:Int)/\KZ x=45::Ke u)\/(x=(u:Int)/\KZ x=Ke u)):=by
 refine⟨x.natAbs,by omega,?_⟩;unfold KZ
 by_cases h:x<0
 ·exact .inl ⟨by omega,by omega,by rw[ab h]⟩
 ·exact .inr ⟨by omega,by rw[ao h,show x.toNat=x.natAbs by omega]⟩
theorem mf {u:Nat}:iz (45::Ke u)=Ke u/\iz (Ke u)=Ke u:=by
 refine⟨rfl,?_⟩;obtain⟨c,r,hc,h2,h3⟩:=sn u;rw[hc];unfold iz;dsimp only;rw[ao (by omega)]
theorem qd {x:Int}(h0:-1000000<=x)(h1:x<=1000000):∃u:Nat,u<=1000000/\iz (KZ x)=Ke u/\x=if iz (KZ x)=KZ x then(u:Int)else -(u:Int):=by
 obtain⟨u,hu,h|h⟩:=nT h0 h1
 ·refine⟨u,hu,by rw[h.2.2];exact mf.1,?_⟩
  rw[h.2.2,mf.1,ao]
  ·exact h.2.1
  ·intro e
   have:=congrArg Je e
   simp at this
 ·refine⟨u,hu,by rw[h.2];exact mf.2,?_⟩
  rw[h.2,mf.2,ab rfl];exact h.1
theorem so {u:Nat}(h:u<=1000000):1<=(Ke u).length/\(Ke u).length<=7:=by
 refine⟨?_,by have:=qH 6 u (by omega);omega⟩;have:=zm u;cases h:Ke u with
 |nil=>exact bJ h this
 |cons c r=>simp
theorem pG (n:Nat)(l:List UInt8)(hn:25<=n):∃v ok,bn.F n (bt l)=some (v,ok)/\(ok=true↔lj l)/\(ok=true->l=KZ v/\ -1000000<=v/\v<=1000000):=by
 have key:bn.F n (bt l)=bn.j0 n (bt l) 0 (bt (iz l)):=by
  unfold bn.F;cases l with
  |nil=>rw[ah,ao (by simp)];rfl
  |cons c r=>
   have hat:aO (bt (c::r)) 0=(c.toNat:Int):=by have:=tO (c::r) 0;simpa using this
   rw[ah,ab (by simp<;>omega),ab (by simp<;>omega),hat]
   by_cases hc:c.toNat=45
   ·rw[ab (by simp;omega),ab (by simp;omega),fV]
    congr 2
    unfold iz;dsimp only;rw[ab hc]
    simp
   ·rw[ao (by simp;omega)]
    congr 2
    unfold iz;dsimp only;rw[ao hc]
 rw[key];have hnum:lj l->∃u:Nat,u<=1000000/\iz l=Ke u:=by
  rintro⟨x,h0,h1,rfl⟩;obtain⟨u,hu,h2,_⟩:=qd h0 h1;exact⟨u,hu,h2⟩
 unfold bn.j0;rw[ah,dz];simp only[Jc]
 by_cases hlen:1<=(iz l).length/\(iz l).length<=7
 ·rw[ao (by simp;omega)]
  have:=Av n (bt l) (λt11=>
   if(!(JL (bt (iz l)) (bt l)))=true then
    (bR.F n (Jh.wrap (0 - t11))).bind λr12=>
    if(JL r12 (bt l))=true then
     (bi.F n (Jh.wrap (0 - t11)) (-1000000) 1000000).bind λr13=>
     some (Jh.wrap (0 - t11),r13)
    else
     some (Jh.wrap (0 - t11),false)
   else
    (bR.F n t11).bind λr14=>
    if(JL r14 (bt l))=true then
     (bi.F n t11 (-1000000) 1000000).bind λr15=>
     some (t11,r15)
    else
     some (t11,false)) (iz l) [] 0 n (by simpa using hlen.2) (by simp) (by omega)
  simp only[Kg,Jo,Int.natCast_zero]at this;rw[this];cases hv:LG 0 (iz l)with
  |none=>
   refine⟨0,false,rfl,⟨λh=>(by cases h),λh=>?_⟩,λh=>by cases h⟩;obtain⟨u,_,h2⟩:=hnum h;rw[h2,mZ]at hv;cases hv
  |some v=>
   have hv7:=Lib.decFrom_lt _ _ _ hv;have hp:(10:Nat) ^ (iz l).length<=10 ^ 7:=Og (by omega) hlen.2;have hvlt:v<10000000:=by omega
   have fin:∀x:Int,x=(if iz l=l then(v:Int)else -(v:Int))->
     ∃v' ok,((bR.F n x).bind λr14=>if(JL r14 (bt l))=true then(bi.F n x (-1000000) 1000000).bind λr15=>some (x,r15)else some (x,false))=some (v',ok)/\
      (ok=true↔lj l)/\(ok=true->l=KZ v'/\ -1000000<=v'/\v'<=1000000):=by
    intro x hx;have hxb:-10000000<=x/\x<=10000000:=by split at hx<;>omega
    rw[vc n x hn (by omega) (by omega)];simp only[Jc,gv];have toX:lj l->l=KZ x/\ -1000000<=x/\x<=1000000:=by
     rintro⟨y,h0,h1,rfl⟩;obtain⟨u,hu,h2,h3⟩:=qd h0 h1;rw[h2,mZ]at hv;cases hv;rw[← h3]at hx;rw[hx];exact⟨rfl,h0,h1⟩
    by_cases he:KZ x=l
    ·rw[ab (by simpa using he),dz]
     refine⟨x,_,rfl,⟨λh=>?_,λh=>?_⟩,λh=>?_⟩
     ·have:=of_decide_eq_true h
      exact⟨x,this.1,this.2,he.symm⟩
     ·exact iN (toX h).2
     ·exact⟨he.symm,of_decide_eq_true h⟩
    ·rw[ao (by simpa using he)]
     exact⟨x,false,rfl,⟨λh=>(by cases h),λh=>bJ (toX h).1.symm he⟩,λh=>by cases h⟩
   dsimp only;rw[gv]
   by_cases hu:iz l=l
   ·rw[ao (by simpa using hu)]
    exact fin _ (by rw[ab hu])
   ·rw[ab (by simpa using hu),aJ _ (by omega) (by omega)]
    exact fin _ (by rw[ao hu];omega)
 ·rw[ab (by simp;omega)]
  refine⟨0,false,rfl,⟨λh=>(by cases h),λh=>?_⟩,λh=>by cases h⟩;obtain⟨u,hu,h2⟩:=hnum h;rw[h2]at hlen;exact bJ (so hu) hlen
theorem kP (b:Bool):b=false\/b=true:=by cases b<;>simp
def cV (b:UInt8):Bool:=decide (48<=b.toNat/\b.toNat<=57)
def kc (b:UInt8):Bool:=decide (65<=b.toNat/\b.toNat<=90)
def jw (b:UInt8):Bool:=decide (97<=b.toNat/\b.toNat<=122)||kc b
def dc (b:UInt8):Bool:=jw b||cV b||decide (b.toNat=95)
def eR (b:UInt8):Bool:=decide (32<=b.toNat/\b.toNat<=126/\b.toNat≠34/\b.toNat≠92)
theorem DA (n:Nat)(a b c:Int):dX.F n a b c=some (decide (b<=a/\a<=c)):=by
 unfold dX.F
 by_cases h:b<=a
 ·rw[ab (by simpa using h)]
  simp[h]
 ·rw[ao (by simpa using h)]
  simp[h]
theorem iJ (n:Nat)(b:UInt8):dG.F n (b.toNat:Int)=some (cV b):=by
 unfold dG.F cV
 by_cases h:48<=b.toNat
 ·rw[ab (by simp;omega)]
  congr 1
  rw[decide_eq_decide];omega
 ·rw[ao (by simp;omega)]
  congr 1
  symm
  rw[vk];omega
theorem xm (b:UInt8):(if decide ((b.toNat:Int)>=65)=true then some (decide ((b.toNat:Int)<=90))else some false)=some (kc b):=by
 unfold kc
 by_cases h:65<=b.toNat
 ·rw[ab (by simp;omega)]
  congr 1
  rw[decide_eq_decide];omega
 ·rw[ao (by simp;omega)]
  congr 1
  symm
  rw[vk];omega
theorem sq (n:Nat)(b:UInt8):fW.F n (b.toNat:Int)=some (jw b):=by
 unfold fW.F;rw[xm];unfold jw
 by_cases h:97<=b.toNat
 ·rw[ab (by simp;omega)]
  by_cases h2:b.toNat<=122
  ·rw[ao (by simp;omega),iN (⟨h,h2⟩:97<=b.toNat/\b.toNat<=122)]
   rfl
  ·rw[ab (by simp;omega),dp (by omega:¬(97<=b.toNat/\b.toNat<=122))]
   rfl
 ·rw[ao (by simp;omega),dp (by omega:¬(97<=b.toNat/\b.toNat<=122))]
  rfl
theorem xn (n:Nat)(b:UInt8):gZ.F n (b.toNat:Int)=some (dc b):=by
 unfold gZ.F;rw[sq];simp only[Jc];rw[iJ];simp only[Jc];unfold dc;cases jw b
 ·cases cV b
  ·simp
   omega
  ·simp
 ·simp
theorem pH (n:Nat)(b:UInt8):dT.F n (b.toNat:Int)=some (decide (97<=b.toNat/\b.toNat<=122)):=by
 unfold dT.F
 by_cases h:97<=b.toNat
 ·rw[ab (by simp;omega)]
  congr 1
  rw[decide_eq_decide];omega
 ·rw[ao (by simp;omega)]
  congr 1
  symm
  rw[vk];omega
theorem qI (n:Nat)(b:UInt8):eZ.F n (b.toNat:Int)=some (kc b):=by
 unfold eZ.F;exact xm b
theorem lK (n:Nat)(b:UInt8):dF.F n (b.toNat:Int)=some (cV b):=by
 rw[qc];unfold cV
 congr 1
 rw[decide_eq_decide];omega
theorem sr (n:Nat)(b:UInt8):fh.F n (b.toNat:Int)=some (dc b):=by
 unfold fh.F;rw[pH];simp only[Jc];rw[qI];simp only[Jc];rw[lK];simp only[Jc];unfold dc jw;cases decide (97<=b.toNat/\b.toNat<=122)
 ·cases kc b
  ·cases cV b
   ·simp
    omega
   ·simp
  ·simp
 ·simp
def fK (l:List UInt8):Bool:=decide (1<=l.length/\l.length<=20)&&(match l with|[]=>false|c::_=>kc c)&&l.all dc
theorem ei (pre r:List UInt8)(c:UInt8):aO (bt (pre++c::r)) (pre.length:Int)=(c.toNat:Int):=by rw[tO,cR]
theorem gl (c:UInt8)(r:List UInt8):aO (bt (c::r)) 0=(c.toNat:Int):=by have:=tO (c::r) 0;simpa using this
theorem fw (pre r:List UInt8)(c:UInt8):(pre.length:Int)<((pre++c::r).length:Int):=by simp;omega
theorem cC (pre r:List UInt8)(c:UInt8):(0:Int)<=(pre.length:Int)/\(pre.length:Int)<((pre++c::r).length:Int):=⟨by omega,fw pre r c⟩
theorem gX (pre:List UInt8)(c:UInt8):(pre.length:Int)+1=((pre++[c]).length:Int):=by simp
theorem eN (pre r:List UInt8)(c:UInt8):pre++c::r=(pre++[c])++r:=by simp
theorem pJ (n:Nat)(K:Unit->Option Bool):∀(r pre:List UInt8) (k:Nat),(pre++r).length<=4294967296->r.length+1<=k->
  cN.l1 n (bt (pre++r)) K k (pre.length:Int)=if r.all dc=true then K ()else some false
 |r,pre,0,_,hk=>by omega
 |[],pre,k+1,hl,hk=>by
  unfold cN.l1;rw[ah,ao (by simp)]
  rfl
 |c::r,pre,k+1,hl,hk=>by
  unfold cN.l1;rw[ah,ab (iN (fw pre r c)),ab (cC pre r c),ei,sr];simp only[Jc,Kh];rcases kP (dc c)with hw|hw
  ·simp[hw]
  ·simp only[hw,KF,Jt,if_false,Kf]
   simp only[Jk,Jj]at hl;rw[aJ _ (by omega) (by omega),gX pre c,eN];exact pJ n K r (pre++[c]) k (by simp;omega) (by simpa using hk)
theorem zn (n:Nat)(l:List UInt8)(hl:l.length<=4294967296)(hn:l.length+1<=n):cN.F n (bt l) true=some (fK l):=by
 unfold cN.F;rw[ah,dz];simp only[Jc]
 by_cases h:1<=l.length/\l.length<=20
 ·rw[ab (by simp;omega),ab trivial]
  cases l with
  |nil=>simp at h
  |cons c r=>
   rw[ab (by simp<;>omega),gl,qI];simp only[Jc];unfold fK;rw[iN h];rcases kP (kc c)with hb|hb
   ·simp[hb]
   ·simp only[hb,KF,if_true,Jt,if_false,Kf]
    unfold cN.j0;have:=pJ n (λ_=>some true) (c::r) [] n (by simpa using hl) hn;simp only[Kg,Jo]at this;rw[show((0:Nat):Int)=0 from rfl]at this;rw[this];rcases kP ((c::r).all dc)with hw|hw<;>simp[hw]
 ·rw[ao (by simp;omega)]
  unfold fK;rw[dp h]
  rfl
theorem Aw (n:Nat)(K:Int->Option Int):∀(r pre:List UInt8) (k:Nat),pre≠[]->(pre++r).length<=4294967296->r.length+1<=k->
  ci.l0 n (bt (pre++r)) K k (pre.length:Int)=K ((pre.length+(r.takeWhile dc).length:Nat):Int)
 |r,pre,0,_,_,hk=>by omega
 |[],pre,k+1,hp,hl,hk=>by
  unfold ci.l0;rw[ah,ao (by simp)]
  rfl
 |c::r,pre,k+1,hp,hl,hk=>by
  unfold ci.l0;rw[ah,ab (iN (fw pre r c)),ab (cC pre r c),ei,xn];simp only[Jc,JR];have hp0:0<pre.length:=Lj.2 hp;rcases kP (dc c)with hw|hw
  ·simp[hw]
  ·simp only[hw,if_true]
   simp only[Jk,Jj]at hl;rw[ao (by simp;omega),aJ _ (by omega) (by omega),gX pre c,eN,Aw n K r (pre++[c]) k (by simp) (by simp;omega) (by simpa using hk)]
   congr 2
   simp
   omega
theorem lk (n:Nat)(l:List UInt8)(hl:l.length<=4294967296)(hn:l.length+1<=n):
  ci.F n (bt l)=some ((match l with|[]=>0|c::_=>if jw c=true then(l.takeWhile dc).length else 0:Nat):Int):=by
 unfold ci.F;cases l with
 |nil=>
  obtain⟨k,rfl⟩:∃k,n=k+1:=⟨n - 1,by omega⟩
  unfold ci.l0;rw[ah,ao (by simp)]
  rfl
 |cons c r=>
  obtain⟨k,rfl⟩:∃k,n=k+1:=⟨n - 1,by omega⟩
  unfold ci.l0;simp only[Jj]at hl hn;rw[ah,ab (by simp<;>omega),ab (by simp<;>omega),gl,xn];simp only[Jc];have hz:decide ((0:Int)>0)=false:=by simp
  have hin:(0:Int)<=0/\0<((c::r).length:Int):=⟨by omega,by simp<;>omega⟩;rw[sq,ab hz,ab hin];simp only[Jc];rcases kP (jw c)with ht|ht
  ·rcases kP (dc c)with hw|hw<;>simp[hw,ht]
  ·have hw:dc c=true:=by unfold dc;rw[ht];rfl
   simp only[hw,ht,if_true];rw[aJ _ (by omega) (by omega)];have:=Aw (k+1) (λt6=>some t6) r [c] k (by simp) (by simp;omega) (by omega);simp only[Kc,KO]at this;rw[show(0:Int)+1=((1:Nat):Int)from rfl,this]
   congr 2
   rw[JR,hw]
   simp
   omega
theorem jR {p:UInt8->Bool}{l:List UInt8}:(l.takeWhile p).length=l.length↔l.all p=true:=by
 induction l with
 |nil=>simp
 |cons c r ih=>
  rw[JR,Kh];cases hp:p c
  ·simp
  ·simp[ih]
theorem Ax (n:Nat):∀(r pre:List UInt8) (k:Nat),(pre++r).length<=4294967296->r.length+1<=k->
  cF.l0 n (bt (pre++r)) (λ_=>some 0) k (pre.length:Int)=
   some (if pre.length+(r.takeWhile eR).length<=21/\r[(r.takeWhile eR).length]? =some 34 then((pre.length+(r.takeWhile eR).length+1:Nat):Int)else 0)
 |r,pre,0,_,hk=>by omega
 |[],pre,k+1,hl,hk=>by
  unfold cF.l0;rw[ah,ao (by simp),ao (by simp)]
 |c::r,pre,k+1,hl,hk=>by
  unfold cF.l0;simp only[Jk,Jj]at hl;rw[ah,ab (iN (fw pre r c))]
  by_cases h21:pre.length<=21
  ·rw[ab (by simp;omega)]
   unfold cF.j1;rw[ah,ab (cC pre r c),ei,JR]
   by_cases hq:c.toNat=34
   ·have hpl:eR c=false:=by unfold eR;simp;omega
    have hc:c=34:=LJ.1 hq;rw[ab (by simp;omega),hpl,aJ _ (by omega) (by omega),ab]
    ·simp
    ·simp[hc];omega
   ·rw[ao (by simp;omega),ab (cC pre r c)]
    have hc:¬c=34:=λe=>hq (by rw[e];rfl)
    rcases kP (eR c)with hpl|hpl
    ·have hpl':=hpl
     simp only[eR,vk]at hpl;have z:∀(P:Prop) [Decidable P],(if(decide ((c.toNat:Int)<32))=false then(if(0:Int)<=(pre.length:Int)/\(pre.length:Int)<((pre++c::r).length:Int)then(if(decide ((c.toNat:Int)>126))=false then(if(0:Int)<=(pre.length:Int)/\(pre.length:Int)<((pre++c::r).length:Int)then(if decide ((c.toNat:Int)=92)=true then some (0:Int)else cF.l0 n (bt (pre++c::r)) (λ_=>some 0) k (Jh.wrap ((pre.length:Int)+1)))else none)else some 0)else none)else some 0)=some 0:=by
      intro P _
      by_cases h1:c.toNat<32
      ·rw[ao (by simp;omega)]
      ·rw[ab (by simp;omega),ab (cC pre r c)]
       by_cases h2:126<c.toNat
       ·rw[ao (by simp;omega)]
       ·rw[ab (by simp;omega),ab (cC pre r c),ab (by simp;omega)]
     rw[z True,hpl']
     simp[hc]
    ·have hpl':=hpl
     simp only[eR,db]at hpl;rw[hpl'];rw[ab (by simp;omega),ab (cC pre r c),ab (by simp;omega),ab (cC pre r c),ao (by simp;omega),aJ _ (by omega) (by omega),gX pre c,eN];refine(Ax n r (pre++[c]) k (by simp;omega) (by simpa using hk)).trans ?_
     congr 1
     simp only[if_true,Jk,Kc,Jj,Jo,Nat.zero_add,List.getElem?_cons_succ];have e1:pre.length+1+(r.takeWhile eR).length=pre.length+((r.takeWhile eR).length+1):=by omega
     rw[e1]
  ·rw[ao (by simp;omega),ao (by omega)]
theorem nD (n:Nat)(c:UInt8)(r:List UInt8)(hl:r.length<=4294967000)(hn:r.length+1<=n):
  cF.F n (bt (c::r))=some (if(r.takeWhile eR).length<=20/\r[(r.takeWhile eR).length]? =some 34 then(((r.takeWhile eR).length+2:Nat):Int)else 0):=by
 unfold cF.F;have:=Ax n r [c] n (by simp;omega) hn;simp only[Kc,KO]at this;rw[show((1:Nat):Int)=1 from rfl]at this;rw[this]
 congr 1
 have e1:1+(r.takeWhile eR).length+1=(r.takeWhile eR).length+2:=by omega
 rw[e1]
 by_cases h:(r.takeWhile eR).length<=20/\r[(r.takeWhile eR).length]? =some 34
 ·rw[ab ⟨by omega,h.2⟩,ab h]
 ·rw[ao (by rintro⟨h1,h2⟩;exact h ⟨by omega,h2⟩),ao h]
def aC:List (List UInt8)->List UInt8
 |[]=>[]
 |a::bs=>44::(a++aC bs)
inductive Tm:Nat->List UInt8->Prop where
 |num (x:Int) (h0:-1000000<=x) (h1:x<=1000000):Tm 1 (KZ x)
 |sym (m:List UInt8) (h:m.length<=20) (hp:m.all eR=true):Tm 2 (34::(m++[34]))
 |con0 (nm:List UInt8) (h:fK nm=true):Tm 3 nm
 |con (nm a:List UInt8) (bs:List (List UInt8)) (h:fK nm=true) (ks:List UInt8->Nat) (hh:∀x∈a::bs,Tm (ks x) x):Tm 3 (nm++40::(a++(aC bs++[41])))
theorem Tm.kind {k:Nat}{l:List UInt8}(h:Tm k l):1<=k/\k<=3:=by cases h<;>omega
def xo (l:List UInt8):Prop:=l=[]\/∃c r,l=c::r/\(c=44\/c=41)
theorem iK {nm:List UInt8}(h:fK nm=true):∃c r,nm=c::r/\kc c=true/\nm.length<=20/\nm.all dc=true:=by
 unfold fK at h;simp only[Jm,db]at h;cases nm with
 |nil=>simp at h
 |cons c r=>exact⟨c,r,rfl,h.1.2,h.1.1.2,h.2⟩
theorem pK {x:Int}(h0:-1000000<=x)(h1:x<=1000000):∃c r,KZ x=c::r/\(c=45\/cV c=true)/\r.all cV=true:=by
 have all:∀u,(Ke u).all cV=true:=by
  intro u;rw[JS];intro b hb;unfold cV;exact iN (sk u b hb)
 obtain⟨u,hu,h|h⟩:=nT h0 h1
 ·exact⟨45,_,h.2.2,.inl rfl,all u⟩
 ·obtain⟨c,r,hc,h2,h3⟩:=sn u
  have:=all u;rw[hc,Kh,Jm]at this;exact⟨c,r,by rw[h.2,hc],.inr this.1,this.2⟩
theorem Tm.ne {k:Nat}{l:List UInt8}(h:Tm k l):l≠[]:=by
 cases h with
 |num x h0 h1=>obtain⟨c,r,hc,_⟩:=pK h0 h1;rw[hc];simp
 |sym m h hp=>simp
 |con0 nm h=>obtain⟨c,r,hc,_⟩:=iK h;rw[hc];simp
 |con nm a bs h ks hh=>simp
theorem iA {p:UInt8->Bool}{a r:List UInt8}(ha:a.all p=true)(hr:r=[]\/∃c t,r=c::t/\p c=false):(a++r).takeWhile p=a:=by
 induction a with
 |nil=>
  rcases hr with rfl|⟨c,t,rfl,hc⟩
  ·rfl
  ·simp[hc]
 |cons c a ih=>
  rw[Kh,Jm]at ha;rw[KK,JR,ha.1,ab rfl,ih ha.2]
theorem Ay {p:UInt8->Bool}(h1:p 44=false)(h2:p 41=false){r:List UInt8}(h:xo r):r=[]\/∃c t,r=c::t/\p c=false:=by
 rcases h with rfl|⟨c,t,rfl,rfl|rfl⟩
 ·exact .inl rfl
 ·exact .inr ⟨_,_,rfl,h1⟩
 ·exact .inr ⟨_,_,rfl,h2⟩
theorem Az (n:Nat)(self:ByteArray->Option (Int×Int))(K:Int->Option (Int×Int)):∀(r pre:List UInt8) (k:Nat),(pre++r).length<=4294967296->r.length+1<=k->
  aG.l1 n self (bt (pre++r)) K k (pre.length:Int)=K ((pre.length+(r.takeWhile cV).length:Nat):Int)
 |r,pre,0,_,hk=>by omega
 |[],pre,k+1,hl,hk=>by
  unfold aG.l1;rw[ah,ao (by simp)]
  rfl
 |c::r,pre,k+1,hl,hk=>by
  unfold aG.l1;rw[ah,ab (iN (fw pre r c)),ab (cC pre r c),ei,iJ];simp only[Jc,JR];rcases kP (cV c)with hw|hw
  ·simp[hw]
  ·simp only[hw,if_true]
   simp only[Jk,Jj]at hl;rw[aJ _ (by omega) (by omega),gX pre c,eN,Az n self K r (pre++[c]) k (by simp;omega) (by simpa using hk)]
   congr 2
   simp
   omega
theorem DB (n:Nat)(self:ByteArray->Option (Int×Int))(c:UInt8)(r:List UInt8)(Kn:Unit->Option (Int×Int))(hl:r.length<=4294960000)(hn:r.length+1<=n):
  (lj (c::r.takeWhile cV)->aG.j0 n self (bt (c::r)) true Kn=some (1,(((c::r.takeWhile cV).length:Nat):Int)))/\
  (¬lj (c::r.takeWhile cV)->aG.j0 n self (bt (c::r)) true Kn=Kn ()):=by
 have hw:(r.takeWhile cV).length<=r.length:=(Lg cV).length_le;have htk:(c::r).take (r.takeWhile cV).length.succ=c::r.takeWhile cV:=by
  rw[List.take_succ_cons]
  congr 1
  exact(NG.1 (Lg cV)).symm
 have key:aG.j0 n self (bt (c::r)) true Kn=
   (match Mn (c::r.takeWhile cV)with
    | .ok v=>if -1000000<=v/\v<=1000000/\KZ v=c::r.takeWhile cV then some (1,(((c::r.takeWhile cV).length:Nat):Int))else Kn ()
    |_=>Kn ()):=by
  unfold aG.j0;rw[ab rfl];have:=Az n self (λt9=>
   if(0:Int)<=0/\(0:Int)<=t9/\t9<=(Jf (bt (c::r)):Int)then
    (eX.F n (Jz (bt (c::r)) (Jg 0) (Jg t9))).bind λr10=>
    if(r10.2&&false)=true then
     none
    else
     if(r10.2==false)=true then
      (dX.F n r10.1 (-1000000) 1000000).bind λr11=>
      if r11=true then
       (de.F n r10.1).bind λr12=>
       if(0:Int)<=0/\(0:Int)<=t9/\t9<=(Jf (bt (c::r)):Int)then
        if(JL r12 (Jz (bt (c::r)) (Jg 0) (Jg t9)))=true then
         some (1,t9)
        else
         Kn ()
       else
        none
      else
       Kn ()
     else
      Kn ()
   else
    none) r [c] n (by simp;omega) hn
  simp only[Kc,KO]at this;rw[show((1:Nat):Int)=1 from rfl]at this;rw[this];have hin:(0:Int)<=0/\(0:Int)<=((1+(r.takeWhile cV).length:Nat):Int)/\((1+(r.takeWhile cV).length:Nat):Int)<=(Jf (bt (c::r)):Int):=by
   rw[ah,Jj];omega
  have hex:Jz (bt (c::r)) (Jg 0) (Jg ((1+(r.takeWhile cV).length:Nat):Int))=bt (c::r.takeWhile cV):=by
   rw[fV,JD,show Jg 0=0 from rfl,JN,Nat.add_comm,htk]
  have hlen:((1+(r.takeWhile cV).length:Nat):Int)=(((c::r.takeWhile cV).length:Nat):Int):=by rw[Jj,Nat.add_comm]
  rw[ab hin,hex];unfold eX.F;rw[ab (by rw[ah,Jj];omega),ez];simp only[Jc,Bool.and_false,Jt,if_false];rcases Mn (c::r.takeWhile cV)with v|_|_
  ·dsimp only
   rw[ab (show(false==false)=true from rfl),DA];simp only[Jc]
   by_cases hr:-1000000<=v/\v<=1000000
   ·rw[ab (iN hr)]
    unfold de.F;rw[ab (by omega)];simp only[Jc];rw[ab hin,IC,gv,hlen]
    by_cases he:KZ v=c::r.takeWhile cV
    ·rw[ab (by simpa using he),ab ⟨hr.1,hr.2,he⟩]
    ·rw[ao (by simpa using he),ao (λh=>he h.2.2)]
   ·rw[ao (by simpa using hr),ao (λh=>hr ⟨h.1,h.2.1⟩)]
  ·rfl
  ·rfl
 rw[key]
 constructor
 ·rintro⟨x,h0,h1,hx⟩
  rw[hx,tQ x h0 h1];dsimp only;rw[ab ⟨h0,h1,rfl⟩]
 ·intro hno
  rcases h:Mn (c::r.takeWhile cV)with v|_|_
  ·dsimp only
   rw[ao];rintro⟨h0,h1,h2⟩;exact hno ⟨v,h0,h1,h2.symm⟩
  ·rfl
  ·rfl
def TR (l:List UInt8)(res:Int×Int):Prop:=res=(0,0)\/∃(k:Nat) (t rest:List UInt8),res=((k:Int),(t.length:Int))/\Tm k t/\l=t++rest
theorem oM (l:List UInt8)(p:Nat):Jz (bt l) (Jg (p:Int)) (Jg (Jf (bt l):Int))=bt (l.drop p):=by
 rw[fV,ah,JD,JD,List.take_length]
theorem xp (n:Nat)(self:ByteArray->Option (Int×Int))(l:List UInt8)(K:Int->Option (Int×Int))(hl:l.length<=4294960000)
  (hS:∀l':List UInt8,l'.length<l.length->∃res,self (bt l')=some res/\TR l' res):∀(k p:Nat),p<l.length->l.length - p+1<=k->
  aG.l4 n self (bt l) K k (p:Int) true=some (0,0)\/∃(a:List UInt8) (bs:List (List UInt8)) (rest:List UInt8),l.drop (p+1)=a++(aC bs++rest)/\(∀x∈a::bs,∃k,Tm k x)/\
   aG.l4 n self (bt l) K k (p:Int) true=K ((p+1+(a++aC bs).length:Nat):Int)
 |0,p,_,hk=>by omega
 |k+1,p,hp,hk=>by
  have hlen:(l.drop (p+1)).length<l.length:=by rw[LH];omega
  obtain⟨res,hres,htr⟩:=hS _ hlen;have hw1:Jh.wrap ((p:Int)+1)=((p+1:Nat):Int):=by rw[aJ _ (by omega) (by omega)];omega
  have hin:(0:Int)<=((p+1:Nat):Int)/\((p+1:Nat):Int)<=(Jf (bt l):Int)/\(Jf (bt l):Int)<=(Jf (bt l):Int):=by rw[ah];omega
  have key:aG.l4 n self (bt l) K (k+1) (p:Int) true=
    (if decide (res.1=0)=true then some (0,0)else
     if(decide ((Jh.wrap ((p:Int)+(Jh.wrap (1+res.2))))<(Jf (bt l):Int)))=true then
      if(0:Int)<=(Jh.wrap ((p:Int)+(Jh.wrap (1+res.2))))/\(Jh.wrap ((p:Int)+(Jh.wrap (1+res.2))))<(Jf (bt l):Int)then
       aG.l4 n self (bt l) K k (Jh.wrap ((p:Int)+(Jh.wrap (1+res.2)))) (decide ((aO (bt l) (Jh.wrap ((p:Int)+(Jh.wrap (1+res.2)))))=44))
      else none
     else aG.l4 n self (bt l) K k (Jh.wrap ((p:Int)+(Jh.wrap (1+res.2)))) false):=by
   conv=>lhs;unfold aG.l4
   rw[ab rfl,hw1,ab hin,oM,hres]
   rfl
  rw[key];rcases htr with rfl|⟨kk,t,rest,rfl,ht,hdr⟩
  ·left;rw[ab (by simp)]
  ·have hkk:=ht.kind
   have htl:t.length+rest.length=l.length - (p+1):=by rw[← LH,hdr,Jk]
   have hw2:Jh.wrap ((p:Int)+(Jh.wrap (1+(t.length:Int))))=((p+1+t.length:Nat):Int):=by
    rw[aJ (1+(t.length:Int)) (by omega) (by omega),aJ _ (by omega) (by omega)];omega
   dsimp only;rw[ao (by simp;omega),hw2,ah];have stop:∀k',1<=k'->aG.l4 n self (bt l) K k' ((p+1+t.length:Nat):Int) false=K ((p+1+t.length:Nat):Int):=by
    intro k' hk';obtain⟨j,rfl⟩:∃j,k'=j+1:=⟨k' - 1,by omega⟩
    unfold aG.l4;rw[ao (by simp)]
   have fin:∀X,X=K ((p+1+t.length:Nat):Int)->X=some (0,0)\/∃(a:List UInt8) (bs:List (List UInt8)) (rest:List UInt8),l.drop (p+1)=a++(aC bs++rest)/\(∀x∈a::bs,∃k,Tm k x)/\
     X=K ((p+1+(a++aC bs).length:Nat):Int):=by
    rintro X rfl;refine .inr ⟨t,[],rest,by rw[hdr];rfl,λx hx=>?_,by simp[aC]⟩;simp only[JQ]at hx;subst hx;exact⟨kk,ht⟩
   have htne:=ht.ne;have htpos:0<t.length:=Lj.2 htne
   by_cases hlt:p+1+t.length<l.length
   ·rw[ab (by simp;omega),ab (by omega)]
    have hdrop:l.drop (p+1+t.length)=rest:=by rw[← Lo,hdr,Kx]
    cases rest with
    |nil=>rw[MM]at hdrop;omega
    |cons c r=>
     have hat:aO (bt l) ((p+1+t.length:Nat):Int)=(c.toNat:Int):=by
      rw[tO]
      congr 2
      rw[KB,← MG,hdrop]
      rfl
     rw[hat]
     by_cases hc:c=44
     ·subst hc
      rw[show decide ((((44:UInt8).toNat:Nat):Int)=44)=true from rfl];rcases xp n self l K hl hS k (p+1+t.length) hlt (by omega)with h|⟨a,bs,rest2,h1,h2,h3⟩
      ·exact .inl h
      ·refine .inr ⟨t,a::bs,rest2,?_,λx hx=>?_,?_⟩
       ·have:r=a++(aC bs++rest2):=by
         rw[← h1,← Lo,hdrop]
         rfl
        rw[hdr,this]
        simp[aC]
       ·rcases JJ.1 hx with rfl|hx
        ·exact⟨kk,ht⟩
        ·exact h2 x hx
       ·rw[h3]
        congr 2
        simp[aC]
        omega
     ·have:decide ((c.toNat:Int)=44)=false:=by
       rw[vk];intro e;exact hc (LJ.1 (show c.toNat=(44:UInt8).toNat by rw[show(44:UInt8).toNat=44 from rfl];omega))
      rw[this];exact fin _ (stop k (by omega))
   ·rw[ao (by simp;omega)]
    exact fin _ (stop k (by omega))
theorem qe (n:Nat)(self:ByteArray->Option (Int×Int))(K:Int->Option (Int×Int))(L:Nat)(hL:L<=4294960000):
  ∀(bs:List (List UInt8)) (a pre rest:List UInt8) (c:UInt8) (k:Nat),pre.length+1+(a++(aC bs++41::rest)).length=L->
   (∀x∈a::bs,∀r,xo r->x.length+r.length<L->∃kx:Nat,1<=kx/\self (bt (x++r))=some ((kx:Int),(x.length:Int)))->bs.length+2<=k->
   aG.l4 n self (bt (pre++c::(a++(aC bs++41::rest)))) K k (pre.length:Int) true=K ((pre.length+1+(a++aC bs).length:Nat):Int)
 |bs,a,pre,rest,c,0,_,_,hk=>by omega
 |bs,a,pre,rest,c,k+1,hlen,hC,hk=>by
  have hstop:xo (aC bs++41::rest):=by
   cases bs with
   |nil=>exact .inr ⟨_,_,rfl,.inr rfl⟩
   |cons b bs=>exact .inr ⟨_,_,rfl,.inl rfl⟩
  simp only[Jk,Jj]at hlen;obtain⟨kx,hkx,hself⟩:=hC a JA _ hstop (by simp only[Jk,Jj];omega);have hsz:Jf (bt (pre++c::(a++(aC bs++41::rest))))=L:=by
   rw[ah];simp only[Jk,Jj];omega
  have hw1:Jh.wrap ((pre.length:Int)+1)=((pre.length+1:Nat):Int):=by rw[aJ _ (by omega) (by omega)];omega
  have hdr:(pre++c::(a++(aC bs++41::rest))).drop (pre.length+1)=a++(aC bs++41::rest):=by
   rw[← Lo,Kx];rfl
  have hw2:Jh.wrap ((pre.length:Int)+(Jh.wrap (1+(a.length:Int))))=((pre.length+1+a.length:Nat):Int):=by
   rw[aJ (1+(a.length:Int)) (by omega) (by omega),aJ _ (by omega) (by omega)];omega
  have hat:∀(d:UInt8) (r:List UInt8),aC bs++41::rest=d::r->aO (bt (pre++c::(a++(aC bs++41::rest)))) ((pre.length+1+a.length:Nat):Int)=(d.toNat:Int):=by
   intro d r he;have e1:pre++c::(a++(aC bs++41::rest))=(pre++c::a)++d::r:=by rw[he];simp
   have e2:pre.length+1+a.length=(pre++c::a).length:=by simp;omega
   rw[e1,e2,ei]
  unfold aG.l4;rw[ab rfl,hw1,ab (by rw[hsz];omega),oM,hdr,hself];simp only[Jc];rw[ao (by simp;omega),hw2,ab (by rw[hsz];simp;omega),ab (by rw[hsz];omega)];cases bs with
  |nil=>
   rw[hat 41 rest rfl,show decide ((((41:UInt8).toNat:Nat):Int)=44)=false from rfl];obtain⟨j,rfl⟩:∃j,k=j+1:=⟨k - 1,by simp at hk;omega⟩
   unfold aG.l4;rw[ao (by simp)]
   simp[aC]
  |cons b bs=>
   rw[hat 44 _ rfl,show decide ((((44:UInt8).toNat:Nat):Int)=44)=true from rfl];have e1:pre++c::(a++(aC (b::bs)++41::rest))=(pre++c::a)++44::(b++(aC bs++41::rest)):=by simp[aC]
   have e2:pre.length+1+a.length=(pre++c::a).length:=by simp;omega
   rw[e1,e2,qe n self K L hL bs b (pre++c::a) rest 44 k (by simp only[aC,Jk,Jj]at hlen⊢;omega)
    (λx hx=>hC x (JE _ hx)) (by simp at hk;omega)]
   congr 2
   simp[aC]
   omega
theorem n6:cV 44=false/\cV 41=false/\dc 44=false/\dc 41=false/\dc 40=false:=by decide
theorem GA (n:Nat)(self:ByteArray->Option (Int×Int))(c:UInt8)(r:List UInt8)(hc:c=45\/cV c=true):
  aG.G n self (bt (c::r))=aG.j0 n self (bt (c::r)) true (λ_=>some (0,0)):=by
 have hsz:0<(Jf (bt (c::r)):Int):=by rw[ah];simp<;>omega
 unfold aG.G;rw[iy,gv,ao (by simp),ab ⟨by omega,hsz⟩,gl];have h34:¬(c.toNat:Int)=34:=by
  rcases hc with rfl|hc
  ·decide
  ·unfold cV at hc
   have:=of_decide_eq_true hc;omega
 rw[ao (by simpa using h34),ab ⟨by omega,hsz⟩];rcases hc with rfl|hc
 ·rw[ao (by decide)]
 ·have h45:¬(c.toNat:Int)=45:=by
   unfold cV at hc;have:=of_decide_eq_true hc;omega
  rw[ab (by simpa using h45),ab ⟨by omega,hsz⟩,iJ,hc]
  rfl
theorem GB (n:Nat)(self:ByteArray->Option (Int×Int))(r:List UInt8)(hl:r.length<=4294960000)(hn:r.length+1<=n):
  aG.G n self (bt (34::r))=some (if(r.takeWhile eR).length<=20/\r[(r.takeWhile eR).length]? =some 34 then(2,(((r.takeWhile eR).length+2:Nat):Int))else(0,0)):=by
 have hsz:0<(Jf (bt (34::r)):Int):=by rw[ah];simp<;>omega
 unfold aG.G;rw[iy,gv,ao (by simp),ab ⟨by omega,hsz⟩,gl,ab (by decide),nD n 34 r (by omega) hn];simp only[Jc]
 by_cases h:(r.takeWhile eR).length<=20/\r[(r.takeWhile eR).length]? =some 34
 ·rw[ab h,ab h,ab (by simp;omega)]
 ·rw[ao h,ao h,ao (by simp)]
theorem DC (n:Nat)(self:ByteArray->Option (Int×Int))(c:UInt8)(r:List UInt8)(hc:kc c=true)(hl:r.length<=4294960000)(hn:r.length+2<=n):
  aG.G n self (bt (c::r))=
   (if 20<((c::r).takeWhile dc).length then some (0,0)else match(c::r).drop ((c::r).takeWhile dc).length with
    |[]=>some (3,(((c::r).takeWhile dc).length:Int))
    |d::t=>if d=40 then aG.j3 n self (bt (c::r)) (((c::r).takeWhile dc).length:Int) (λ_=>some (0,0))else some (3,(((c::r).takeWhile dc).length:Int))):=by
 have hsz:0<(Jf (bt (c::r)):Int):=by rw[ah];simp<;>omega
 have hc':=hc;unfold kc at hc';have hc':=of_decide_eq_true hc';have hdg:cV c=false:=by unfold cV;exact dp (by omega)
 have hlt:jw c=true:=by unfold jw;rw[hc];simp
 unfold aG.G;rw[iy,gv,ao (by simp),ab ⟨by omega,hsz⟩,gl,ao (by simp;omega),ab ⟨by omega,hsz⟩,ab (by simp;omega),ab ⟨by omega,hsz⟩,iJ,hdg];simp only[Jc];unfold aG.j0;rw[ao (by simp),ab ⟨by omega,hsz⟩,gl,ab (by simp;omega),ab ⟨by omega,hsz⟩,iN (by omega:(c.toNat:Int)<=90)];unfold aG.j2;rw[ab rfl,lk n (c::r) (by simp;omega) (by simp;omega)];dsimp only[Jc];rw[hlt,ab rfl];generalize hw:((c::r).takeWhile dc).length=w;have hwle:w<=(c::r).length:=by rw[← hw];exact(Lg dc).length_le
 simp only[Jj]at hwle
 by_cases h20:20<w
 ·rw[ab h20,ab (by simp;omega)]
 ·rw[ao h20,ao (by simp;omega),ah]
  cases hd:(c::r).drop w with
  |nil=>
   have:=MM.1 hd;rw[ao];simp only[Jj]at this⊢
   simp
   omega
  |cons d t=>
   have hlen:=congrArg Je hd;rw[LH]at hlen;simp only[Jj]at hlen;have hat:aO (bt (c::r)) (w:Int)=(d.toNat:Int):=by
    rw[tO,KB,← MG,hd]
    rfl
   rw[ab (by simp only[Jj,vk];omega),ab (by simp only[Jj];omega),hat];dsimp only
   by_cases h40:d=40
   ·subst h40
    rw[ao (by decide),ab rfl]
   ·rw[ao h40,ab]
    simp only[LM,vk];intro e;exact h40 (LJ.1 (show d.toNat=(40:UInt8).toNat by rw[show(40:UInt8).toNat=40 from rfl];omega))
theorem Fv (n:Nat)(self:ByteArray->Option (Int×Int))(c:UInt8)(r:List UInt8)(h1:¬c=34)(h2:¬c=45)(h3:cV c=false)(h4:kc c=false):
  aG.G n self (bt (c::r))=some (0,0):=by
 have hsz:0<(Jf (bt (c::r)):Int):=by rw[ah];simp<;>omega
 have n1:¬(c.toNat:Int)=34:=λe=>h1 (LJ.1 (show c.toNat=(34:UInt8).toNat by rw[show(34:UInt8).toNat=34 from rfl];omega))
 have n2:¬(c.toNat:Int)=45:=λe=>h2 (LJ.1 (show c.toNat=(45:UInt8).toNat by rw[show(45:UInt8).toNat=45 from rfl];omega))
 unfold kc at h4;have h4:=of_decide_eq_false h4;unfold aG.G;rw[iy,gv,ao (by simp),ab ⟨by omega,hsz⟩,gl,ao (by simpa using n1),ab ⟨by omega,hsz⟩,ab (by simpa using n2),ab ⟨by omega,hsz⟩,iJ,h3];simp only[Jc];unfold aG.j0;rw[ao (by simp),ab ⟨by omega,hsz⟩,gl]
 by_cases h65:(c.toNat:Int)>=65
 ·rw[ab (by simpa using h65),ab ⟨by omega,hsz⟩]
  unfold aG.j2;rw[ao (by simp;omega)]
 ·rw[ao (by simpa using h65)]
  unfold aG.j2;rw[ao (by simp)]
theorem n7 (p:UInt8->Bool)(l:List UInt8):l=l.takeWhile p++l.drop (l.takeWhile p).length:=by
 have:=(NG.1 (Lg (l:=l) p))
 conv=>lhs;rw[← List.take_append_drop (l.takeWhile p).length l]
 rw[← this]
theorem vd (p:UInt8->Bool)(l:List UInt8):(l.takeWhile p).all p=true:=by
 induction l with
 |nil=>rfl
 |cons c r ih=>
  rw[JR];rcases kP (p c)with h|h
  ·simp[h]
  ·simp only[h,if_true,Kh,ih,Bool.and_self]
theorem Fw {c:UInt8}{r:List UInt8}(hc:kc c=true)(h:¬20<((c::r).takeWhile dc).length):fK ((c::r).takeWhile dc)=true:=by
 have hw:dc c=true:=by unfold dc jw;rw[hc];simp
 unfold fK;rw[vd];rw[JR,hw,ab rfl]at h⊢;simp only[Jj]at h⊢
 simp[hc]
 omega
theorem nU (n:Nat)(s:ByteArray):aG.F (n+1) s=aG.G n (aG.F n) s:=rfl
theorem ve:∀(L:Nat) (l:List UInt8) (n:Nat),l.length<=L->L<=4294960000->l.length+60<=n->∃res,aG.F n (bt l)=some res/\TR l res:=by
 intro L
 induction L with
 |zero=>
  intro l n hl _ hn;obtain⟨n,rfl⟩:∃m,n=m+1:=⟨n - 1,by omega⟩
  have:l=[]:=Kb.1 (by omega);subst this;rw[nU];unfold aG.G;rw[iy,gv,ab (by simp)];exact⟨_,rfl,.inl rfl⟩
 |succ L ih=>
  intro l n hl hL hn;obtain⟨n,rfl⟩:∃m,n=m+1:=⟨n - 1,by omega⟩
  cases l with
  |nil=>
   rw[nU];unfold aG.G;rw[iy,gv,ab (by simp)];exact⟨_,rfl,.inl rfl⟩
  |cons c r=>
   simp only[Jj]at hl hn;rw[nU]
   by_cases hq:c=34
   ·subst hq
    rw[GB n _ r (by omega) (by omega)];refine⟨_,rfl,?_⟩
    by_cases h:(r.takeWhile eR).length<=20/\r[(r.takeWhile eR).length]? =some 34
    ·rw[ab h]
     have hs:=n7 eR r;cases hd:r.drop (r.takeWhile eR).length with
     |nil=>
      have h2:=h.2;rw[← MG,hd]at h2;cases h2
     |cons d t=>
      have h2:=h.2;rw[← MG,hd]at h2;cases h2;rw[hd]at hs;refine .inr ⟨2,34::(r.takeWhile eR++[34]),t,?_,Tm.sym _ h.1 (vd _ _),?_⟩
      ·congr 1
       simp only[Jj,Jk,Jo]
      ·conv=>lhs;rw[hs]
       simp
    ·rw[ao h];exact .inl rfl
   ·by_cases hnum:c=45\/cV c=true
    ·rw[GA n _ c r hnum]
     obtain⟨h1,h2⟩:=DB n (aG.F n) c r (λ_=>some (0,0)) (by omega) (by omega)
     by_cases hN:lj (c::r.takeWhile cV)
     ·rw[h1 hN]
      obtain⟨x,hx0,hx1,hx⟩:=hN;refine⟨_,rfl,.inr ⟨1,c::r.takeWhile cV,r.drop (r.takeWhile cV).length,rfl,?_,?_⟩⟩
      ·rw[hx];exact Tm.num x hx0 hx1
      ·rw[KK,← n7]
     ·rw[h2 hN]
      exact⟨_,rfl,.inl rfl⟩
    ·by_cases hb:kc c=true
     ·rw[DC n _ c r hb (by omega) (by omega)]
      by_cases h20:20<((c::r).takeWhile dc).length
      ·rw[ab h20];exact⟨_,rfl,.inl rfl⟩
      ·rw[ao h20]
       have hnm:=Fw hb h20;have hs:=n7 dc (c::r);have hwle:((c::r).takeWhile dc).length<=(c::r).length:=(Lg dc).length_le;cases hd:(c::r).drop ((c::r).takeWhile dc).length with
       |nil=>
        rw[hd,Kv]at hs;dsimp only;refine⟨_,rfl,.inr ⟨3,(c::r).takeWhile dc,[],rfl,Tm.con0 _ hnm,?_⟩⟩;rw[Kv];exact hs
       |cons d t=>
        dsimp only
        by_cases h40:d=40
        ·subst h40
         rw[ab rfl];unfold aG.j3;have hdl:=congrArg Je hd;rw[LH]at hdl;simp only[Jj]at hdl;have hlt:((c::r).takeWhile dc).length<(c::r).length:=by simp only[Jj];omega
         rcases xp n (aG.F n) (c::r) (λt22=>
           if(decide (t22<(Jf (bt (c::r)):Int)))=true then
            if(0:Int)<=t22/\t22<(Jf (bt (c::r)):Int)then
             if decide ((aO (bt (c::r)) t22)=41)=true then
              some (3,Jh.wrap (t22+1))
             else
              (λ_=>some (0,0)) ()
            else
             none
           else
            (λ_=>some (0,0)) ()) (by simp only[Jj];omega)
          (λl' hl'=>ih l' n (by simp only[Jj]at hl';omega) (by omega) (by simp only[Jj]at hl';omega)) n _ hlt (by simp only[Jj];omega)with h|⟨a,bs,rest,h1,h2,h3⟩
         ·exact⟨_,h,.inl rfl⟩
         ·rw[h3]
          dsimp only;have ht:t=a++(aC bs++rest):=by rw[← h1,← Lo,hd];rfl
          have hfull:c::r=((c::r).takeWhile dc++40::(a++aC bs))++rest:=by
           conv=>lhs;rw[hs,hd,ht]
           simp
          have hlen2:((c::r).takeWhile dc).length+1+(a++aC bs).length=((c::r).takeWhile dc++40::(a++aC bs)).length:=by
           simp only[Jk,Jj];omega
          cases rest with
          |nil=>
           have hl2:=congrArg Je hfull;rw[Kv,← hlen2]at hl2;rw[ah,ao (by simp only[db];omega)];exact⟨_,rfl,.inl rfl⟩
          |cons e u=>
           rw[hlen2];have hat:aO (bt (c::r)) ((((c::r).takeWhile dc++40::(a++aC bs)).length:Nat):Int)=(e.toNat:Int):=by
            conv=>lhs;arg 1;rw[hfull]
            exact ei _ _ _
           have hl3:((((c::r).takeWhile dc++40::(a++aC bs)).length:Nat):Int)<(Jf (bt (c::r)):Int):=by
            rw[ah];have hl2:=congrArg Je hfull;rw[Jk]at hl2;have h9:(e::u).length=u.length+1:=rfl;omega
           have hl4:((c::r).takeWhile dc++40::(a++aC bs)).length<=4294960000:=by
            rw[ah]at hl3;have hcr:(c::r).length<=4294960000:=by simp only[Jj];omega
            exact Nat.le_trans (Nat.le_of_lt (Int.ofNat_lt.1 hl3)) hcr
           rw[ab (iN hl3),ab ⟨by omega,hl3⟩,hat]
           by_cases h41:e=41
           ·subst h41
            rw[ab (by decide),aJ _ (by omega) (by omega)];have hks:∃ks:List UInt8->Nat,∀x∈a::bs,Tm (ks x) x:=by
             classical
             refine⟨λx=>if h:∃k,Tm k x then h.choose else 0,λx hx=>?_⟩;have:=h2 x hx;show Tm (if h:∃k,Tm k x then h.choose else 0) x;rw[dif_pos this];exact this.choose_spec
            obtain⟨ks,hks⟩:=hks;refine⟨_,rfl,.inr ⟨3,(c::r).takeWhile dc++40::(a++(aC bs++[41])),u,?_,Tm.con _ a bs hnm ks hks,?_⟩⟩
            ·congr 1
             simp only[Jk,Jj,Jo];omega
            ·conv=>lhs;rw[hfull]
             simp
           ·rw[ao]
            ·exact⟨_,rfl,.inl rfl⟩
            ·simp only[db]
             intro he;exact h41 (LJ.1 (show e.toNat=(41:UInt8).toNat by rw[show(41:UInt8).toNat=41 from rfl];omega))
        ·rw[ao h40]
         rw[hd]at hs;exact⟨_,rfl,.inr ⟨3,(c::r).takeWhile dc,d::t,rfl,Tm.con0 _ hnm,hs⟩⟩
     ·rw[Fv n _ c r hq (λe=>hnum (.inl e)) (JK.2 (λe=>hnum (.inr e))) (JK.2 hb)]
      exact⟨_,rfl,.inl rfl⟩
theorem ID {rest:List UInt8}(h:xo rest):rest=[]\/∃c t,rest=c::t/\dc c=false:=Ay n6.2.2.1 n6.2.2.2.1 h
theorem kw {k:Nat}{t:List UInt8}(h:Tm k t):∀(rest:List UInt8) (n:Nat),xo rest->t.length+rest.length<=4294960000->t.length+rest.length+60<=n->
  aG.F n (bt (t++rest))=some ((k:Int),(t.length:Int)):=by
 induction h with
 |num x h0 h1=>
  intro rest n hs hl hn;obtain⟨n,rfl⟩:∃m,n=m+1:=⟨n - 1,by omega⟩
  obtain⟨c,r,hc,hcd,hr⟩:=pK h0 h1;rw[hc]at hl hn;simp only[Jj]at hl hn;have htw:(r++rest).takeWhile cV=r:=iA hr (Ay n6.1 n6.2.1 hs);rw[hc,nU,KK,GA n _ c (r++rest) hcd,(DB n _ c (r++rest) _ (by simp;omega) (by simp;omega)).1 (by rw[htw,← hc];exact⟨x,h0,h1,rfl⟩),htw]
  rfl
 |sym m h hp=>
  intro rest n hs hl hn;obtain⟨n,rfl⟩:∃m,n=m+1:=⟨n - 1,by omega⟩
  simp only[Jj,Jk,Jo]at hl hn;have htw:((m++[34])++rest).takeWhile eR=m:=by
   rw[List.append_assoc];exact iA hp (.inr ⟨34,rest,rfl,by decide⟩)
  rw[nU,KK,GB n _ _ (by simp;omega) (by simp;omega),htw,ab ⟨h,by simp⟩]
  congr 2
  simp only[Jj,Jk,Jo]
 |con0 nm h=>
  intro rest n hs hl hn;obtain⟨n,rfl⟩:∃m,n=m+1:=⟨n - 1,by omega⟩
  obtain⟨c,r,rfl,hb,h20,hall⟩:=iK h;simp only[Jj]at hl hn h20;have htw:(c::(r++rest)).takeWhile dc=c::r:=iA (a:=c::r) hall (ID hs);rw[nU,KK,DC n _ c (r++rest) hb (by simp;omega) (by simp;omega),htw,ao (by simp;omega)];have hd:(c::(r++rest)).drop (c::r).length=rest:=by rw[← KK,Kx]
  rw[hd];rcases hs with rfl|⟨d,u,rfl,rfl|rfl⟩
  ·rfl
  ·rfl
  ·rfl
 |con nm a bs h ks hh ih=>
  intro rest n hs hl hn;obtain⟨n,rfl⟩:∃m,n=m+1:=⟨n - 1,by omega⟩
  obtain⟨c,r,rfl,hb,h20,hall⟩:=iK h;simp only[Jj,Jk,Jo]at hl hn h20;have e1:(c::r++40::(a++(aC bs++[41])))++rest=c::(r++40::(a++(aC bs++41::rest))):=by simp
  have htw:(c::(r++40::(a++(aC bs++41::rest)))).takeWhile dc=c::r:=iA (a:=c::r) hall (.inr ⟨40,_,rfl,n6.2.2.2.2⟩);have hd:(c::(r++40::(a++(aC bs++41::rest)))).drop (c::r).length=40::(a++(aC bs++41::rest)):=by rw[← KK,Kx]
  rw[e1,nU,DC n _ c _ hb (by simp;omega) (by simp;omega),htw,ao (by simp;omega),hd];dsimp only;rw[ab rfl];unfold aG.j3;have hbs:bs.length<=(aC bs).length:=by
   clear ih hh hl hn e1 htw hd
   induction bs with
   |nil=>simp
   |cons b bs ihb=>simp only[aC,Jj,Jk];omega
  have key:=qe n (aG.F n) (λt22=>
    if(decide (t22<(Jf (bt (c::(r++40::(a++(aC bs++41::rest))))):Int)))=true then
     if(0:Int)<=t22/\t22<(Jf (bt (c::(r++40::(a++(aC bs++41::rest))))):Int)then
      if decide ((aO (bt (c::(r++40::(a++(aC bs++41::rest))))) t22)=41)=true then
       some (3,Jh.wrap (t22+1))
      else
       (λ_=>some (0,0)) ()
     else
      none
    else
     (λ_=>some (0,0)) ()) (r.length+1+(1+(a.length+((aC bs).length+(1+rest.length))))) (by omega) bs a (c::r) rest 40 n
   (by simp only[Jk,Jj];omega)
   (λx hx r' hr' hlt=>⟨ks x,(hh x hx).kind.1,ih x hx r' n hr' (by omega) (by omega)⟩) (by omega)
  rw[KK]at key;rw[key];dsimp only;have e2:c::(r++40::(a++(aC bs++41::rest)))=(c::r++40::(a++aC bs))++41::rest:=by simp
  have e3:(c::r).length+1+(a++aC bs).length=(c::r++40::(a++aC bs)).length:=by simp only[Jk,Jj];omega
  rw[e2,e3,ah,ab (iN (fw _ _ _)),ab (cC _ _ _),ei,ab (by decide),aJ _ (by simp only[Jk,Jj];omega) (by simp only[Jk,Jj];omega)]
  congr 2
  simp only[Jk,Jj,Jo];omega
def cM (b:UInt8):Bool:=!decide (b=40)
theorem lL {c d:UInt8}{v:Nat}(hd:d.toNat=v):(c.toNat:Int)=(v:Int)↔c=d:=by
 constructor
 ·intro h;exact LJ.1 (by omega)
 ·rintro rfl;omega
theorem IP (c:UInt8):decide ((c.toNat:Int)=34)=decide (c=34):=decide_eq_decide.2 (lL (d:=34) rfl)
theorem Jb (c:UInt8):decide ((c.toNat:Int)=40)=decide (c=40):=decide_eq_decide.2 (lL (d:=40) rfl)
theorem e41 (c:UInt8):decide ((c.toNat:Int)=41)=decide (c=41):=decide_eq_decide.2 (lL (d:=41) rfl)
theorem e44 (c:UInt8):decide ((c.toNat:Int)=44)=decide (c=44):=decide_eq_decide.2 (lL (d:=44) rfl)
theorem AA (n:Nat)(K:Int->Option (ByteArray×(List ByteArray)×Bool)):∀(r pre:List UInt8) (k:Nat),(pre++r).length<=4294967296->r.length+1<=k->
  ay.l0 n (bt (pre++r)) K k (pre.length:Int)=K ((pre.length+(r.takeWhile cM).length:Nat):Int)
 |r,pre,0,_,hk=>by omega
 |[],pre,k+1,hl,hk=>by
  unfold ay.l0;rw[ah,ao (by simp)]
  rfl
 |c::r,pre,k+1,hl,hk=>by
  unfold ay.l0;rw[ah,ab (iN (fw pre r c)),ab (cC pre r c),ei,Jb,JR]
  by_cases h:c=40
  ·have hn:cM c=false:=by simp[cM,h]
   rw[hn]
   simp[h]
  ·have hn:cM c=true:=by simp[cM,h]
   rw[hn,ab rfl,ab (by simpa using h)];simp only[Jk,Jj]at hl;rw[aJ _ (by omega) (by omega),gX pre c,eN,AA n K r (pre++[c]) k (by simp;omega) (by simpa using hk)]
   congr 2
   simp
   omega
section
variable (n:Nat) (t6:Int) (K:Unit->Option (ByteArray×(List ByteArray)×Bool))
theorem vf (pre r:List UInt8)(k:Nat)(d f:Int)(q:Bool)(out:List ByteArray)(hl:pre.length<=4294967296):
  ay.l1 n (bt (pre++34::r)) t6 K (k+1) d q f (pre.length:Int) out=ay.l1 n (bt (pre++34::r)) t6 K k d (!q) f ((pre.length+1:Nat):Int) out:=by
 conv=>lhs;unfold ay.l1
 rw[ah,ab (iN (fw pre r 34)),ab (cC pre r 34),ei,ab (by decide),aJ _ (by omega) (by omega)]
 rfl
theorem xq (pre r:List UInt8)(c:UInt8)(k:Nat)(d f:Int)(out:List ByteArray)(hl:pre.length<=4294967296)(hc:c≠34):
  ay.l1 n (bt (pre++c::r)) t6 K (k+1) d true f (pre.length:Int) out=ay.l1 n (bt (pre++c::r)) t6 K k d true f ((pre.length+1:Nat):Int) out:=by
 conv=>lhs;unfold ay.l1
 rw[ah,ab (iN (fw pre r c)),ab (cC pre r c),ei,IP,ao (by simpa using hc),ab rfl,aJ _ (by omega) (by omega)]
 rfl
theorem zo (pre r:List UInt8)(k:Nat)(d f:Int)(out:List ByteArray)(hl:pre.length<=4294967296)(hd:-4611686018427387900<=d/\d<=4611686018427387900):
  ay.l1 n (bt (pre++40::r)) t6 K (k+1) d false f (pre.length:Int) out=ay.l1 n (bt (pre++40::r)) t6 K k (d+1) false f ((pre.length+1:Nat):Int) out:=by
 conv=>lhs;unfold ay.l1
 rw[ah,ab (iN (fw pre r 40)),ab (cC pre r 40),ei,ao (by decide),ao (by simp),ab (cC pre r 40),ab (by decide),aJ _ (by omega) (by omega),aJ _ (by omega) (by omega)]
 rfl
theorem AB (pre r:List UInt8)(k:Nat)(d f:Int)(out:List ByteArray)(hl:pre.length<=4294967296)(hd:-4611686018427387900<=d/\d<=4611686018427387900)(h1:d≠1):
  ay.l1 n (bt (pre++41::r)) t6 K (k+1) d false f (pre.length:Int) out=ay.l1 n (bt (pre++41::r)) t6 K k (d - 1) false f ((pre.length+1:Nat):Int) out:=by
 conv=>lhs;unfold ay.l1
 rw[ah,ab (iN (fw pre r 41)),ab (cC pre r 41),ei,ao (by decide),ao (by simp),ab (cC pre r 41),ao (by decide),ab (cC pre r 41),ab (by decide),aJ (d - 1) (by omega) (by omega),
  ao (by simp;omega),aJ _ (by omega) (by omega)]
 rfl
theorem AC (pre r:List UInt8)(k:Nat)(d f:Int)(out:List ByteArray)(hl:pre.length<=4294967296)(h1:d≠1):
  ay.l1 n (bt (pre++44::r)) t6 K (k+1) d false f (pre.length:Int) out=ay.l1 n (bt (pre++44::r)) t6 K k d false f ((pre.length+1:Nat):Int) out:=by
 conv=>lhs;unfold ay.l1
 rw[ah,ab (iN (fw pre r 44)),ab (cC pre r 44),ei,ao (by decide),ao (by simp),ab (cC pre r 44),ao (by decide),ab (cC pre r 44),ao (by decide),ab (cC pre r 44),ab (by decide),
  ao (by simp;omega),aJ _ (by omega) (by omega)]
 rfl
theorem DD (pre r:List UInt8)(c:UInt8)(k:Nat)(d f:Int)(out:List ByteArray)(hl:pre.length<=4294967296)(h1:c≠34)(h2:c≠40)(h3:c≠41)(h4:c≠44):
  ay.l1 n (bt (pre++c::r)) t6 K (k+1) d false f (pre.length:Int) out=ay.l1 n (bt (pre++c::r)) t6 K k d false f ((pre.length+1:Nat):Int) out:=by
 conv=>lhs;unfold ay.l1
 rw[ah,ab (iN (fw pre r c)),ab (cC pre r c),ei,IP,Jb,e41,e44,ao (by simpa using h1),ao (by simp),ab (cC pre r c),ao (by simpa using h2),ab (cC pre r c),ao (by simpa using h3),ab (cC pre r c),
  ao (by simpa using h4),aJ _ (by omega) (by omega)]
 rfl
theorem n8 (l:List UInt8)(f i:Nat):Jz (bt l) (Jg (f:Int)) (Jg (i:Int))=bt ((l.take i).drop f):=by
 rw[fV,JD,JD]
theorem AD (pre r:List UInt8)(k f:Nat)(out:List ByteArray)(hl:pre.length<=4294967290)(hf:f<=pre.length)(ho:out.length<=pre.length):
  ay.l1 n (bt (pre++44::r)) t6 K (k+1) 1 false (f:Int) (pre.length:Int) out=ay.l1 n (bt (pre++44::r)) t6 K k 1 false ((pre.length+1:Nat):Int) ((pre.length+1:Nat):Int) (out++[bt (pre.drop f)]):=by
 conv=>lhs;unfold ay.l1
 have h1:(0:Int)<=(f:Int)/\(f:Int)<=(pre.length:Int)/\(pre.length:Int)<=((pre++44::r).length:Int):=⟨by omega,by omega,by have:=fw pre r 44;omega⟩;have h2:∀x:ByteArray,Je out+Je [x]<=aU:=λx=>by unfold aU;simp only[Kc];omega
 rw[ah,ab (iN (fw pre r 44)),ab (cC pre r 44),ei,ao (by decide),ao (by simp),ab (cC pre r 44),ao (by decide),ab (cC pre r 44),ao (by decide),ab (cC pre r 44),ab (by decide),
  ab (by simp),ab h1,ab (h2 _),aJ _ (by omega) (by omega),n8,KM]
 rfl
theorem GC (pre r:List UInt8)(k f a:Nat)(ha:t6=(a:Int))(out:List ByteArray)(hl:(pre++41::r).length<=4294967290)(hf:f<=pre.length)(hal:a<=pre.length)(ho:out.length<=pre.length):
  ay.l1 n (bt (pre++41::r)) t6 K (k+1) 1 false (f:Int) (pre.length:Int) out=some (bt (pre.take a),out++[bt (pre.drop f)],decide (r=[])):=by
 subst ha;have hlt:=fw pre r 41
 conv=>lhs;unfold ay.l1
 have h0:(0:Int)<=0/\(0:Int)<=(a:Int)/\(a:Int)<=((pre++41::r).length:Int):=⟨by omega,by omega,by omega⟩;have h1:(0:Int)<=(f:Int)/\(f:Int)<=(pre.length:Int)/\(pre.length:Int)<=((pre++41::r).length:Int):=⟨by omega,by omega,by omega⟩;have h2:∀x:ByteArray,Je out+Je [x]<=aU:=λx=>by unfold aU;simp only[Kc];omega
 rw[ah,ab (iN hlt),ab (cC pre r 41),ei,ao (by decide),ao (by simp),ab (cC pre r 41),ao (by decide),ab (cC pre r 41),ab (by decide),ab (by decide),ab h0,ab h1,ab (h2 _),
  n8,KM,aJ _ (by omega) (by omega)]
 rw[show Jg 0=Jg ((0:Nat):Int)from rfl,n8,JN,Mb hal]
 congr 4
 apply propext
 constructor
 ·intro h
  cases r with
  |nil=>rfl
  |cons x r=>simp only[Jk,Jj]at h;omega
 ·rintro rfl
  simp only[Jk,Jj,Jo];omega
theorem ss (a:Nat)(ha:t6=(a:Int))(hK:K ()=some (Jd,[],false)):∀(r pre:List UInt8) (k:Nat) (d:Int) (q:Bool) (f:Nat) (out:List ByteArray),(pre++r).length<=4294967290->r.length+1<=k->
  (-(4294967296:Int)<=d - r.length/\d+r.length<=4294967296*4)->f<=pre.length+(if pre.length=a then 1 else 0)->a<=pre.length->out.length<=pre.length->(pre.length=a->d=0/\q=false/\∃r',r=40::r')->
  ∃x ys ok,ay.l1 n (bt (pre++r)) t6 K k d q (f:Int) (pre.length:Int) out=some (x,ys,ok)/\
   (ok=true->x=bt ((pre++r).take a)/\∃(p:List UInt8) (bs:List (List UInt8)),ys=out++(p::bs).map bt/\(pre++r).drop f=p++(aC bs++[41]))
 |r,pre,0,_,_,_,_,_,hk,_,_,_,_,_=>by omega
 |[],pre,k+1,d,q,f,out,hl,hk,hd,hf,hal,ho,hst=>by
  unfold ay.l1;rw[ah,ao (by simp),hK];exact⟨_,_,_,rfl,λh=>by cases h⟩
 |c::r,pre,k+1,d,q,f,out,hl,hk,hd,hf,hal,ho,hst=>by
  have hk':r.length+1<=k:=by simpa using hk
  have hpl:pre.length+(r.length+1)<=4294967290:=by simpa using hl
  have hl':((pre++[c])++r).length<=4294967290:=by rw[← eN];exact hl
  have hp1:(pre++[c]).length=pre.length+1:=by simp
  have hne:¬(pre++[c]).length=a:=by omega
  simp only[Jj]at hd;have go:∀(d':Int) (q':Bool) (f':Nat) (out':List ByteArray),(-(4294967296:Int)<=d' - r.length/\d'+r.length<=4294967296*4)->f'<=pre.length+1->out'.length<=pre.length+1->
    ∃x ys ok,ay.l1 n (bt (pre++c::r)) t6 K k d' q' (f':Int) ((pre.length+1:Nat):Int) out'=some (x,ys,ok)/\
     (ok=true->x=bt ((pre++c::r).take a)/\∃(p:List UInt8) (bs:List (List UInt8)),ys=out'++(p::bs).map bt/\(pre++c::r).drop f'=p++(aC bs++[41])):=by
   intro d' q' f' out' h1 h2 h3;have:=ss a ha hK r (pre++[c]) k d' q' f' out' hl' hk' h1 (by rw[ao hne,hp1];omega) (by omega) (by omega) (λh=>bJ h hne);rw[← eN,hp1]at this;exact this
  have hfb:f<=pre.length+1:=by split at hf<;>omega
  by_cases h34:c=34
  ·subst h34
   rw[vf n t6 K pre r k d f q out (by omega)];exact go _ _ _ _ ⟨by omega,by omega⟩ hfb (by omega)
  ·cases q with
   |true=>
    rw[xq n t6 K pre r c k d f out (by omega) h34];exact go _ _ _ _ ⟨by omega,by omega⟩ hfb (by omega)
   |false=>
    by_cases h40:c=40
    ·subst h40
     rw[zo n t6 K pre r k d f out (by omega) ⟨by omega,by omega⟩];exact go _ _ _ _ ⟨by omega,by omega⟩ hfb (by omega)
    ·have hpa:pre.length≠a:=by
      intro h;obtain⟨_,_,r',hr'⟩:=hst h;cases hr';exact h40 rfl
     rw[ao hpa]at hf
     by_cases h41:c=41
     ·subst h41
      by_cases hd1:d=1
      ·subst hd1
       rw[GC n t6 K pre r k f a ha out hl (by omega) hal ho];refine⟨_,_,_,rfl,λh=>?_⟩;have hr:r=[]:=of_decide_eq_true h;subst hr;refine⟨by rw[Mb hal],pre.drop f,[],by simp,?_⟩;rw[Ni (by omega)]
       rfl
      ·rw[AB n t6 K pre r k d f out (by omega) ⟨by omega,by omega⟩ hd1]
       exact go _ _ _ _ ⟨by omega,by omega⟩ hfb (by omega)
     ·by_cases h44:c=44
      ·subst h44
       by_cases hd1:d=1
       ·subst hd1
        rw[AD n t6 K pre r k f out (by omega) (by omega) ho];obtain⟨x,ys,ok,h1,h2⟩:=go 1 false (pre.length+1) (out++[bt (pre.drop f)]) ⟨by omega,by omega⟩ (by omega) (by simp;omega);refine⟨x,ys,ok,h1,λh=>?_⟩;obtain⟨hx,p,bs,hys,hdr⟩:=h2 h;refine⟨hx,pre.drop f,p::bs,by rw[hys];simp,?_⟩;rw[Ni (by omega)];have:(pre++44::r).drop (pre.length+1)=r:=by rw[← Lo,Kx];rfl
        rw[this]at hdr;rw[hdr]
        simp[aC]
       ·rw[AC n t6 K pre r k d f out (by omega) hd1]
        exact go _ _ _ _ ⟨by omega,by omega⟩ hfb (by omega)
      ·rw[DD n t6 K pre r c k d f out (by omega) h34 h40 h41 h44]
       exact go _ _ _ _ ⟨by omega,by omega⟩ hfb (by omega)
end
def tT (b:UInt8):Bool:=decide (b≠34/\b≠40/\b≠41/\b≠44)
theorem tU {b:UInt8}(h:dc b=true):tT b=true:=by
 unfold tT;apply iN;refine⟨?_,?_,?_,?_⟩<;>(rintro rfl;revert h;decide)
theorem su {b:UInt8}(h:cV b=true):tT b=true:=tU (by unfold dc;rw[h];simp)
theorem sv {l:List UInt8}(h:l.all dc=true):l.all tT=true:=by
 rw[JS]at h⊢;exact λb hb=>tU (h b hb)
section
variable (n:Nat) (t6:Int) (K:Unit->Option (ByteArray×(List ByteArray)×Bool)) (l:List UInt8) (hl:l.length<=4294967290)
include hl
theorem nq:∀(m pre rest:List UInt8) (j:Nat) (d f:Int) (out:List ByteArray),m.all tT=true->l=pre++(m++rest)->
  ay.l1 n (bt l) t6 K (j+m.length) d false f (pre.length:Int) out=ay.l1 n (bt l) t6 K j d false f ((pre.length+m.length:Nat):Int) out
 |[],pre,rest,j,d,f,out,_,_=>rfl
 |c::m,pre,rest,j,d,f,out,hm,he=>by
  rw[Kh,Jm]at hm;obtain⟨h1,h2,h3,h4⟩:=of_decide_eq_true hm.1;have e1:l=pre++c::(m++rest):=he;have hpl:pre.length<=4294967296:=by rw[e1]at hl;simp at hl;omega
  rw[show j+(c::m).length=(j+m.length)+1 from by simp;omega]
  conv=>lhs;rw[e1,DD n t6 K pre (m++rest) c (j+m.length) d f out hpl h1 h2 h3 h4,← e1]
  have:=nq m (pre++[c]) rest j d f out hm.2 (by rw[e1];simp);rw[show(pre++[c]:List UInt8).length=pre.length+1 by simp<;>omega]at this;rw[this]
  congr 2
  simp
  omega
theorem qf:∀(m pre rest:List UInt8) (j:Nat) (d f:Int) (out:List ByteArray),m.all eR=true->l=pre++(m++rest)->
  ay.l1 n (bt l) t6 K (j+m.length) d true f (pre.length:Int) out=ay.l1 n (bt l) t6 K j d true f ((pre.length+m.length:Nat):Int) out
 |[],pre,rest,j,d,f,out,_,_=>rfl
 |c::m,pre,rest,j,d,f,out,hm,he=>by
  rw[Kh,Jm]at hm;have h1:c≠34:=by rintro rfl;exact bJ hm.1 (by decide)
  have e1:l=pre++c::(m++rest):=he;have hpl:pre.length<=4294967296:=by rw[e1]at hl;simp at hl;omega
  rw[show j+(c::m).length=(j+m.length)+1 from by simp;omega]
  conv=>lhs;rw[e1,xq n t6 K pre (m++rest) c (j+m.length) d f out hpl h1,← e1]
  have:=qf m (pre++[c]) rest j d f out hm.2 (by rw[e1];simp);rw[show(pre++[c]:List UInt8).length=pre.length+1 by simp<;>omega]at this;rw[this]
  congr 2
  simp
  omega
def zq (t:List UInt8):Prop:=∀(pre rest:List UInt8) (j:Nat) (d f:Int) (out:List ByteArray),1<=d->d+t.length<=4294967296*4->l=pre++(t++rest)->
  ay.l1 n (bt l) t6 K (j+t.length) d false f (pre.length:Int) out=ay.l1 n (bt l) t6 K j d false f ((pre.length+t.length:Nat):Int) out
theorem qg:∀(bs:List (List UInt8)),(∀x∈bs,zq n t6 K l x)->∀(pre rest:List UInt8) (j:Nat) (d f:Int) (out:List ByteArray),2<=d->d+(aC bs).length<=4294967296*4->l=pre++(aC bs++rest)->
  ay.l1 n (bt l) t6 K (j+(aC bs).length) d false f (pre.length:Int) out=ay.l1 n (bt l) t6 K j d false f ((pre.length+(aC bs).length:Nat):Int) out
 |[],_,pre,rest,j,d,f,out,_,_,_=>rfl
 |b::bs,hb,pre,rest,j,d,f,out,hd,hd2,he=>by
  simp only[aC,Jj,Jk]at hd2;have e1:l=pre++44::(b++(aC bs++rest)):=by rw[he];simp[aC]
  have e2:l=(pre++[44])++(b++(aC bs++rest)):=by rw[e1];simp
  have e3:l=(pre++[44]++b)++(aC bs++rest):=by rw[e1];simp
  have hpl:pre.length<=4294967296:=by rw[e1]at hl;simp at hl;omega
  rw[show j+(aC (b::bs)).length=(j+(aC bs).length+b.length)+1 from by simp only[aC,Jj,Jk];omega]
  conv=>lhs;rw[e1,AC n t6 K pre (b++(aC bs++rest)) (j+(aC bs).length+b.length) d f out hpl (by omega),← e1]
  have s1:=hb b JA (pre++[44]) (aC bs++rest) (j+(aC bs).length) d f out (by omega) (by omega) e2;rw[show(pre++[44]:List UInt8).length=pre.length+1 by simp<;>omega]at s1;rw[s1];have s2:=qg bs (λx hx=>hb x (JE _ hx)) (pre++[44]++b) rest j d f out hd (by omega) e3;rw[show(pre++[44]++b:List UInt8).length=pre.length+1+b.length by simp<;>omega]at s2;rw[s2]
  congr 2
  simp only[aC,Jj,Jk];omega
theorem Fy {k:Nat}{t:List UInt8}(h:Tm k t):zq n t6 K l t:=by
 induction h with
 |num x h0 h1=>
  obtain⟨c,r,hc,hcd,hr⟩:=pK h0 h1;intro pre rest j d f out hd hd2 he;refine nq n t6 K l hl _ pre rest j d f out ?_ he;rw[hc,Kh];have:tT c=true:=by
   rcases hcd with rfl|h
   ·decide
   ·exact su h
  rw[this,Kf,JS];intro b hb;rw[JS]at hr;exact su (hr b hb)
 |sym m h hp=>
  intro pre rest j d f out hd hd2 he;have e1:l=pre++34::(m++34::rest):=by rw[he];simp
  have e2:l=(pre++[34])++(m++34::rest):=by rw[e1];simp
  have e3:l=(pre++[34]++m)++34::rest:=by rw[e1];simp
  have hpl:pre.length+m.length+2<=4294967290:=by rw[e1]at hl;simp at hl;omega
  rw[show j+(34::(m++[34]):List UInt8).length=(j+1+m.length)+1 from by simp;omega]
  conv=>lhs;rw[e1,vf n t6 K pre _ (j+1+m.length) d f false out (by omega),← e1]
  have s1:=qf n t6 K l hl m (pre++[34]) (34::rest) (j+1) d f out hp e2;rw[show(pre++[34]:List UInt8).length=pre.length+1 by simp<;>omega]at s1;rw[show(!false)=true from rfl,s1];have s2:=vf n t6 K (pre++[34]++m) rest j d f true out (by simp;omega);rw[← e3,show(pre++[34]++m:List UInt8).length=pre.length+1+m.length by simp<;>omega]at s2;rw[s2]
  congr 2
  simp
  omega
 |con0 nm h=>
  obtain⟨c,r,hc,_,_,hall⟩:=iK h;intro pre rest j d f out hd hd2 he;exact nq n t6 K l hl _ pre rest j d f out (sv hall) he
 |con nm a bs h ks hh ih=>
  obtain⟨c,r,hc,_,_,hall⟩:=iK h;intro pre rest j d f out hd hd2 he;simp only[Jk,Jj,Jo]at hd2;have e1:l=pre++(nm++40::(a++(aC bs++41::rest))):=by rw[he];simp
  have e2:l=(pre++nm)++40::(a++(aC bs++41::rest)):=by rw[e1];simp
  have e3:l=(pre++nm++[40])++(a++(aC bs++41::rest)):=by rw[e1];simp
  have e4:l=(pre++nm++[40]++a)++(aC bs++41::rest):=by rw[e1];simp
  have e5:l=(pre++nm++[40]++a++aC bs)++41::rest:=by rw[e1];simp
  have hpl:pre.length+nm.length+1+a.length+(aC bs).length+1<=4294967290:=by rw[e1]at hl;simp at hl;omega
  rw[show j+(nm++40::(a++(aC bs++[41])):List UInt8).length=(j+1+(aC bs).length+a.length+1)+nm.length from by simp;omega];rw[nq n t6 K l hl nm pre _ _ d f out (sv hall) e1];have s1:=zo n t6 K (pre++nm) (a++(aC bs++41::rest)) (j+1+(aC bs).length+a.length) d f out (by simp;omega) ⟨by omega,by omega⟩;rw[← e2,show(pre++nm:List UInt8).length=pre.length+nm.length by simp<;>omega]at s1;rw[s1];have s2:=ih a JA (pre++nm++[40]) (aC bs++41::rest) (j+1+(aC bs).length) (d+1) f out (by omega) (by omega) e3;rw[show(pre++nm++[40]:List UInt8).length=pre.length+nm.length+1 by simp<;>omega]at s2;rw[s2];have s3:=qg n t6 K l hl bs (λx hx=>ih x (JE _ hx)) (pre++nm++[40]++a) (41::rest) (j+1) (d+1) f out (by omega) (by omega) e4;rw[show(pre++nm++[40]++a:List UInt8).length=pre.length+nm.length+1+a.length by simp<;>omega]at s3;rw[s3];have s4:=AB n t6 K (pre++nm++[40]++a++aC bs) rest j (d+1) f out (by simp;omega) ⟨by omega,by omega⟩ (by omega);rw[← e5,show(pre++nm++[40]++a++aC bs:List UInt8).length=pre.length+nm.length+1+a.length+(aC bs).length by simp<;>omega]at s4;rw[s4]
  congr 2
  ·omega
  ·simp
   omega
theorem xr (at':Nat)(ha:t6=(at':Int)):∀(bs:List (List UInt8)) (a pre:List UInt8) (j:Nat) (out:List ByteArray),(∀x∈a::bs,zq n t6 K l x)->l=pre++(a++(aC bs++[41]))->at'<=pre.length->out.length<=pre.length->
  ay.l1 n (bt l) t6 K (j+1+(a++aC bs).length) 1 false (pre.length:Int) (pre.length:Int) out=some (bt (l.take at'),out++(a::bs).map bt,true)
 |[],a,pre,j,out,hp,he,hat,ho=>by
  have e1:l=(pre++a)++41::[]:=by rw[he];simp[aC]
  have hpl:pre.length+a.length+1<=4294967290:=by rw[e1]at hl;simp at hl;omega
  have s1:=hp a JA pre (aC []++[41]) (j+1) 1 pre.length out (by omega) (by omega) he;rw[show j+1+(a++aC []).length=j+1+a.length by simp[aC],s1];have s2:=GC n t6 K (pre++a) [] j pre.length at' ha out (by rw[← e1];exact hl) (by simp) (by simp;omega) (by simp;omega);rw[← e1,show(pre++a:List UInt8).length=pre.length+a.length by simp<;>omega]at s2;rw[s2,Kx];have:(pre++a).take at'=l.take at':=by rw[e1];exact(Mb (by simp;omega)).symm
  rw[this]
  simp
 |b::bs,a,pre,j,out,hp,he,hat,ho=>by
  have e1:l=(pre++a)++44::(b++(aC bs++[41])):=by rw[he];simp[aC]
  have e2:l=(pre++a++[44])++(b++(aC bs++[41])):=by rw[e1];simp
  have hpl:pre.length+a.length+1<=4294967290:=by rw[e1]at hl;simp at hl;omega
  have s1:=hp a JA pre (aC (b::bs)++[41]) (j+1+(b++aC bs).length+1) 1 pre.length out (by omega) (by omega) he;rw[show j+1+(a++aC (b::bs)).length=j+1+(b++aC bs).length+1+a.length by simp[aC];omega,s1];have s2:=AD n t6 K (pre++a) (b++(aC bs++[41])) (j+1+(b++aC bs).length) pre.length out (by simp;omega) (by simp) (by simp;omega);rw[← e1,show(pre++a:List UInt8).length=pre.length+a.length by simp<;>omega,Kx]at s2;rw[s2];have s3:=xr at' ha bs b (pre++a++[44]) j (out++[bt a]) (λx hx=>hp x (JE _ hx)) e2 (by simp;omega) (by simp;omega);rw[show(pre++a++[44]:List UInt8).length=pre.length+a.length+1 by simp<;>omega]at s3;rw[s3]
  simp
end
theorem tV {l:List UInt8}(h:l.all dc=true):l.all cM=true:=by
 rw[JS]at h⊢;intro b hb;have:=h b hb;unfold cM
 by_cases e:b=40
 ·subst e;exact bJ this (by decide)
 ·simp[e]
theorem xt (n:Nat)(l:List UInt8)(hl:l.length<=4294960000)(hn:l.length+2<=n):ay.F n (bt l)=
  if(l.takeWhile cM).length=l.length then some (bt l,[],true)
  else ay.l1 n (bt l) ((l.takeWhile cM).length:Int) (λ_=>some (Jd,[],false)) n 0 false (((l.takeWhile cM).length+1:Nat):Int) ((l.takeWhile cM).length:Int) []:=by
 unfold ay.F;have hw:(l.takeWhile cM).length<=l.length:=(Lg cM).length_le;have:=AA n (λt4=>
  if decide (t4=(Jf (bt l):Int))=true then
   some (bt l,[],true)
  else
   ay.l1 n (bt l) t4 (λ_=>
    some (Jd,[],false)) n 0 false (Jh.wrap (t4+1)) t4 []) l [] n (by simp;omega) (by omega)
 simp only[Kg,Jo,Nat.zero_add]at this;rw[show((0:Nat):Int)=0 from rfl]at this;rw[this,ah,aJ _ (by omega) (by omega)]
 by_cases h:(l.takeWhile cM).length=l.length
 ·rw[ab h,ab (by simp;omega)]
 ·rw[ao h,ao (by simp;omega)]
  rfl
theorem sw (n:Nat)(nm a:List UInt8)(bs:List (List UInt8))(h:fK nm=true)(hh:∀x∈a::bs,∃k,Tm k x)
  (hl:(nm++40::(a++(aC bs++[41]))).length<=4294960000) (hn:(nm++40::(a++(aC bs++[41]))).length+2<=n):
  ay.F n (bt (nm++40::(a++(aC bs++[41]))))=some (bt nm,(a::bs).map bt,true):=by
 obtain⟨c,r,hc,_,_,hall⟩:=iK h;have htw:(nm++40::(a++(aC bs++[41]))).takeWhile cM=nm:=iA (tV hall) (.inr ⟨40,_,rfl,by decide⟩);rw[xt n _ hl hn,htw,ao (by simp)];have hlen:=hl;have hn':=hn;simp only[Jk,Jj,Jo]at hlen hn';obtain⟨j,rfl⟩:∃j,n=(j+1+(a++aC bs).length)+1:=⟨n - (2+(a++aC bs).length),by simp only[Jk];omega⟩
 rw[zo _ _ _ nm (a++(aC bs++[41])) _ 0 _ [] (by omega) ⟨by omega,by omega⟩];have:=xr (j+1+(a++aC bs).length+1) (nm.length:Int) (λ_=>some (Jd,[],false)) (nm++40::(a++(aC bs++[41]))) (by omega) nm.length rfl bs a (nm++[40]) j [] (λx hx=>by
  obtain⟨k,hk⟩:=hh x hx;exact Fy _ _ _ _ (by omega) hk) (by simp) (by simp) (by simp)
 rw[show(nm++[40]:List UInt8).length=nm.length+1 by simp<;>omega]at this;rw[show(0:Int)+1=1 from rfl,this,KM]
 simp
theorem zr (n:Nat)(s:ByteArray):bc.F (n+1) s=bc.G n (bc.F n) s:=rfl
theorem xu (n:Nat)(self:ByteArray->Option Int)(K:Unit->Option Int)(x:UInt8):∀(r pre:List UInt8) (k:Nat),(pre++r).length<=4294967290->r.length+1<=k->
  bc.l2 n self (bt (pre++(r++[x]))) K k (pre.length:Int)=if r.all eR=true then K ()else some 0
 |r,pre,0,_,hk=>by omega
 |[],pre,k+1,hl,hk=>by
  simp only[Kv]at hl;unfold bc.l2;rw[ah,aJ _ (by omega) (by omega),ao (by simp)]
  rfl
 |c::r,pre,k+1,hl,hk=>by
  simp only[Jk,Jj]at hl;have e1:pre++(c::r++[x])=pre++c::(r++[x]):=rfl;have hw:Jh.wrap ((pre.length:Int)+1)=((pre++[c]).length:Int):=by rw[aJ _ (by omega) (by omega),gX pre c]
  have hc:=c.toNat_lt;rw[e1];unfold bc.l2;rw[ah,hw,ab (by simp;omega),ab (cC pre _ c),ei,aJ (c.toNat:Int) (by omega) (by omega),dz,Kh];simp only[Jc];have e92:decide ((c.toNat:Int)=92)=decide (c=92):=decide_eq_decide.2 (lL (d:=92) rfl);rcases kP (eR c)with hp|hp
  ·rw[hp]
   simp only[eR,vk]at hp
   by_cases h1:32<=c.toNat/\c.toNat<=126
   ·rw[ab (by simp;omega),ab (cC pre _ c)]
    by_cases h2:c.toNat=34
    ·rw[ao (by simp;omega)]
     simp
    ·rw[ab (by simp;omega),ab (cC pre _ c),ab (by simp;omega)]
     simp
   ·rw[ao (by simp;omega)]
    simp
  ·rw[hp]
   simp only[eR,db]at hp;rw[ab (by simp;omega),ab (cC pre _ c),ab (by simp;omega),ab (cC pre _ c),ao (by simp;omega),eN];rw[xu n self K x r (pre++[c]) k (by simp;omega) (by simpa using hk)]
   rfl
theorem sx (n:Nat)(self:ByteArray->Option Int)(K:Unit->Option Int)(κ:List UInt8->Nat):∀(r pre:List (List UInt8)) (k:Nat),(pre++r).length<=4294967290->r.length+1<=k->
  (∀x∈r,self (bt x)=some (κ x:Int))->bc.l4 n self ((pre++r).map bt) K k (pre.length:Int)=if r.all (λx=>!decide (κ x=0))=true then K ()else some 0
 |r,pre,0,_,hk,_=>by omega
 |[],pre,k+1,hl,hk,hs=>by
  unfold bc.l4;rw[JT,ao (by simp)]
  rfl
 |c::r,pre,k+1,hl,hk,hs=>by
  simp only[Jk,Jj]at hl;have hlen:(pre.length:Int)<(((pre++c::r).map bt).length:Int):=by simp;omega
  have hget:List.getD ((pre++c::r).map bt) (Jg (pre.length:Int)) Jd=bt c:=by
   rw[JD,Kk,List.map_cons];have:=cR (pre.map bt) (r.map bt) (bt c) Jd;rw[JT]at this;exact this
  unfold bc.l4;rw[ab (iN hlen),ab ⟨by omega,hlen⟩,hget,hs c JA];simp only[Jc]
  by_cases h:κ c=0
  ·rw[ab (by simp;omega),ao (by simp[h])]
  ·have e:(c::r).all (λx=>!decide (κ x=0))=r.all (λx=>!decide (κ x=0)):=by simp[h]
   rw[e];rw[ao (by simp;omega),aJ _ (by omega) (by omega),show(pre.length:Int)+1=((pre++[c]).length:Int)by simp,show pre++c::r=(pre++[c])++r by simp,
    sx n self K κ r (pre++[c]) k (by simp;omega) (by simpa using hk) (λx hx=>hs x (JE _ hx))]
structure kQ (l:List UInt8) (k:Nat):Prop where
 le:k<=3
 sound:k≠0->Tm k l/\l.length<=200
 complete:∀k',Tm k' l->l.length<=200->k=k'
theorem dK {l:List UInt8}(h:∀k,Tm k l->l.length<=200->False):kQ l 0:=⟨by omega,λh=>bJ rfl h,λk hk hl=>(h k hk hl).elim⟩
theorem BO (n:Nat)(l:List UInt8)(hl:l.length<=4294960000)(hn:l.length+60<=n):∃k:Nat,gC.F n (bt l)=some (k:Int)/\kQ l k:=by
 obtain⟨res,h1,h2⟩:=ve l.length l n (JG _) hl hn;have hc:∀k,Tm k l->res=((k:Int),(l.length:Int)):=by
  intro k hk;have:=kw hk [] n (.inl rfl) (by simpa using hl) (by simpa using hn);rw[Kv,h1]at this;exact LY this
 unfold gC.F;rw[h1,ah];simp only[Jc]
 by_cases h200:200<l.length
 ·rw[ao (by simp;omega)]
  exact⟨0,rfl,dK (λk _ h=>by omega)⟩
 ·rw[ab (by simp;omega)]
  rcases h2 with rfl|⟨k,t,rest,rfl,ht,rfl⟩
  ·have h0:∀k,Tm k l->False:=by
    intro k hk;have:=congrArg Prod.fst (hc k hk);have:=hk.kind
    simp at*
    omega
   refine⟨0,?_,dK (λk hk _=>h0 k hk)⟩
   split<;>rfl
  ·by_cases hr:rest=[]
   ·subst hr
    rw[Kv]at hc h200⊢;rw[ao (by simp)];have:=ht.kind;refine⟨k,rfl,⟨by omega,λ_=>⟨ht,by omega⟩,λk' hk' _=>?_⟩⟩;have:=congrArg Prod.fst (hc k' hk')
    simp at this
    omega
   ·rw[ab]
    ·refine⟨0,rfl,dK (λk' hk' _=>?_)⟩
     have:=congrArg Prod.snd (hc k' hk')
     simp at this
     exact hr (Kb.1 (by omega))
    ·have:0<rest.length:=Lj.2 hr
     simp
     omega
theorem xw:∀(L:Nat) (l:List UInt8) (n:Nat),l.length<=L->l.length<=4294960000->l.length+60<=n->∃k:Nat,bc.F n (bt l)=some (k:Int)/\kQ l k:=by
 intro L
 induction L with
 |zero=>
  intro l n hl _ hn;obtain⟨n,rfl⟩:∃m,n=m+1:=⟨n - 1,by omega⟩
  have:l=[]:=Kb.1 (by omega);subst this;rw[zr];unfold bc.G;rw[iy,gv,ao (by simp)];exact⟨0,rfl,dK (λk h _=>h.ne rfl)⟩
 |succ L ih=>
  intro l n hl hL hn;obtain⟨n,rfl⟩:∃m,n=m+1:=⟨n - 1,by omega⟩
  cases l with
  |nil=>
   rw[zr];unfold bc.G;rw[iy,gv,ao (by simp)];exact⟨0,rfl,dK (λk h _=>h.ne rfl)⟩
  |cons c r=>
   rw[zr];unfold bc.G;rw[iy,gv,ab (by simp),ah]
   by_cases h200:200<(c::r).length
   ·rw[ab (by simp only[db];omega)]
    exact⟨0,rfl,dK (λk _ h=>by omega)⟩
   ·rw[ao (by simp only[db];omega)]
    have h200':=h200;simp only[Jj]at h200' hl hn;unfold bc.j0;obtain⟨v,ok,hv,hok,_⟩:=pG n (c::r) (by omega);rw[hv];simp only[Jc];cases ok with
    |true=>
     rw[ab rfl];obtain⟨x,hx0,hx1,hx⟩:=hok.1 rfl;refine⟨1,rfl,⟨by omega,λ_=>⟨by rw[hx];exact Tm.num x hx0 hx1,by omega⟩,λk' hk' hlen=>?_⟩⟩;have e1:=kw hk' [] 400 (.inl rfl) (by simp;omega) (by simp;omega);have e2:=kw (Tm.num x hx0 hx1) [] 400 (.inl rfl) (by rw[← hx];simp;omega) (by rw[← hx];simp;omega);rw[← hx,e1]at e2;have:=congrArg Prod.fst (LY e2)
     simp at this
     omega
    |false=>
     have hnn:¬lj (c::r):=λh=>by have:=hok.2 h;cases this
     have hsz:0<((c::r).length:Int):=by simp<;>omega
     rw[ao (by simp),ah,ab ⟨by omega,hsz⟩,gl,IP]
     by_cases h34:c=34
     ·subst h34
      rw[ab (by simp),dz];simp only[Jc];have symInv:∀k,Tm k (34::r)->∃m:List UInt8,r=m++[34]/\m.length<=20/\m.all eR=true/\k=2:=by
       intro k hk;generalize he:(34::r:List UInt8)=t at hk;cases hk with
       |num x h0 h1=>exact bJ ⟨x,h0,h1,he⟩ hnn
       |sym m h hp=>injection he with _ he;exact⟨m,he,h,hp,rfl⟩
       |con0 nm h=>obtain⟨c',r',hc',hb,_⟩:=iK h;rw[hc']at he;injection he with he _;subst he;exact bJ hb (by decide)
       |con nm a bs h ks hh=>obtain⟨c',r',hc',hb,_⟩:=iK h;rw[hc']at he;injection he with he _;subst he;exact bJ hb (by decide)
      by_cases hsz2:2<=(34::r:List UInt8).length/\(34::r:List UInt8).length<=22
      ·rw[ab (by simp only[OD,db];omega)]
       simp only[Jj]at hsz2;obtain⟨m,x,rfl⟩:∃m x,r=m++[x]:=⟨r.dropLast,r.getLast (by rintro rfl;simp at hsz2),(List.dropLast_concat_getLast _).symm⟩
       have hlm:(m++[x]).length=m.length+1:=by simp
       have hw:Jh.wrap (((34::(m++[x]):List UInt8).length:Int) - 1)=((34::m:List UInt8).length:Int):=by
        rw[aJ _ (by simp;omega) (by simp;omega)];simp
       have hat:aO (bt (34::(m++[x]))) ((34::m:List UInt8).length:Int)=(x.toNat:Int):=ei (34::m) [] x;rw[hw,ab ⟨by omega,by simp only[Jj,Jk,Jo];omega⟩,hat,IP]
       by_cases hx:x=34
       ·subst hx
        rw[ao (by simp)];unfold bc.j1;have:=xu n (bc.F n) (λ_=>some 2) 34 m [34] n (by simp;omega) (by omega);simp only[Kc,KO]at this;rw[show((1:Nat):Int)=1 from rfl]at this;rw[this]
        by_cases hm:m.all eR=true
        ·rw[ab hm]
         refine⟨2,rfl,⟨by omega,λ_=>⟨Tm.sym m (by omega) hm,by simp;omega⟩,λk' hk' _=>?_⟩⟩;obtain⟨_,_,_,_,h⟩:=symInv k' hk';omega
        ·rw[ao hm]
         refine⟨0,rfl,dK (λk' hk' _=>?_)⟩;obtain⟨m',h1,_,h3,_⟩:=symInv k' hk';have:=List.append_inj_left' h1 rfl;subst this;exact hm h3
       ·rw[ab (by simpa using hx)]
        refine⟨0,rfl,dK (λk' hk' _=>?_)⟩;obtain⟨m',h1,_,h3,_⟩:=symInv k' hk';have:=List.append_inj_right' h1 rfl
        injection this with this
        exact hx this
      ·rw[ao (by simp only[OD,db];omega)]
       refine⟨0,rfl,dK (λk' hk' _=>?_)⟩;obtain⟨m',h1,h2,h3,_⟩:=symInv k' hk';rw[h1]at hsz2
       simp at hsz2
       omega
     ·rw[ao (by simpa using h34)]
      have conInv:∀k,Tm k (c::r)->k=3/\((fK (c::r)=true)\/∃nm a bs,c::r=nm++40::(a++(aC bs++[41]))/\fK nm=true/\∀x∈a::bs,∃k,Tm k x):=by
       intro k hk;generalize he:c::r=t at hk;cases hk with
       |num x h0 h1=>exact bJ ⟨x,h0,h1,he⟩ hnn
       |sym m h hp=>injection he with he _;exact bJ he h34
       |con0 nm h=>exact⟨rfl,.inl h⟩
       |con nm a bs h ks hh=>exact⟨rfl,.inr ⟨nm,a,bs,rfl,h,λx hx=>⟨_,hh x hx⟩⟩⟩
      have goArgs:∀(nm:List UInt8) (ls:List (List UInt8)),ls.length<=(c::r).length->(∀x∈ls,x.length<(c::r).length)->ay.F n (bt (c::r))=some (bt nm,ls.map bt,true)->nm.length<=(c::r).length->
        ∃κ:List UInt8->Nat,(∀x∈ls,kQ x (κ x))/\((ay.F n (bt (c::r))).bind λr9=>
         if(!r9.2.2)=false then
          (cN.F n r9.1 true).bind λr10=>
          if(!r10)=true then
           some 0
          else
           bc.j3 n (bc.F n) r9.2.1
         else
          some 0)=if fK nm=true then(if ls.all (λx=>!decide (κ x=0))=true then some 3 else some 0)else some 0:=by
       intro nm ls hlen hsub hA hnm;have hex:∃κ:List UInt8->Nat,∀x∈ls,bc.F n (bt x)=some (κ x:Int)/\kQ x (κ x):=by
        classical
        refine⟨λx=>if h:∃k:Nat,bc.F n (bt x)=some (k:Int)/\kQ x k then h.choose else 0,λx hx=>?_⟩;have h1:=hsub x hx;simp only[Jj]at h1;have:=ih x n (by omega) (by omega) (by omega);show bc.F n (bt x)=some (((if h:∃k:Nat,bc.F n (bt x)=some (k:Int)/\kQ x k then h.choose else 0:Nat):Nat):Int)/\kQ x (if h:∃k:Nat,bc.F n (bt x)=some (k:Int)/\kQ x k then h.choose else 0);rw[dif_pos this];exact this.choose_spec
       obtain⟨κ,hκ⟩:=hex;refine⟨κ,λx hx=>(hκ x hx).2,?_⟩;simp only[Jj]at hnm hlen;rw[hA];simp only[Jc];rw[ab (by simp),zn n nm (by omega) (by omega)];simp only[Jc]
       by_cases hb:fK nm=true
       ·rw[ao (by rw[hb];simp),ab hb]
        unfold bc.j3;have:=sx n (bc.F n) (λ_=>some 3) κ ls [] n (by simp;omega) (by omega) (λx hx=>(hκ x hx).1);simp only[Kg,Jo]at this;rw[show((0:Nat):Int)=0 from rfl]at this;exact this
       ·rw[ab (by rw[JK.2 hb];rfl),ao hb]
      have noOpen:fK (c::r)=true->((c::r).takeWhile cM).length=(c::r).length:=by
       intro h;obtain⟨c',r',hc',_,_,hall⟩:=iK h;exact jR.2 (tV hall)
      have conOpen:∀(nm:List UInt8) (X:List UInt8),c::r=nm++40::X->((c::r).takeWhile cM).length≠(c::r).length:=by
       intro nm X he h;have:=jR.1 h;rw[JS]at this;have h40:=this 40 (by rw[he];simp);exact bJ h40 (by decide)
      have hstart:=xt n (c::r) (by omega) (by simp only[Jj];omega);have hwle:((c::r).takeWhile cM).length<=(c::r).length:=(Lg cM).length_le
      by_cases htw:((c::r).takeWhile cM).length=(c::r).length
      ·rw[ab htw]at hstart
       obtain⟨κ,_,hres⟩:=goArgs (c::r) [] (by simp) (λx hx=>by cases hx) hstart (JG _);rw[hres]
       by_cases hb:fK (c::r)=true
       ·rw[ab hb,ab (by simp)]
        exact⟨3,rfl,⟨by omega,λ_=>⟨Tm.con0 _ hb,by omega⟩,λk' hk' _=>(conInv k' hk').1.symm⟩⟩
       ·rw[ao hb]
        refine⟨0,rfl,dK (λk' hk' _=>?_)⟩;rcases(conInv k' hk').2 with h|⟨nm,a,bs,h,_⟩
        ·exact hb h
        ·exact conOpen _ _ h htw
      ·rw[ao htw]at hstart
       have hs:=n7 cM (c::r);have hdrop:∃r',(c::r).drop ((c::r).takeWhile cM).length=40::r':=by
        cases hd:(c::r).drop ((c::r).takeWhile cM).length with
        |nil=>exact bJ (MM.1 hd) (by omega)
        |cons d t=>
         have hno:cM d=false:=by
          have h1:(c::r).takeWhile cM=((c::r).takeWhile cM++d::t).takeWhile cM:=by
           conv=>lhs;rw[hs,hd]
          rcases kP (cM d)with h|h
          ·exact h
          ·have h2:∀(A:List UInt8),A.all cM=true->(A++d::t).takeWhile cM=A++d::t.takeWhile cM:=by
            intro A
            induction A with
            |nil=>intro _;rw[Kg,JR,h,ab rfl];rfl
            |cons x A ihA=>intro hA;rw[Kh,Jm]at hA;rw[KK,JR,hA.1,ab rfl,ihA hA.2];rfl
           rw[h2 _ (vd cM (c::r))]at h1;have:=congrArg Je h1
           simp at this
         have:d=40:=by
          unfold cM at hno;simpa using hno
         exact⟨t,by rw[this]⟩
       generalize hW:(c::r).takeWhile cM=W at*;obtain⟨r',hr'⟩:=hdrop;rw[hr']at hs;have hA:=ss n (W.length:Int) (λ_=>some (Jd,[],false)) W.length rfl rfl (40::r') W n 0 false (W.length+1) [] (by rw[← hs];omega) (by have:=congrArg Je hs;simp only[Jk,Jj]at this;simp only[Jj];omega)
        (by have:=congrArg Je hs;simp only[Jk,Jj]at this;simp only[Jj];omega) (by rw[ab rfl];omega) (JG _) (by simp) (λ_=>⟨rfl,rfl,r',rfl⟩)
       obtain⟨x,ys,ok,h1,h2⟩:=hA;rw[← hs]at h1 h2;rw[h1]at hstart;cases ok with
       |false=>
        rw[hstart];simp only[Jc];rw[ao (by simp)];refine⟨0,rfl,dK (λk' hk' _=>?_)⟩;rcases(conInv k' hk').2 with h|⟨nm,a,bs,h,hb,hh⟩
        ·exact htw (noOpen h)
        ·have:=sw n nm a bs hb hh (by rw[← h];omega) (by rw[← h];simp only[Jj];omega)
         rw[← h,hstart]at this
         simp at this
       |true=>
        obtain⟨hx,p,bs,hys,hdr⟩:=h2 rfl;have htk:(c::r).take W.length=W:=by rw[hs,KM]
        rw[htk]at hx;have hr2:r'=p++(aC bs++[41]):=by
         rw[← hdr]
         conv=>rhs;rw[hs]
         rw[← Lo,Kx]
         rfl
        have hfull:c::r=W++40::(p++(aC bs++[41])):=by rw[hs,hr2]
        have hlenF:=congrArg Je hfull;simp only[Jk,Jj,Jo]at hlenF;have hbl:∀bs:List (List UInt8),bs.length<=(aC bs).length/\∀x∈bs,x.length<=(aC bs).length:=by
         intro bs
         induction bs with
         |nil=>exact⟨JG _,λx hx=>by cases hx⟩
         |cons b bs ihb=>
          simp only[aC,Jj,Jk];refine⟨by omega,λx hx=>?_⟩;rcases JJ.1 hx with rfl|hx
          ·omega
          ·have:=ihb.2 x hx;omega
        have hsub:∀x∈p::bs,x.length<(c::r).length:=by
         intro x hx;rw[Jj];rcases JJ.1 hx with rfl|hx
         ·omega
         ·have:=(hbl bs).2 x hx;omega
        rw[hx,hys,Kg]at hstart;obtain⟨κ,hκ,hres⟩:=goArgs W (p::bs) (by have:=(hbl bs).1;simp only[Jj];omega) hsub hstart (by omega);rw[hres]
        by_cases hb:fK W=true
        ·rw[ab hb]
         by_cases hall:(p::bs).all (λx=>!decide (κ x=0))=true
         ·rw[ab hall]
          refine⟨3,rfl,⟨by omega,λ_=>⟨?_,by omega⟩,λk' hk' _=>(conInv k' hk').1.symm⟩⟩;rw[hfull];refine Tm.con W p bs hb κ (λx hx=>((hκ x hx).sound ?_).1);rw[JS]at hall;have:=hall x hx;simpa using this
         ·rw[ao hall]
          refine⟨0,rfl,dK (λk' hk' _=>?_)⟩;rcases(conInv k' hk').2 with h|⟨nm,a,bs',h,hb',hh⟩
          ·exact htw (noOpen h)
          ·have:=sw n nm a bs' hb' hh (by rw[← h];omega) (by rw[← h];simp only[Jj];omega)
           rw[← h,hstart]at this;have e1:(p::bs).map bt=(a::bs').map bt:=congrArg (λq:ByteArray×List ByteArray×Bool=>q.2.1) (LY this);have e2:p::bs=a::bs':=by
            have:=congrArg (List.map λs:ByteArray=>s.data.toList) e1;rw[Lc,Lc]at this;simpa[Function.comp_def,ez]using this
           apply hall;rw[JS];intro x hx;obtain⟨kx,hkx⟩:=hh x (by rw[← e2];exact hx);have hlx:=hsub x hx;have:=(hκ x hx).complete kx hkx (by omega);have hk0:=hkx.kind
           simp
           omega
        ·rw[ao hb]
         refine⟨0,rfl,dK (λk' hk' _=>?_)⟩;rcases(conInv k' hk').2 with h|⟨nm,a,bs',h,hb',hh⟩
         ·exact htw (noOpen h)
         ·have:=sw n nm a bs' hb' hh (by rw[← h];omega) (by rw[← h];simp only[Jj];omega)
          rw[← h,hstart]at this;have e1:bt W=bt nm:=congrArg (λq:ByteArray×List ByteArray×Bool=>q.1) (LY this);rw[Dy e1]at hb;exact hb hb'
end Go.Abs
