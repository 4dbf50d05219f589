/- The reference's TermKind and the program's kindOf: both answer the kind of a term. Conditions: none. -/
import Derived.Test.YtkelpajcfmghiaaGreatDoorPl
import Derived.Test.YtkelpajcfmghiaaGreatDoorF4
import Derived.Lib.AtoiTie
open Bool renaming and_eq_true → Jz,eq_false_iff → JV,false_eq_true → JI,not_eq_false' → OT,not_eq_true' → L0,not_true → KU,true_and → KD
open ByteArray renaming empty → Jq,extract → JO,size → Js
open Go.Abs renaming seq → Km
open Go.IntKind renaming i64 → Ju,u8 → Mn
open Go.Lib renaming atoiAll → MD,decDigits → Ky,decFrom → LU,digitVal → Ml,itoa → KW
open Int renaming tdiv → M4,toNat → Jt,toNat_natCast → JS
open List renaming all_cons → KB,all_eq_true → Kf,append_nil → KA,cons_append → Lc,drop_append_of_le_length → NA,drop_drop → LD,drop_eq_nil_iff → M3,drop_left → KL,drop_zero → JY,getD_eq_getElem?_getD → Lm,head?_drop → MW,length → Jr,length_append → Jx,length_cons → Jw,length_drop → LV,length_eq_zero_iff → Kv,length_map → Kp,length_nil → JB,length_pos_iff → Ly,length_singleton → Kw,map_append → Kz,map_map → Lq,mem_cons → JX,mem_cons_of_mem → JR,mem_cons_self → JN,mem_singleton → Kb,nil_append → Kx,prefix_iff_eq_take → NX,singleton_append → Lg,takeWhile_cons → Ke,takeWhile_prefix → Lw,take_append_of_le_length → Mq,take_left → Lf
open Nat renaming le_refl → JU,pow_le_pow_right → Oy,pow_succ → Og,strongRecOn → N9
open Option renaming bind_some → Jp
open Option.some renaming inj → Mg
open UInt8 renaming ofNat → LJ,toNat_inj → LX
set_option linter.unusedVariables false
set_option linter.unusedSimpArgs false
namespace Go.Abs
def bt (l:List UInt8):ByteArray:=⟨l.toArray⟩
theorem ah (l:List UInt8):Js (bt l)=l.length:=by simp[bt,Js]
theorem eB (l:List UInt8):(bt l).data.toList=l:=by simp[bt]
theorem jK (s:ByteArray):s=bt s.data.toList:=by cases s;simp[bt]
theorem E4 {a b:List UInt8}(h:bt a=bt b):a=b:=by rw[← eB a,← eB b,h]
theorem IK (l:List UInt8):(⟨l.toArray⟩:ByteArray)=bt l:=rfl
theorem gb (l:List UInt8)(i j:Nat):JO (bt l) i j=bt ((l.take j).drop i):=by
 rw[jK (JO (bt l) i j)]
 congr 1
 rw[ByteArray.data_extract,Array.toList_extract,List.extract_eq_take_drop,List.drop_take,eB]
theorem gz (a b:List UInt8):Km (bt a) (bt b)=(a==b):=by
 unfold Km;rw[Lib.toList_data,Lib.toList_data,eB,eB]
theorem um (l:List UInt8)(i:Nat):aP (bt l) (i:Int)=((l.getD i 0).toNat:Int):=by
 unfold aP bt;simp only[JS]
 congr 2
 simp[Array.getD_eq_getD_getElem?,List.getD]
theorem iB:Jq=bt []:=rfl
theorem ap (a b:List UInt8):bt a++bt b=bt (a++b):=by
 rw[jK (bt a++bt b)]
 congr 1
theorem AQ:∀(l:List Int) (r:ByteArray),(l.foldl (λr n=>r.push (LJ n.toNat)) r)=bt (r.data.toList++l.map λn=>LJ n.toNat)
 |[],r=>by rw[List.foldl_nil,List.map_nil,KA];exact jK r
 |x::l,r=>by
  rw[List.foldl_cons,AQ l]
  congr 1
  show(r.data.push _).toList++_=_
  simp
theorem AR (l:List Int):rc l=bt (l.map λn=>LJ n.toNat):=by
 unfold rc;rw[AQ]
 simp
theorem sD {u:Nat}(h:¬u<10):Ky u=Ky (u / 10)++[LJ (48+u % 10)]:=by rw[Ky,dif_neg h]
theorem o6 {u:Nat}(h:u<10):Ky u=[LJ (48+u)]:=Lib.decDigits_one h
theorem ly (d:Nat)(h:d<10):48<=(LJ (48+d)).toNat/\(LJ (48+d)).toNat<=57/\(LJ (48+d)).toNat=48+d:=by
 rw[UInt8.toNat_ofNat'];omega
theorem sE (u:Nat):∀b∈Ky u,48<=b.toNat/\b.toNat<=57:=by
 induction u using N9 with
 |_ u ih=>
  intro b hb
  by_cases h:u<10
  ·rw[o6 h]at hb
   simp only[Kb]at hb;subst hb;have:=ly u h;omega
  ·rw[sD h]at hb
   simp only[List.mem_append,Kb]at hb;rcases hb with hb|rfl
   ·exact ih (u / 10) (by omega) b hb
   ·have:=ly (u % 10) (by omega)
    omega
theorem zH (u:Nat):Ky u≠[]:=by
 intro h
 by_cases hu:u<10
 ·rw[o6 hu]at h;cases h
 ·rw[sD hu]at h;simp at h
theorem na:∀(a b:List UInt8) (acc:Nat),LU acc (a++b)=(LU acc a).bind λx=>LU x b
 |[],b,acc=>rfl
 |x::a,b,acc=>by
  simp only[Lc,LU];cases Ml x with
  |none=>rfl
  |some d=>exact na a b _
theorem ql (d:Nat)(h:d<10):Ml (LJ (48+d))=some d:=by
 obtain⟨h1,h2,h3⟩:=ly d h;unfold Ml;rw[ab ⟨h1,h2⟩,h3]
 simp
theorem nc (u:Nat):LU 0 (Ky u)=some u:=by
 induction u using N9 with
 |_ u ih=>
  by_cases h:u<10
  ·rw[o6 h]
   simp only[LU,ql u h]
   simp
  ·rw[sD h,na,ih (u / 10) (by omega)]
   simp only[Jp,LU,ql (u % 10) (by omega)];rw[Nat.div_add_mod' u 10]
theorem oR:∀(j u:Nat),u<10 ^ (j+1)->(Ky u).length<=j+1
 |0,u,h=>by rw[o6 (by simpa using h)];simp
 |j+1,u,h=>by
  by_cases hu:u<10
  ·rw[o6 hu];simp
  ·rw[sD hu,Jx]
   have:=oR j (u / 10) (by rw[Og]at h;omega);simp only[Kw];omega
theorem sG (u:Nat):∃c r,Ky u=c::r/\48<=c.toNat/\c.toNat<=57:=by
 cases h:Ky u with
 |nil=>exact bH h (zH u)
 |cons c r=>
  have:=sE u c (by rw[h];simp);exact⟨c,r,rfl,this⟩
theorem uo (x:Int)(h0:-1000000<=x)(h1:x<=1000000):MD (KW x)= .ok x:=by
 have mag:∀u:Nat,u<=1000000->Lib.parseMag (Ky u)= .ok u:=by
  intro u hu;rw[Lib.parseMag_short _ (by have:=oR 6 u (by omega);omega)];unfold Lib.decNat;rw[ao (by simp[zH]),nc]
  rfl
 unfold KW
 split
 ·rename_i hx
  unfold MD;simp only[show(45:UInt8).toNat=45 from rfl,or_true,if_true,mag x.natAbs (by omega)];rw[ao (by omega),ao (by omega)]
  congr 1
  omega
 ·rename_i hx
  obtain⟨c,r,hc,h2,h3⟩:=sG x.toNat;have hm:=mag x.toNat (by omega);rw[hc]at hm⊢;unfold MD;simp only[show¬c.toNat=45 by omega,show¬c.toNat=43 by omega,or_self,if_false,hm];rw[ao (by omega),ao (by simp)]
  congr 1
  omega
def Ih (b:UInt8):Int:=(b.toNat:Int)
theorem AS (l:List UInt8):(l.map Ih).map (λn=>LJ n.toNat)=l:=by
 rw[Lq]
 conv=>rhs;rw[← List.map_id l]
 congr 1
 funext b
 simp[Ih]
theorem E5 (z:Int)(h0:0<=z)(h1:z<=255):Mn.wrap z=z:=by
 simp only[IntKind.wrap,IntKind.signed,IntKind.bits]
 simp
 omega
theorem AT (n:Nat)(t:Int)(K:List Int->Option ByteArray):∀(j k:Nat) (m:Int) (out:List Int),m.natAbs<10 ^ j->j+1<=k->Jr out+j<=100->m.natAbs<=4611686018427387904->
  bO.l0 n t K k m out=K ((if m=0 then []else(Ky m.natAbs).map Ih)++out)
 |j,0,m,out,_,hk,_,_=>by omega
 |0,k+1,m,out,hm,hk,ho,hb=>by
  have:m=0:=by simp at hm;exact hm
  subst this;unfold bO.l0
  simp
 |j+1,k+1,m,out,hm,hk,ho,hb=>by
  unfold bO.l0
  by_cases h0:m=0
  ·subst h0;simp
  ·have hd:(M4 m 10).natAbs=m.natAbs / 10:=by rw[Int.natAbs_tdiv];rfl
   have hr:(Int.tmod m 10).natAbs=m.natAbs % 10:=by rw[Int.natAbs_tmod];rfl
   have hw:Ju.wrap (M4 m 10)=M4 m 10:=aK _ (by omega) (by omega);have hl:Jr [(1:Int)]+Jr out<=aT:=by unfold aT;simp;omega
   have step:∀d:Int,d=((m.natAbs % 10:Nat):Int)->bO.l0 n t K k (Ju.wrap (M4 m 10)) ([Mn.wrap (Ju.wrap (48+d))]++out)=K ((Ky m.natAbs).map Ih++out):=by
    intro d hdd;have e1:Mn.wrap (Ju.wrap (48+d))=Ih (LJ (48+m.natAbs % 10)):=by
     rw[aK _ (by omega) (by omega),E5 _ (by omega) (by omega)];unfold Ih;have:=(ly (m.natAbs % 10) (by omega)).2.2;omega
    rw[hw,e1,AT n t K j k (M4 m 10) _ (by rw[hd];rw[Og]at hm;omega) (by omega) (by simp;omega) (by omega),hd]
    congr 1
    by_cases hu:m.natAbs<10
    ·have hz:M4 m 10=0:=by omega
     rw[ab hz,o6 hu]
     simp[Nat.mod_eq_of_lt hu]
    ·have hz:¬M4 m 10=0:=by omega
     rw[ao hz,sD hu]
     simp
   have hl2:∀z:Int,Jr [z]+Jr out<=aT:=λz=>by unfold aT;simp;omega
   rw[ao h0,ab (by simpa using h0)]
   split
   ·rename_i hneg
    rw[ab (hl2 _)];apply step;have hneg:=of_decide_eq_true hneg;rw[aK _ (by omega) (by omega)];omega
   ·rename_i hneg
    have hneg:¬(Int.tmod m 10)<0:=λh=>hneg (iX h)
    rw[ab (hl2 _)];apply step;omega
theorem qY (n:Nat)(x:Int)(hn:25<=n)(h0:-4611686018427387904<=x)(h1:x<=4611686018427387904):bO.F n x=some (bt (KW x)):=by
 unfold bO.F
 split
 ·rename_i h
  have h:=of_decide_eq_true h;subst h;have:KW 0=[48]:=by unfold KW;rw[ao (by omega),show Jt 0=0 from rfl,o6 (by omega)];rfl
  rw[this]
  rfl
 ·rename_i h
  have h:¬x=0:=λe=>h (iX e)
  rw[AT n x _ 20 n x [] (by omega) (by omega) (by simp) (by omega)];rw[ao h,KA];unfold KW
  by_cases hx:x<0
  ·rw[ab (iX hx),ab hx,ab]
   ·rw[AR,Kz,AS]
    rfl
   ·have:=oR 19 x.natAbs (by omega)
    unfold aT
    simp
    omega
  ·rw[ao (by simpa using hx),ao hx,AR,AS]
   have:x.natAbs=x.toNat:=by omega
   rw[this]
def lz (l:List UInt8):Prop:=∃x:Int,-1000000<=x/\x<=1000000/\l=KW x
def iC (l:List UInt8):List UInt8:=match l with
 |[]=>[]
 |c::r=>if c.toNat=45 then r else c::r
theorem dW (n:Nat)(a b c:Int):bj.F n a b c=some (decide (b<=a/\a<=c)):=by
 unfold bj.F
 by_cases h:b<=a
 ·rw[ab (by simpa using h)]
  simp[h]
 ·rw[ao (by simpa using h)]
  simp[h]
theorem qm (n:Nat)(b:Int):dH.F n b=some (decide (48<=b/\b<=57)):=by
 unfold dH.F
 by_cases h:48<=b
 ·rw[ab (by simpa using h)]
  simp[h]
 ·rw[ao (by simpa using h)]
  simp[h]
theorem xM {b:UInt8}{d:Nat}(h:Ml b=some d):d<=9/\b.toNat=48+d:=by
 unfold Ml at h
 split at h
 ·cases h;omega
 ·cases h
theorem AU (n:Nat)(s:ByteArray)(K:Int->Option (Int×Bool)):∀(r pre:List UInt8) (t k:Nat),Jr (pre++r)<=7->t<10 ^ pre.length->r.length+1<=k->
  bn.l1 n s (bt (pre++r)) K k (t:Int) (pre.length:Int)=match LU t r with|some v=>K (v:Int)|none=>some (0,false)
 |r,pre,t,0,_,_,hk=>by omega
 |[],pre,t,k+1,hl,ht,hk=>by
  unfold bn.l1;rw[ah,ao (by simp)]
  rfl
 |c::r,pre,t,k+1,hl,ht,hk=>by
  unfold bn.l1;have hlen:(pre.length:Int)<((pre++c::r).length:Int):=by simp;omega
  have hat:aP (bt (pre++c::r)) (pre.length:Int)=(c.toNat:Int):=by rw[um,cR]
  rw[ah,ab (iX hlen),ab ⟨by omega,hlen⟩,hat,qm];simp only[Jp];simp only[LU];have hpl:pre.length<=6:=by simp at hl;omega
  have hp:(10:Nat) ^ pre.length<=10 ^ 6:=Oy (by omega) hpl;cases hd:Ml c with
  |none=>
   have:¬(48<=(c.toNat:Int)/\(c.toNat:Int)<=57):=by
    intro⟨h1,h2⟩;unfold Ml at hd;rw[ab (by omega)]at hd;cases hd
   rw[ab (by simp only[L0,vK];exact this)]
  |some d=>
   obtain⟨d1,d2⟩:=xM hd;rw[ao (by simp;omega),ab ⟨by omega,hlen⟩,E5 _ (by omega) (by omega),aK (10*(t:Int)) (by omega) (by omega),aK ((c.toNat:Int) - 48) (by omega) (by omega),
    aK (10*(t:Int)+_) (by omega) (by omega),aK ((pre.length:Int)+1) (by omega) (by omega)]
   have e1:10*(t:Int)+((c.toNat:Int) - 48)=((t*10+d:Nat):Int):=by omega
   have e2:(pre.length:Int)+1=((pre++[c]).length:Int):=by simp
   have e3:pre++c::r=(pre++[c])++r:=by simp
   rw[e1,e2,e3];exact AU n s K r (pre++[c]) (t*10+d) k (by rw[← e3];exact hl) (by simp only[Jx,Kw,Og];omega) (by simpa using hk)
theorem o7 {x:Int}(h0:-1000000<=x)(h1:x<=1000000):∃u:Nat,u<=1000000/\((1<=u/\x= -(u:Int)/\KW x=45::Ky u)\/(x=(u:Int)/\KW x=Ky u)):=by
 refine⟨x.natAbs,by omega,?_⟩;unfold KW
 by_cases h:x<0
 ·exact .inl ⟨by omega,by omega,by rw[ab h]⟩
 ·exact .inr ⟨by omega,by rw[ao h,show x.toNat=x.natAbs by omega]⟩
theorem mo {u:Nat}:iC (45::Ky u)=Ky u/\iC (Ky u)=Ky u:=by
 refine⟨rfl,?_⟩;obtain⟨c,r,hc,h2,h3⟩:=sG u;rw[hc];unfold iC;dsimp only;rw[ao (by omega)]
theorem qn {x:Int}(h0:-1000000<=x)(h1:x<=1000000):∃u:Nat,u<=1000000/\iC (KW x)=Ky u/\x=if iC (KW x)=KW x then(u:Int)else -(u:Int):=by
 obtain⟨u,hu,h|h⟩:=o7 h0 h1
 ·refine⟨u,hu,by rw[h.2.2];exact mo.1,?_⟩
  rw[h.2.2,mo.1,ao]
  ·exact h.2.1
  ·intro e
   have:=congrArg Jr e
   simp at this
 ·refine⟨u,hu,by rw[h.2];exact mo.2,?_⟩
  rw[h.2,mo.2,ab rfl];exact h.1
theorem sI {u:Nat}(h:u<=1000000):1<=(Ky u).length/\(Ky u).length<=7:=by
 refine⟨?_,by have:=oR 6 u (by omega);omega⟩;have:=zH u;cases h:Ky u with
 |nil=>exact bH h this
 |cons c r=>simp
theorem pQ (n:Nat)(l:List UInt8)(hn:25<=n):∃v ok,bn.F n (bt l)=some (v,ok)/\(ok=true↔lz l)/\(ok=true->l=KW v/\ -1000000<=v/\v<=1000000):=by
 have key:bn.F n (bt l)=bn.j0 n (bt l) 0 (bt (iC l)):=by
  unfold bn.F;cases l with
  |nil=>rw[ah,ao (by simp)];rfl
  |cons c r=>
   have hat:aP (bt (c::r)) 0=(c.toNat:Int):=by have:=um (c::r) 0;simpa using this
   rw[ah,ab (by simp<;>omega),ab (by simp<;>omega),hat]
   by_cases hc:c.toNat=45
   ·rw[ab (by simp;omega),ab (by simp;omega),gb]
    congr 2
    unfold iC;dsimp only;rw[ab hc]
    simp
   ·rw[ao (by simp;omega)]
    congr 2
    unfold iC;dsimp only;rw[ao hc]
 rw[key];have hnum:lz l->∃u:Nat,u<=1000000/\iC l=Ky u:=by
  rintro⟨x,h0,h1,rfl⟩;obtain⟨u,hu,h2,_⟩:=qn h0 h1;exact⟨u,hu,h2⟩
 unfold bn.j0;rw[ah,dW];simp only[Jp]
 by_cases hlen:1<=(iC l).length/\(iC l).length<=7
 ·rw[ao (by simp;omega)]
  have:=AU n (bt l) (λt11=>
   if(!(Km (bt (iC l)) (bt l)))=true then
    (bO.F n (Ju.wrap (0 - t11))).bind λr12=>
    if(Km r12 (bt l))=true then
     (bj.F n (Ju.wrap (0 - t11)) (-1000000) 1000000).bind λr13=>
     some (Ju.wrap (0 - t11),r13)
    else
     some (Ju.wrap (0 - t11),false)
   else
    (bO.F n t11).bind λr14=>
    if(Km r14 (bt l))=true then
     (bj.F n t11 (-1000000) 1000000).bind λr15=>
     some (t11,r15)
    else
     some (t11,false)) (iC l) [] 0 n (by simpa using hlen.2) (by simp) (by omega)
  simp only[Kx,JB,Int.natCast_zero]at this;rw[this];cases hv:LU 0 (iC l)with
  |none=>
   refine⟨0,false,rfl,⟨λh=>(by cases h),λh=>?_⟩,λh=>by cases h⟩;obtain⟨u,_,h2⟩:=hnum h;rw[h2,nc]at hv;cases hv
  |some v=>
   have hv7:=Lib.decFrom_lt _ _ _ hv;have hp:(10:Nat) ^ (iC l).length<=10 ^ 7:=Oy (by omega) hlen.2;have hvlt:v<10000000:=by omega
   have fin:∀x:Int,x=(if iC l=l then(v:Int)else -(v:Int))->
     ∃v' ok,((bO.F n x).bind λr14=>if(Km r14 (bt l))=true then(bj.F n x (-1000000) 1000000).bind λr15=>some (x,r15)else some (x,false))=some (v',ok)/\
      (ok=true↔lz l)/\(ok=true->l=KW v'/\ -1000000<=v'/\v'<=1000000):=by
    intro x hx;have hxb:-10000000<=x/\x<=10000000:=by split at hx<;>omega
    rw[qY n x hn (by omega) (by omega)];simp only[Jp,gz];have toX:lz l->l=KW x/\ -1000000<=x/\x<=1000000:=by
     rintro⟨y,h0,h1,rfl⟩;obtain⟨u,hu,h2,h3⟩:=qn h0 h1;rw[h2,nc]at hv;cases hv;rw[← h3]at hx;rw[hx];exact⟨rfl,h0,h1⟩
    by_cases he:KW x=l
    ·rw[ab (by simpa using he),dW]
     refine⟨x,_,rfl,⟨λh=>?_,λh=>?_⟩,λh=>?_⟩
     ·have:=of_decide_eq_true h
      exact⟨x,this.1,this.2,he.symm⟩
     ·exact iX (toX h).2
     ·exact⟨he.symm,of_decide_eq_true h⟩
    ·rw[ao (by simpa using he)]
     exact⟨x,false,rfl,⟨λh=>(by cases h),λh=>bH (toX h).1.symm he⟩,λh=>by cases h⟩
   dsimp only;rw[gz]
   by_cases hu:iC l=l
   ·rw[ao (by simpa using hu)]
    exact fin _ (by rw[ab hu])
   ·rw[ab (by simpa using hu),aK _ (by omega) (by omega)]
    exact fin _ (by rw[ao hu];omega)
 ·rw[ab (by simp;omega)]
  refine⟨0,false,rfl,⟨λh=>(by cases h),λh=>?_⟩,λh=>by cases h⟩;obtain⟨u,hu,h2⟩:=hnum h;rw[h2]at hlen;exact bH (sI hu) hlen
theorem nd (b:Bool):b=false\/b=true:=by cases b<;>simp
def cY (b:UInt8):Bool:=decide (48<=b.toNat/\b.toNat<=57)
def kC (b:UInt8):Bool:=decide (65<=b.toNat/\b.toNat<=90)
def kD (b:UInt8):Bool:=decide (97<=b.toNat/\b.toNat<=122)||kC b
def dt (b:UInt8):Bool:=kD b||cY b||decide (b.toNat=95)
def eU (b:UInt8):Bool:=decide (32<=b.toNat/\b.toNat<=126/\b.toNat≠34/\b.toNat≠92)
theorem GS (n:Nat)(a b c:Int):eE.F n a b c=some (decide (b<=a/\a<=c)):=by
 unfold eE.F
 by_cases h:b<=a
 ·rw[ab (by simpa using h)]
  simp[h]
 ·rw[ao (by simpa using h)]
  simp[h]
theorem iN (n:Nat)(b:UInt8):dJ.F n (b.toNat:Int)=some (cY b):=by
 unfold dJ.F cY
 by_cases h:48<=b.toNat
 ·rw[ab (by simp;omega)]
  congr 1
  rw[decide_eq_decide];omega
 ·rw[ao (by simp;omega)]
  congr 1
  symm
  rw[vK];omega
theorem xN (b:UInt8):(if decide ((b.toNat:Int)>=65)=true then some (decide ((b.toNat:Int)<=90))else some false)=some (kC b):=by
 unfold kC
 by_cases h:65<=b.toNat
 ·rw[ab (by simp;omega)]
  congr 1
  rw[decide_eq_decide];omega
 ·rw[ao (by simp;omega)]
  congr 1
  symm
  rw[vK];omega
theorem sJ (n:Nat)(b:UInt8):gh.F n (b.toNat:Int)=some (kD b):=by
 unfold gh.F;rw[xN];unfold kD
 by_cases h:97<=b.toNat
 ·rw[ab (by simp;omega)]
  by_cases h2:b.toNat<=122
  ·rw[ao (by simp;omega),iX (⟨h,h2⟩:97<=b.toNat/\b.toNat<=122)]
   rfl
  ·rw[ab (by simp;omega),dq (by omega:¬(97<=b.toNat/\b.toNat<=122))]
   rfl
 ·rw[ao (by simp;omega),dq (by omega:¬(97<=b.toNat/\b.toNat<=122))]
  rfl
theorem xO (n:Nat)(b:UInt8):ie.F n (b.toNat:Int)=some (dt b):=by
 unfold ie.F;rw[sJ];simp only[Jp];rw[iN];simp only[Jp];unfold dt;cases kD b
 ·cases cY b
  ·simp
   omega
  ·simp
 ·simp
theorem uq (n:Nat)(b:UInt8):dX.F n (b.toNat:Int)=some (decide (97<=b.toNat/\b.toNat<=122)):=by
 unfold dX.F
 by_cases h:97<=b.toNat
 ·rw[ab (by simp;omega)]
  congr 1
  rw[decide_eq_decide];omega
 ·rw[ao (by simp;omega)]
  congr 1
  symm
  rw[vK];omega
theorem qZ (n:Nat)(b:UInt8):fk.F n (b.toNat:Int)=some (kC b):=by
 unfold fk.F;exact xN b
theorem lR (n:Nat)(b:UInt8):dH.F n (b.toNat:Int)=some (cY b):=by
 rw[qm];unfold cY
 congr 1
 rw[decide_eq_decide];omega
theorem sK (n:Nat)(b:UInt8):ft.F n (b.toNat:Int)=some (dt b):=by
 unfold ft.F;rw[uq];simp only[Jp];rw[qZ];simp only[Jp];rw[lR];simp only[Jp];unfold dt kD;cases decide (97<=b.toNat/\b.toNat<=122)
 ·cases kC b
  ·cases cY b
   ·simp
    omega
   ·simp
  ·simp
 ·simp
def fO (l:List UInt8):Bool:=decide (1<=l.length/\l.length<=20)&&(match l with|[]=>false|c::_=>kC c)&&l.all dt
theorem eu (pre r:List UInt8)(c:UInt8):aP (bt (pre++c::r)) (pre.length:Int)=(c.toNat:Int):=by rw[um,cR]
theorem iw (c:UInt8)(r:List UInt8):aP (bt (c::r)) 0=(c.toNat:Int):=by have:=um (c::r) 0;simpa using this
theorem fC (pre r:List UInt8)(c:UInt8):(pre.length:Int)<((pre++c::r).length:Int):=by simp;omega
theorem cF (pre r:List UInt8)(c:UInt8):(0:Int)<=(pre.length:Int)/\(pre.length:Int)<((pre++c::r).length:Int):=⟨by omega,fC pre r c⟩
theorem ia (pre:List UInt8)(c:UInt8):(pre.length:Int)+1=((pre++[c]).length:Int):=by simp
theorem eR (pre r:List UInt8)(c:UInt8):pre++c::r=(pre++[c])++r:=by simp
theorem ur (n:Nat)(K:Unit->Option Bool):∀(r pre:List UInt8) (k:Nat),(pre++r).length<=4294967296->r.length+1<=k->
  dY.l1 n (bt (pre++r)) K k (pre.length:Int)=if r.all dt=true then K ()else some false
 |r,pre,0,_,hk=>by omega
 |[],pre,k+1,hl,hk=>by
  unfold dY.l1;rw[ah,ao (by simp)]
  rfl
 |c::r,pre,k+1,hl,hk=>by
  unfold dY.l1;rw[ah,ab (iX (fC pre r c)),ab (cF pre r c),eu,sK];simp only[Jp,KB];rcases nd (dt c)with hw|hw
  ·simp[hw]
  ·simp only[hw,KU,JI,if_false,KD]
   simp only[Jx,Jw]at hl;rw[aK _ (by omega) (by omega),ia pre c,eR];exact ur n K r (pre++[c]) k (by simp;omega) (by simpa using hk)
theorem zI (n:Nat)(l:List UInt8)(hl:l.length<=4294967296)(hn:l.length+1<=n):dY.F n (bt l) true=some (fO l):=by
 unfold dY.F;rw[ah,dW];simp only[Jp]
 by_cases h:1<=l.length/\l.length<=20
 ·rw[ab (by simp;omega),ab trivial]
  cases l with
  |nil=>simp at h
  |cons c r=>
   rw[ab (by simp<;>omega),iw,qZ];simp only[Jp];unfold fO;rw[iX h];rcases nd (kC c)with hb|hb
   ·simp[hb]
   ·simp only[hb,KU,if_true,JI,if_false,KD]
    unfold dY.j0;have:=ur n (λ_=>some true) (c::r) [] n (by simpa using hl) hn;simp only[Kx,JB]at this;rw[show((0:Nat):Int)=0 from rfl]at this;rw[this];rcases nd ((c::r).all dt)with hw|hw<;>simp[hw]
 ·rw[ao (by simp;omega)]
  unfold fO;rw[dq h]
  rfl
theorem AV (n:Nat)(K:Int->Option Int):∀(r pre:List UInt8) (k:Nat),pre≠[]->(pre++r).length<=4294967296->r.length+1<=k->
  cK.l0 n (bt (pre++r)) K k (pre.length:Int)=K ((pre.length+(r.takeWhile dt).length:Nat):Int)
 |r,pre,0,_,_,hk=>by omega
 |[],pre,k+1,hp,hl,hk=>by
  unfold cK.l0;rw[ah,ao (by simp)]
  rfl
 |c::r,pre,k+1,hp,hl,hk=>by
  unfold cK.l0;rw[ah,ab (iX (fC pre r c)),ab (cF pre r c),eu,xO];simp only[Jp,Ke];have hp0:0<pre.length:=Ly.2 hp;rcases nd (dt c)with hw|hw
  ·simp[hw]
  ·simp only[hw,if_true]
   simp only[Jx,Jw]at hl;rw[ao (by simp;omega),aK _ (by omega) (by omega),ia pre c,eR,AV n K r (pre++[c]) k (by simp) (by simp;omega) (by simpa using hk)]
   congr 2
   simp
   omega
theorem ng (n:Nat)(l:List UInt8)(hl:l.length<=4294967296)(hn:l.length+1<=n):
  cK.F n (bt l)=some ((match l with|[]=>0|c::_=>if kD c=true then(l.takeWhile dt).length else 0:Nat):Int):=by
 unfold cK.F;cases l with
 |nil=>
  obtain⟨k,rfl⟩:∃k,n=k+1:=⟨n - 1,by omega⟩
  unfold cK.l0;rw[ah,ao (by simp)]
  rfl
 |cons c r=>
  obtain⟨k,rfl⟩:∃k,n=k+1:=⟨n - 1,by omega⟩
  unfold cK.l0;simp only[Jw]at hl hn;rw[ah,ab (by simp<;>omega),ab (by simp<;>omega),iw,xO];simp only[Jp];have hz:decide ((0:Int)>0)=false:=by simp
  have hin:(0:Int)<=0/\0<((c::r).length:Int):=⟨by omega,by simp<;>omega⟩;rw[sJ,ab hz,ab hin];simp only[Jp];rcases nd (kD c)with ht|ht
  ·rcases nd (dt c)with hw|hw<;>simp[hw,ht]
  ·have hw:dt c=true:=by unfold dt;rw[ht];rfl
   simp only[hw,ht,if_true];rw[aK _ (by omega) (by omega)];have:=AV (k+1) (λt6=>some t6) r [c] k (by simp) (by simp;omega) (by omega);simp only[Kw,Lg]at this;rw[show(0:Int)+1=((1:Nat):Int)from rfl,this]
   congr 2
   rw[Ke,hw]
   simp
   omega
theorem nM {p:UInt8->Bool}{l:List UInt8}:(l.takeWhile p).length=l.length↔l.all p=true:=by
 induction l with
 |nil=>simp
 |cons c r ih=>
  rw[Ke,KB];cases hp:p c
  ·simp
  ·simp[ih]
theorem AW (n:Nat):∀(r pre:List UInt8) (k:Nat),(pre++r).length<=4294967296->r.length+1<=k->
  cG.l0 n (bt (pre++r)) (λ_=>some 0) k (pre.length:Int)=
   some (if pre.length+(r.takeWhile eU).length<=21/\r[(r.takeWhile eU).length]? =some 34 then((pre.length+(r.takeWhile eU).length+1:Nat):Int)else 0)
 |r,pre,0,_,hk=>by omega
 |[],pre,k+1,hl,hk=>by
  unfold cG.l0;rw[ah,ao (by simp),ao (by simp)]
 |c::r,pre,k+1,hl,hk=>by
  unfold cG.l0;simp only[Jx,Jw]at hl;rw[ah,ab (iX (fC pre r c))]
  by_cases h21:pre.length<=21
  ·rw[ab (by simp;omega)]
   unfold cG.j1;rw[ah,ab (cF pre r c),eu,Ke]
   by_cases hq:c.toNat=34
   ·have hpl:eU c=false:=by unfold eU;simp;omega
    have hc:c=34:=LX.1 hq;rw[ab (by simp;omega),hpl,aK _ (by omega) (by omega),ab]
    ·simp
    ·simp[hc];omega
   ·rw[ao (by simp;omega),ab (cF pre r c)]
    have hc:¬c=34:=λe=>hq (by rw[e];rfl)
    rcases nd (eU c)with hpl|hpl
    ·have hpl':=hpl
     simp only[eU,vK]at hpl;have z:∀(P:Prop) [Decidable P],(if(decide ((c.toNat:Int)<32))=false then(if(0:Int)<=(pre.length:Int)/\(pre.length:Int)<((pre++c::r).length:Int)then(if(decide ((c.toNat:Int)>126))=false then(if(0:Int)<=(pre.length:Int)/\(pre.length:Int)<((pre++c::r).length:Int)then(if decide ((c.toNat:Int)=92)=true then some (0:Int)else cG.l0 n (bt (pre++c::r)) (λ_=>some 0) k (Ju.wrap ((pre.length:Int)+1)))else none)else some 0)else none)else some 0)=some 0:=by
      intro P _
      by_cases h1:c.toNat<32
      ·rw[ao (by simp;omega)]
      ·rw[ab (by simp;omega),ab (cF pre r c)]
       by_cases h2:126<c.toNat
       ·rw[ao (by simp;omega)]
       ·rw[ab (by simp;omega),ab (cF pre r c),ab (by simp;omega)]
     rw[z True,hpl']
     simp[hc]
    ·have hpl':=hpl
     simp only[eU,dg]at hpl;rw[hpl'];rw[ab (by simp;omega),ab (cF pre r c),ab (by simp;omega),ab (cF pre r c),ao (by simp;omega),aK _ (by omega) (by omega),ia pre c,eR];refine(AW n r (pre++[c]) k (by simp;omega) (by simpa using hk)).trans ?_
     congr 1
     simp only[if_true,Jx,Kw,Jw,JB,Nat.zero_add,List.getElem?_cons_succ];have e1:pre.length+1+(r.takeWhile eU).length=pre.length+((r.takeWhile eU).length+1):=by omega
     rw[e1]
  ·rw[ao (by simp;omega),ao (by omega)]
theorem nN (n:Nat)(c:UInt8)(r:List UInt8)(hl:r.length<=4294967000)(hn:r.length+1<=n):
  cG.F n (bt (c::r))=some (if(r.takeWhile eU).length<=20/\r[(r.takeWhile eU).length]? =some 34 then(((r.takeWhile eU).length+2:Nat):Int)else 0):=by
 unfold cG.F;have:=AW n r [c] n (by simp;omega) hn;simp only[Kw,Lg]at this;rw[show((1:Nat):Int)=1 from rfl]at this;rw[this]
 congr 1
 have e1:1+(r.takeWhile eU).length+1=(r.takeWhile eU).length+2:=by omega
 rw[e1]
 by_cases h:(r.takeWhile eU).length<=20/\r[(r.takeWhile eU).length]? =some 34
 ·rw[ab ⟨by omega,h.2⟩,ab h]
 ·rw[ao (by rintro⟨h1,h2⟩;exact h ⟨by omega,h2⟩),ao h]
def aC:List (List UInt8)->List UInt8
 |[]=>[]
 |a::bs=>44::(a++aC bs)
inductive Tm:Nat->List UInt8->Prop where
 |num (x:Int) (h0:-1000000<=x) (h1:x<=1000000):Tm 1 (KW x)
 |sym (m:List UInt8) (h:m.length<=20) (hp:m.all eU=true):Tm 2 (34::(m++[34]))
 |con0 (nm:List UInt8) (h:fO nm=true):Tm 3 nm
 |con (nm a:List UInt8) (bs:List (List UInt8)) (h:fO nm=true) (ks:List UInt8->Nat) (hh:∀x∈a::bs,Tm (ks x) x):Tm 3 (nm++40::(a++(aC bs++[41])))
theorem Tm.kind {k:Nat}{l:List UInt8}(h:Tm k l):1<=k/\k<=3:=by cases h<;>omega
def xP (l:List UInt8):Prop:=l=[]\/∃c r,l=c::r/\(c=44\/c=41)
theorem iO {nm:List UInt8}(h:fO nm=true):∃c r,nm=c::r/\kC c=true/\nm.length<=20/\nm.all dt=true:=by
 unfold fO at h;simp only[Jz,dg]at h;cases nm with
 |nil=>simp at h
 |cons c r=>exact⟨c,r,rfl,h.1.2,h.1.1.2,h.2⟩
theorem pR {x:Int}(h0:-1000000<=x)(h1:x<=1000000):∃c r,KW x=c::r/\(c=45\/cY c=true)/\r.all cY=true:=by
 have all:∀u,(Ky u).all cY=true:=by
  intro u;rw[Kf];intro b hb;unfold cY;exact iX (sE u b hb)
 obtain⟨u,hu,h|h⟩:=o7 h0 h1
 ·exact⟨45,_,h.2.2,.inl rfl,all u⟩
 ·obtain⟨c,r,hc,h2,h3⟩:=sG u
  have:=all u;rw[hc,KB,Jz]at this;exact⟨c,r,by rw[h.2,hc],.inr this.1,this.2⟩
theorem Tm.ne {k:Nat}{l:List UInt8}(h:Tm k l):l≠[]:=by
 cases h with
 |num x h0 h1=>obtain⟨c,r,hc,_⟩:=pR h0 h1;rw[hc];simp
 |sym m h hp=>simp
 |con0 nm h=>obtain⟨c,r,hc,_⟩:=iO h;rw[hc];simp
 |con nm a bs h ks hh=>simp
theorem iD {p:UInt8->Bool}{a r:List UInt8}(ha:a.all p=true)(hr:r=[]\/∃c t,r=c::t/\p c=false):(a++r).takeWhile p=a:=by
 induction a with
 |nil=>
  rcases hr with rfl|⟨c,t,rfl,hc⟩
  ·rfl
  ·simp[hc]
 |cons c a ih=>
  rw[KB,Jz]at ha;rw[Lc,Ke,ha.1,ab rfl,ih ha.2]
theorem AX {p:UInt8->Bool}(h1:p 44=false)(h2:p 41=false){r:List UInt8}(h:xP r):r=[]\/∃c t,r=c::t/\p c=false:=by
 rcases h with rfl|⟨c,t,rfl,rfl|rfl⟩
 ·exact .inl rfl
 ·exact .inr ⟨_,_,rfl,h1⟩
 ·exact .inr ⟨_,_,rfl,h2⟩
theorem AY (n:Nat)(self:ByteArray->Option (Int×Int))(K:Int->Option (Int×Int)):∀(r pre:List UInt8) (k:Nat),(pre++r).length<=4294967296->r.length+1<=k->
  aH.l1 n self (bt (pre++r)) K k (pre.length:Int)=K ((pre.length+(r.takeWhile cY).length:Nat):Int)
 |r,pre,0,_,hk=>by omega
 |[],pre,k+1,hl,hk=>by
  unfold aH.l1;rw[ah,ao (by simp)]
  rfl
 |c::r,pre,k+1,hl,hk=>by
  unfold aH.l1;rw[ah,ab (iX (fC pre r c)),ab (cF pre r c),eu,iN];simp only[Jp,Ke];rcases nd (cY c)with hw|hw
  ·simp[hw]
  ·simp only[hw,if_true]
   simp only[Jx,Jw]at hl;rw[aK _ (by omega) (by omega),ia pre c,eR,AY n self K r (pre++[c]) k (by simp;omega) (by simpa using hk)]
   congr 2
   simp
   omega
theorem E6 (n:Nat)(self:ByteArray->Option (Int×Int))(c:UInt8)(r:List UInt8)(Kn:Unit->Option (Int×Int))(hl:r.length<=4294960000)(hn:r.length+1<=n):
  (lz (c::r.takeWhile cY)->aH.j0 n self (bt (c::r)) true Kn=some (1,(((c::r.takeWhile cY).length:Nat):Int)))/\
  (¬lz (c::r.takeWhile cY)->aH.j0 n self (bt (c::r)) true Kn=Kn ()):=by
 have hw:(r.takeWhile cY).length<=r.length:=(Lw cY).length_le;have htk:(c::r).take (r.takeWhile cY).length.succ=c::r.takeWhile cY:=by
  rw[List.take_succ_cons]
  congr 1
  exact(NX.1 (Lw cY)).symm
 have key:aH.j0 n self (bt (c::r)) true Kn=
   (match MD (c::r.takeWhile cY)with
    | .ok v=>if -1000000<=v/\v<=1000000/\KW v=c::r.takeWhile cY then some (1,(((c::r.takeWhile cY).length:Nat):Int))else Kn ()
    |_=>Kn ()):=by
  unfold aH.j0;rw[ab rfl];have:=AY n self (λt9=>
   if(0:Int)<=0/\(0:Int)<=t9/\t9<=(Js (bt (c::r)):Int)then
    (fa.F n (JO (bt (c::r)) (Jt 0) (Jt t9))).bind λr10=>
    if(r10.2&&false)=true then
     none
    else
     if(r10.2==false)=true then
      (eE.F n r10.1 (-1000000) 1000000).bind λr11=>
      if r11=true then
       (cI.F n r10.1).bind λr12=>
       if(0:Int)<=0/\(0:Int)<=t9/\t9<=(Js (bt (c::r)):Int)then
        if(Km r12 (JO (bt (c::r)) (Jt 0) (Jt t9)))=true then
         some (1,t9)
        else
         Kn ()
       else
        none
      else
       Kn ()
     else
      Kn ()
   else
    none) r [c] n (by simp;omega) hn
  simp only[Kw,Lg]at this;rw[show((1:Nat):Int)=1 from rfl]at this;rw[this];have hin:(0:Int)<=0/\(0:Int)<=((1+(r.takeWhile cY).length:Nat):Int)/\((1+(r.takeWhile cY).length:Nat):Int)<=(Js (bt (c::r)):Int):=by
   rw[ah,Jw];omega
  have hex:JO (bt (c::r)) (Jt 0) (Jt ((1+(r.takeWhile cY).length:Nat):Int))=bt (c::r.takeWhile cY):=by
   rw[gb,JS,show Jt 0=0 from rfl,JY,Nat.add_comm,htk]
  have hlen:((1+(r.takeWhile cY).length:Nat):Int)=(((c::r.takeWhile cY).length:Nat):Int):=by rw[Jw,Nat.add_comm]
  rw[ab hin,hex];unfold fa.F;rw[ab (by rw[ah,Jw];omega),eB];simp only[Jp,Bool.and_false,JI,if_false];rcases MD (c::r.takeWhile cY)with v|_|_
  ·dsimp only
   rw[ab (show(false==false)=true from rfl),GS];simp only[Jp]
   by_cases hr:-1000000<=v/\v<=1000000
   ·rw[ab (iX hr)]
    unfold cI.F;rw[ab (by omega)];simp only[Jp];rw[ab hin,IK,gz,hlen]
    by_cases he:KW v=c::r.takeWhile cY
    ·rw[ab (by simpa using he),ab ⟨hr.1,hr.2,he⟩]
    ·rw[ao (by simpa using he),ao (λh=>he h.2.2)]
   ·rw[ao (by simpa using hr),ao (λh=>hr ⟨h.1,h.2.1⟩)]
  ·rfl
  ·rfl
 rw[key]
 constructor
 ·rintro⟨x,h0,h1,hx⟩
  rw[hx,uo x h0 h1];dsimp only;rw[ab ⟨h0,h1,rfl⟩]
 ·intro hno
  rcases h:MD (c::r.takeWhile cY)with v|_|_
  ·dsimp only
   rw[ao];rintro⟨h0,h1,h2⟩;exact hno ⟨v,h0,h1,h2.symm⟩
  ·rfl
  ·rfl
def TR (l:List UInt8)(res:Int×Int):Prop:=res=(0,0)\/∃(k:Nat) (t rest:List UInt8),res=((k:Int),(t.length:Int))/\Tm k t/\l=t++rest
theorem oS (l:List UInt8)(p:Nat):JO (bt l) (Jt (p:Int)) (Jt (Js (bt l):Int))=bt (l.drop p):=by
 rw[gb,ah,JS,JS,List.take_length]
theorem xQ (n:Nat)(self:ByteArray->Option (Int×Int))(l:List UInt8)(K:Int->Option (Int×Int))(hl:l.length<=4294960000)
  (hS:∀l':List UInt8,l'.length<l.length->∃res,self (bt l')=some res/\TR l' res):∀(k p:Nat),p<l.length->l.length - p+1<=k->
  aH.l4 n self (bt l) K k (p:Int) true=some (0,0)\/∃(a:List UInt8) (bs:List (List UInt8)) (rest:List UInt8),l.drop (p+1)=a++(aC bs++rest)/\(∀x∈a::bs,∃k,Tm k x)/\
   aH.l4 n self (bt l) K k (p:Int) true=K ((p+1+(a++aC bs).length:Nat):Int)
 |0,p,_,hk=>by omega
 |k+1,p,hp,hk=>by
  have hlen:(l.drop (p+1)).length<l.length:=by rw[LV];omega
  obtain⟨res,hres,htr⟩:=hS _ hlen;have hw1:Ju.wrap ((p:Int)+1)=((p+1:Nat):Int):=by rw[aK _ (by omega) (by omega)];omega
  have hin:(0:Int)<=((p+1:Nat):Int)/\((p+1:Nat):Int)<=(Js (bt l):Int)/\(Js (bt l):Int)<=(Js (bt l):Int):=by rw[ah];omega
  have key:aH.l4 n self (bt l) K (k+1) (p:Int) true=
    (if decide (res.1=0)=true then some (0,0)else
     if(decide ((Ju.wrap ((p:Int)+(Ju.wrap (1+res.2))))<(Js (bt l):Int)))=true then
      if(0:Int)<=(Ju.wrap ((p:Int)+(Ju.wrap (1+res.2))))/\(Ju.wrap ((p:Int)+(Ju.wrap (1+res.2))))<(Js (bt l):Int)then
       aH.l4 n self (bt l) K k (Ju.wrap ((p:Int)+(Ju.wrap (1+res.2)))) (decide ((aP (bt l) (Ju.wrap ((p:Int)+(Ju.wrap (1+res.2)))))=44))
      else none
     else aH.l4 n self (bt l) K k (Ju.wrap ((p:Int)+(Ju.wrap (1+res.2)))) false):=by
   conv=>lhs;unfold aH.l4
   rw[ab rfl,hw1,ab hin,oS,hres]
   rfl
  rw[key];rcases htr with rfl|⟨kk,t,rest,rfl,ht,hdr⟩
  ·left;rw[ab (by simp)]
  ·have hkk:=ht.kind
   have htl:t.length+rest.length=l.length - (p+1):=by rw[← LV,hdr,Jx]
   have hw2:Ju.wrap ((p:Int)+(Ju.wrap (1+(t.length:Int))))=((p+1+t.length:Nat):Int):=by
    rw[aK (1+(t.length:Int)) (by omega) (by omega),aK _ (by omega) (by omega)];omega
   dsimp only;rw[ao (by simp;omega),hw2,ah];have stop:∀k',1<=k'->aH.l4 n self (bt l) K k' ((p+1+t.length:Nat):Int) false=K ((p+1+t.length:Nat):Int):=by
    intro k' hk';obtain⟨j,rfl⟩:∃j,k'=j+1:=⟨k' - 1,by omega⟩
    unfold aH.l4;rw[ao (by simp)]
   have fin:∀X,X=K ((p+1+t.length:Nat):Int)->X=some (0,0)\/∃(a:List UInt8) (bs:List (List UInt8)) (rest:List UInt8),l.drop (p+1)=a++(aC bs++rest)/\(∀x∈a::bs,∃k,Tm k x)/\
     X=K ((p+1+(a++aC bs).length:Nat):Int):=by
    rintro X rfl;refine .inr ⟨t,[],rest,by rw[hdr];rfl,λx hx=>?_,by simp[aC]⟩;simp only[Kb]at hx;subst hx;exact⟨kk,ht⟩
   have htne:=ht.ne;have htpos:0<t.length:=Ly.2 htne
   by_cases hlt:p+1+t.length<l.length
   ·rw[ab (by simp;omega),ab (by omega)]
    have hdrop:l.drop (p+1+t.length)=rest:=by rw[← LD,hdr,KL]
    cases rest with
    |nil=>rw[M3]at hdrop;omega
    |cons c r=>
     have hat:aP (bt l) ((p+1+t.length:Nat):Int)=(c.toNat:Int):=by
      rw[um]
      congr 2
      rw[Lm,← MW,hdrop]
      rfl
     rw[hat]
     by_cases hc:c=44
     ·subst hc
      rw[show decide ((((44:UInt8).toNat:Nat):Int)=44)=true from rfl];rcases xQ n self l K hl hS k (p+1+t.length) hlt (by omega)with h|⟨a,bs,rest2,h1,h2,h3⟩
      ·exact .inl h
      ·refine .inr ⟨t,a::bs,rest2,?_,λx hx=>?_,?_⟩
       ·have:r=a++(aC bs++rest2):=by
         rw[← h1,← LD,hdrop]
         rfl
        rw[hdr,this]
        simp[aC]
       ·rcases JX.1 hx with rfl|hx
        ·exact⟨kk,ht⟩
        ·exact h2 x hx
       ·rw[h3]
        congr 2
        simp[aC]
        omega
     ·have:decide ((c.toNat:Int)=44)=false:=by
       rw[vK];intro e;exact hc (LX.1 (show c.toNat=(44:UInt8).toNat by rw[show(44:UInt8).toNat=44 from rfl];omega))
      rw[this];exact fin _ (stop k (by omega))
   ·rw[ao (by simp;omega)]
    exact fin _ (stop k (by omega))
theorem qo (n:Nat)(self:ByteArray->Option (Int×Int))(K:Int->Option (Int×Int))(L:Nat)(hL:L<=4294960000):
  ∀(bs:List (List UInt8)) (a pre rest:List UInt8) (c:UInt8) (k:Nat),pre.length+1+(a++(aC bs++41::rest)).length=L->
   (∀x∈a::bs,∀r,xP r->x.length+r.length<L->∃kx:Nat,1<=kx/\self (bt (x++r))=some ((kx:Int),(x.length:Int)))->bs.length+2<=k->
   aH.l4 n self (bt (pre++c::(a++(aC bs++41::rest)))) K k (pre.length:Int) true=K ((pre.length+1+(a++aC bs).length:Nat):Int)
 |bs,a,pre,rest,c,0,_,_,hk=>by omega
 |bs,a,pre,rest,c,k+1,hlen,hC,hk=>by
  have hstop:xP (aC bs++41::rest):=by
   cases bs with
   |nil=>exact .inr ⟨_,_,rfl,.inr rfl⟩
   |cons b bs=>exact .inr ⟨_,_,rfl,.inl rfl⟩
  simp only[Jx,Jw]at hlen;obtain⟨kx,hkx,hself⟩:=hC a JN _ hstop (by simp only[Jx,Jw];omega);have hsz:Js (bt (pre++c::(a++(aC bs++41::rest))))=L:=by
   rw[ah];simp only[Jx,Jw];omega
  have hw1:Ju.wrap ((pre.length:Int)+1)=((pre.length+1:Nat):Int):=by rw[aK _ (by omega) (by omega)];omega
  have hdr:(pre++c::(a++(aC bs++41::rest))).drop (pre.length+1)=a++(aC bs++41::rest):=by
   rw[← LD,KL];rfl
  have hw2:Ju.wrap ((pre.length:Int)+(Ju.wrap (1+(a.length:Int))))=((pre.length+1+a.length:Nat):Int):=by
   rw[aK (1+(a.length:Int)) (by omega) (by omega),aK _ (by omega) (by omega)];omega
  have hat:∀(d:UInt8) (r:List UInt8),aC bs++41::rest=d::r->aP (bt (pre++c::(a++(aC bs++41::rest)))) ((pre.length+1+a.length:Nat):Int)=(d.toNat:Int):=by
   intro d r he;have e1:pre++c::(a++(aC bs++41::rest))=(pre++c::a)++d::r:=by rw[he];simp
   have e2:pre.length+1+a.length=(pre++c::a).length:=by simp;omega
   rw[e1,e2,eu]
  unfold aH.l4;rw[ab rfl,hw1,ab (by rw[hsz];omega),oS,hdr,hself];simp only[Jp];rw[ao (by simp;omega),hw2,ab (by rw[hsz];simp;omega),ab (by rw[hsz];omega)];cases bs with
  |nil=>
   rw[hat 41 rest rfl,show decide ((((41:UInt8).toNat:Nat):Int)=44)=false from rfl];obtain⟨j,rfl⟩:∃j,k=j+1:=⟨k - 1,by simp at hk;omega⟩
   unfold aH.l4;rw[ao (by simp)]
   simp[aC]
  |cons b bs=>
   rw[hat 44 _ rfl,show decide ((((44:UInt8).toNat:Nat):Int)=44)=true from rfl];have e1:pre++c::(a++(aC (b::bs)++41::rest))=(pre++c::a)++44::(b++(aC bs++41::rest)):=by simp[aC]
   have e2:pre.length+1+a.length=(pre++c::a).length:=by simp;omega
   rw[e1,e2,qo n self K L hL bs b (pre++c::a) rest 44 k (by simp only[aC,Jx,Jw]at hlen⊢;omega)
    (λx hx=>hC x (JR _ hx)) (by simp at hk;omega)]
   congr 2
   simp[aC]
   omega
theorem nh:cY 44=false/\cY 41=false/\dt 44=false/\dt 41=false/\dt 40=false:=by decide
theorem GU (n:Nat)(self:ByteArray->Option (Int×Int))(c:UInt8)(r:List UInt8)(hc:c=45\/cY c=true):
  aH.G n self (bt (c::r))=aH.j0 n self (bt (c::r)) true (λ_=>some (0,0)):=by
 have hsz:0<(Js (bt (c::r)):Int):=by rw[ah];simp<;>omega
 unfold aH.G;rw[iB,gz,ao (by simp),ab ⟨by omega,hsz⟩,iw];have h34:¬(c.toNat:Int)=34:=by
  rcases hc with rfl|hc
  ·decide
  ·unfold cY at hc
   have:=of_decide_eq_true hc;omega
 rw[ao (by simpa using h34),ab ⟨by omega,hsz⟩];rcases hc with rfl|hc
 ·rw[ao (by decide)]
 ·have h45:¬(c.toNat:Int)=45:=by
   unfold cY at hc;have:=of_decide_eq_true hc;omega
  rw[ab (by simpa using h45),ab ⟨by omega,hsz⟩,iN,hc]
  rfl
theorem GV (n:Nat)(self:ByteArray->Option (Int×Int))(r:List UInt8)(hl:r.length<=4294960000)(hn:r.length+1<=n):
  aH.G n self (bt (34::r))=some (if(r.takeWhile eU).length<=20/\r[(r.takeWhile eU).length]? =some 34 then(2,(((r.takeWhile eU).length+2:Nat):Int))else(0,0)):=by
 have hsz:0<(Js (bt (34::r)):Int):=by rw[ah];simp<;>omega
 unfold aH.G;rw[iB,gz,ao (by simp),ab ⟨by omega,hsz⟩,iw,ab (by decide),nN n 34 r (by omega) hn];simp only[Jp]
 by_cases h:(r.takeWhile eU).length<=20/\r[(r.takeWhile eU).length]? =some 34
 ·rw[ab h,ab h,ab (by simp;omega)]
 ·rw[ao h,ao h,ao (by simp)]
theorem E7 (n:Nat)(self:ByteArray->Option (Int×Int))(c:UInt8)(r:List UInt8)(hc:kC c=true)(hl:r.length<=4294960000)(hn:r.length+2<=n):
  aH.G n self (bt (c::r))=
   (if 20<((c::r).takeWhile dt).length then some (0,0)else match(c::r).drop ((c::r).takeWhile dt).length with
    |[]=>some (3,(((c::r).takeWhile dt).length:Int))
    |d::t=>if d=40 then aH.j3 n self (bt (c::r)) (((c::r).takeWhile dt).length:Int) (λ_=>some (0,0))else some (3,(((c::r).takeWhile dt).length:Int))):=by
 have hsz:0<(Js (bt (c::r)):Int):=by rw[ah];simp<;>omega
 have hc':=hc;unfold kC at hc';have hc':=of_decide_eq_true hc';have hdg:cY c=false:=by unfold cY;exact dq (by omega)
 have hlt:kD c=true:=by unfold kD;rw[hc];simp
 unfold aH.G;rw[iB,gz,ao (by simp),ab ⟨by omega,hsz⟩,iw,ao (by simp;omega),ab ⟨by omega,hsz⟩,ab (by simp;omega),ab ⟨by omega,hsz⟩,iN,hdg];simp only[Jp];unfold aH.j0;rw[ao (by simp),ab ⟨by omega,hsz⟩,iw,ab (by simp;omega),ab ⟨by omega,hsz⟩,iX (by omega:(c.toNat:Int)<=90)];unfold aH.j2;rw[ab rfl,ng n (c::r) (by simp;omega) (by simp;omega)];dsimp only[Jp];rw[hlt,ab rfl];generalize hw:((c::r).takeWhile dt).length=w;have hwle:w<=(c::r).length:=by rw[← hw];exact(Lw dt).length_le
 simp only[Jw]at hwle
 by_cases h20:20<w
 ·rw[ab h20,ab (by simp;omega)]
 ·rw[ao h20,ao (by simp;omega),ah]
  cases hd:(c::r).drop w with
  |nil=>
   have:=M3.1 hd;rw[ao];simp only[Jw]at this⊢
   simp
   omega
  |cons d t=>
   have hlen:=congrArg Jr hd;rw[LV]at hlen;simp only[Jw]at hlen;have hat:aP (bt (c::r)) (w:Int)=(d.toNat:Int):=by
    rw[um,Lm,← MW,hd]
    rfl
   rw[ab (by simp only[Jw,vK];omega),ab (by simp only[Jw];omega),hat];dsimp only
   by_cases h40:d=40
   ·subst h40
    rw[ao (by decide),ab rfl]
   ·rw[ao h40,ab]
    simp only[L0,vK];intro e;exact h40 (LX.1 (show d.toNat=(40:UInt8).toNat by rw[show(40:UInt8).toNat=40 from rfl];omega))
theorem FX (n:Nat)(self:ByteArray->Option (Int×Int))(c:UInt8)(r:List UInt8)(h1:¬c=34)(h2:¬c=45)(h3:cY c=false)(h4:kC c=false):
  aH.G n self (bt (c::r))=some (0,0):=by
 have hsz:0<(Js (bt (c::r)):Int):=by rw[ah];simp<;>omega
 have n1:¬(c.toNat:Int)=34:=λe=>h1 (LX.1 (show c.toNat=(34:UInt8).toNat by rw[show(34:UInt8).toNat=34 from rfl];omega))
 have n2:¬(c.toNat:Int)=45:=λe=>h2 (LX.1 (show c.toNat=(45:UInt8).toNat by rw[show(45:UInt8).toNat=45 from rfl];omega))
 unfold kC at h4;have h4:=of_decide_eq_false h4;unfold aH.G;rw[iB,gz,ao (by simp),ab ⟨by omega,hsz⟩,iw,ao (by simpa using n1),ab ⟨by omega,hsz⟩,ab (by simpa using n2),ab ⟨by omega,hsz⟩,iN,h3];simp only[Jp];unfold aH.j0;rw[ao (by simp),ab ⟨by omega,hsz⟩,iw]
 by_cases h65:(c.toNat:Int)>=65
 ·rw[ab (by simpa using h65),ab ⟨by omega,hsz⟩]
  unfold aH.j2;rw[ao (by simp;omega)]
 ·rw[ao (by simpa using h65)]
  unfold aH.j2;rw[ao (by simp)]
theorem ni (p:UInt8->Bool)(l:List UInt8):l=l.takeWhile p++l.drop (l.takeWhile p).length:=by
 have:=(NX.1 (Lw (l:=l) p))
 conv=>lhs;rw[← List.take_append_drop (l.takeWhile p).length l]
 rw[← this]
theorem vD (p:UInt8->Bool)(l:List UInt8):(l.takeWhile p).all p=true:=by
 induction l with
 |nil=>rfl
 |cons c r ih=>
  rw[Ke];rcases nd (p c)with h|h
  ·simp[h]
  ·simp only[h,if_true,KB,ih,Bool.and_self]
theorem FY {c:UInt8}{r:List UInt8}(hc:kC c=true)(h:¬20<((c::r).takeWhile dt).length):fO ((c::r).takeWhile dt)=true:=by
 have hw:dt c=true:=by unfold dt kD;rw[hc];simp
 unfold fO;rw[vD];rw[Ke,hw,ab rfl]at h⊢;simp only[Jw]at h⊢
 simp[hc]
 omega
theorem o8 (n:Nat)(s:ByteArray):aH.F (n+1) s=aH.G n (aH.F n) s:=rfl
theorem vE:∀(L:Nat) (l:List UInt8) (n:Nat),l.length<=L->L<=4294960000->l.length+60<=n->∃res,aH.F n (bt l)=some res/\TR l res:=by
 intro L
 induction L with
 |zero=>
  intro l n hl _ hn;obtain⟨n,rfl⟩:∃m,n=m+1:=⟨n - 1,by omega⟩
  have:l=[]:=Kv.1 (by omega);subst this;rw[o8];unfold aH.G;rw[iB,gz,ab (by simp)];exact⟨_,rfl,.inl rfl⟩
 |succ L ih=>
  intro l n hl hL hn;obtain⟨n,rfl⟩:∃m,n=m+1:=⟨n - 1,by omega⟩
  cases l with
  |nil=>
   rw[o8];unfold aH.G;rw[iB,gz,ab (by simp)];exact⟨_,rfl,.inl rfl⟩
  |cons c r=>
   simp only[Jw]at hl hn;rw[o8]
   by_cases hq:c=34
   ·subst hq
    rw[GV n _ r (by omega) (by omega)];refine⟨_,rfl,?_⟩
    by_cases h:(r.takeWhile eU).length<=20/\r[(r.takeWhile eU).length]? =some 34
    ·rw[ab h]
     have hs:=ni eU r;cases hd:r.drop (r.takeWhile eU).length with
     |nil=>
      have h2:=h.2;rw[← MW,hd]at h2;cases h2
     |cons d t=>
      have h2:=h.2;rw[← MW,hd]at h2;cases h2;rw[hd]at hs;refine .inr ⟨2,34::(r.takeWhile eU++[34]),t,?_,Tm.sym _ h.1 (vD _ _),?_⟩
      ·congr 1
       simp only[Jw,Jx,JB]
      ·conv=>lhs;rw[hs]
       simp
    ·rw[ao h];exact .inl rfl
   ·by_cases hnum:c=45\/cY c=true
    ·rw[GU n _ c r hnum]
     obtain⟨h1,h2⟩:=E6 n (aH.F n) c r (λ_=>some (0,0)) (by omega) (by omega)
     by_cases hN:lz (c::r.takeWhile cY)
     ·rw[h1 hN]
      obtain⟨x,hx0,hx1,hx⟩:=hN;refine⟨_,rfl,.inr ⟨1,c::r.takeWhile cY,r.drop (r.takeWhile cY).length,rfl,?_,?_⟩⟩
      ·rw[hx];exact Tm.num x hx0 hx1
      ·rw[Lc,← ni]
     ·rw[h2 hN]
      exact⟨_,rfl,.inl rfl⟩
    ·by_cases hb:kC c=true
     ·rw[E7 n _ c r hb (by omega) (by omega)]
      by_cases h20:20<((c::r).takeWhile dt).length
      ·rw[ab h20];exact⟨_,rfl,.inl rfl⟩
      ·rw[ao h20]
       have hnm:=FY hb h20;have hs:=ni dt (c::r);have hwle:((c::r).takeWhile dt).length<=(c::r).length:=(Lw dt).length_le;cases hd:(c::r).drop ((c::r).takeWhile dt).length with
       |nil=>
        rw[hd,KA]at hs;dsimp only;refine⟨_,rfl,.inr ⟨3,(c::r).takeWhile dt,[],rfl,Tm.con0 _ hnm,?_⟩⟩;rw[KA];exact hs
       |cons d t=>
        dsimp only
        by_cases h40:d=40
        ·subst h40
         rw[ab rfl];unfold aH.j3;have hdl:=congrArg Jr hd;rw[LV]at hdl;simp only[Jw]at hdl;have hlt:((c::r).takeWhile dt).length<(c::r).length:=by simp only[Jw];omega
         rcases xQ n (aH.F n) (c::r) (λt22=>
           if(decide (t22<(Js (bt (c::r)):Int)))=true then
            if(0:Int)<=t22/\t22<(Js (bt (c::r)):Int)then
             if decide ((aP (bt (c::r)) t22)=41)=true then
              some (3,Ju.wrap (t22+1))
             else
              (λ_=>some (0,0)) ()
            else
             none
           else
            (λ_=>some (0,0)) ()) (by simp only[Jw];omega)
          (λl' hl'=>ih l' n (by simp only[Jw]at hl';omega) (by omega) (by simp only[Jw]at hl';omega)) n _ hlt (by simp only[Jw];omega)with h|⟨a,bs,rest,h1,h2,h3⟩
         ·exact⟨_,h,.inl rfl⟩
         ·rw[h3]
          dsimp only;have ht:t=a++(aC bs++rest):=by rw[← h1,← LD,hd];rfl
          have hfull:c::r=((c::r).takeWhile dt++40::(a++aC bs))++rest:=by
           conv=>lhs;rw[hs,hd,ht]
           simp
          have hlen2:((c::r).takeWhile dt).length+1+(a++aC bs).length=((c::r).takeWhile dt++40::(a++aC bs)).length:=by
           simp only[Jx,Jw];omega
          cases rest with
          |nil=>
           have hl2:=congrArg Jr hfull;rw[KA,← hlen2]at hl2;rw[ah,ao (by simp only[dg];omega)];exact⟨_,rfl,.inl rfl⟩
          |cons e u=>
           rw[hlen2];have hat:aP (bt (c::r)) ((((c::r).takeWhile dt++40::(a++aC bs)).length:Nat):Int)=(e.toNat:Int):=by
            conv=>lhs;arg 1;rw[hfull]
            exact eu _ _ _
           have hl3:((((c::r).takeWhile dt++40::(a++aC bs)).length:Nat):Int)<(Js (bt (c::r)):Int):=by
            rw[ah];have hl2:=congrArg Jr hfull;rw[Jx]at hl2;have h9:(e::u).length=u.length+1:=rfl;omega
           have hl4:((c::r).takeWhile dt++40::(a++aC bs)).length<=4294960000:=by
            rw[ah]at hl3;have hcr:(c::r).length<=4294960000:=by simp only[Jw];omega
            exact Nat.le_trans (Nat.le_of_lt (Int.ofNat_lt.1 hl3)) hcr
           rw[ab (iX hl3),ab ⟨by omega,hl3⟩,hat]
           by_cases h41:e=41
           ·subst h41
            rw[ab (by decide),aK _ (by omega) (by omega)];have hks:∃ks:List UInt8->Nat,∀x∈a::bs,Tm (ks x) x:=by
             classical
             refine⟨λx=>if h:∃k,Tm k x then h.choose else 0,λx hx=>?_⟩;have:=h2 x hx;show Tm (if h:∃k,Tm k x then h.choose else 0) x;rw[dif_pos this];exact this.choose_spec
            obtain⟨ks,hks⟩:=hks;refine⟨_,rfl,.inr ⟨3,(c::r).takeWhile dt++40::(a++(aC bs++[41])),u,?_,Tm.con _ a bs hnm ks hks,?_⟩⟩
            ·congr 1
             simp only[Jx,Jw,JB];omega
            ·conv=>lhs;rw[hfull]
             simp
           ·rw[ao]
            ·exact⟨_,rfl,.inl rfl⟩
            ·simp only[dg]
             intro he;exact h41 (LX.1 (show e.toNat=(41:UInt8).toNat by rw[show(41:UInt8).toNat=41 from rfl];omega))
        ·rw[ao h40]
         rw[hd]at hs;exact⟨_,rfl,.inr ⟨3,(c::r).takeWhile dt,d::t,rfl,Tm.con0 _ hnm,hs⟩⟩
     ·rw[FX n _ c r hq (λe=>hnum (.inl e)) (JV.2 (λe=>hnum (.inr e))) (JV.2 hb)]
      exact⟨_,rfl,.inl rfl⟩
theorem IL {rest:List UInt8}(h:xP rest):rest=[]\/∃c t,rest=c::t/\dt c=false:=AX nh.2.2.1 nh.2.2.2.1 h
theorem kE {k:Nat}{t:List UInt8}(h:Tm k t):∀(rest:List UInt8) (n:Nat),xP rest->t.length+rest.length<=4294960000->t.length+rest.length+60<=n->
  aH.F n (bt (t++rest))=some ((k:Int),(t.length:Int)):=by
 induction h with
 |num x h0 h1=>
  intro rest n hs hl hn;obtain⟨n,rfl⟩:∃m,n=m+1:=⟨n - 1,by omega⟩
  obtain⟨c,r,hc,hcd,hr⟩:=pR h0 h1;rw[hc]at hl hn;simp only[Jw]at hl hn;have htw:(r++rest).takeWhile cY=r:=iD hr (AX nh.1 nh.2.1 hs);rw[hc,o8,Lc,GU n _ c (r++rest) hcd,(E6 n _ c (r++rest) _ (by simp;omega) (by simp;omega)).1 (by rw[htw,← hc];exact⟨x,h0,h1,rfl⟩),htw]
  rfl
 |sym m h hp=>
  intro rest n hs hl hn;obtain⟨n,rfl⟩:∃m,n=m+1:=⟨n - 1,by omega⟩
  simp only[Jw,Jx,JB]at hl hn;have htw:((m++[34])++rest).takeWhile eU=m:=by
   rw[List.append_assoc];exact iD hp (.inr ⟨34,rest,rfl,by decide⟩)
  rw[o8,Lc,GV n _ _ (by simp;omega) (by simp;omega),htw,ab ⟨h,by simp⟩]
  congr 2
  simp only[Jw,Jx,JB]
 |con0 nm h=>
  intro rest n hs hl hn;obtain⟨n,rfl⟩:∃m,n=m+1:=⟨n - 1,by omega⟩
  obtain⟨c,r,rfl,hb,h20,hall⟩:=iO h;simp only[Jw]at hl hn h20;have htw:(c::(r++rest)).takeWhile dt=c::r:=iD (a:=c::r) hall (IL hs);rw[o8,Lc,E7 n _ c (r++rest) hb (by simp;omega) (by simp;omega),htw,ao (by simp;omega)];have hd:(c::(r++rest)).drop (c::r).length=rest:=by rw[← Lc,KL]
  rw[hd];rcases hs with rfl|⟨d,u,rfl,rfl|rfl⟩
  ·rfl
  ·rfl
  ·rfl
 |con nm a bs h ks hh ih=>
  intro rest n hs hl hn;obtain⟨n,rfl⟩:∃m,n=m+1:=⟨n - 1,by omega⟩
  obtain⟨c,r,rfl,hb,h20,hall⟩:=iO h;simp only[Jw,Jx,JB]at hl hn h20;have e1:(c::r++40::(a++(aC bs++[41])))++rest=c::(r++40::(a++(aC bs++41::rest))):=by simp
  have htw:(c::(r++40::(a++(aC bs++41::rest)))).takeWhile dt=c::r:=iD (a:=c::r) hall (.inr ⟨40,_,rfl,nh.2.2.2.2⟩);have hd:(c::(r++40::(a++(aC bs++41::rest)))).drop (c::r).length=40::(a++(aC bs++41::rest)):=by rw[← Lc,KL]
  rw[e1,o8,E7 n _ c _ hb (by simp;omega) (by simp;omega),htw,ao (by simp;omega),hd];dsimp only;rw[ab rfl];unfold aH.j3;have hbs:bs.length<=(aC bs).length:=by
   clear ih hh hl hn e1 htw hd
   induction bs with
   |nil=>simp
   |cons b bs ihb=>simp only[aC,Jw,Jx];omega
  have key:=qo n (aH.F n) (λt22=>
    if(decide (t22<(Js (bt (c::(r++40::(a++(aC bs++41::rest))))):Int)))=true then
     if(0:Int)<=t22/\t22<(Js (bt (c::(r++40::(a++(aC bs++41::rest))))):Int)then
      if decide ((aP (bt (c::(r++40::(a++(aC bs++41::rest))))) t22)=41)=true then
       some (3,Ju.wrap (t22+1))
      else
       (λ_=>some (0,0)) ()
     else
      none
    else
     (λ_=>some (0,0)) ()) (r.length+1+(1+(a.length+((aC bs).length+(1+rest.length))))) (by omega) bs a (c::r) rest 40 n
   (by simp only[Jx,Jw];omega)
   (λx hx r' hr' hlt=>⟨ks x,(hh x hx).kind.1,ih x hx r' n hr' (by omega) (by omega)⟩) (by omega)
  rw[Lc]at key;rw[key];dsimp only;have e2:c::(r++40::(a++(aC bs++41::rest)))=(c::r++40::(a++aC bs))++41::rest:=by simp
  have e3:(c::r).length+1+(a++aC bs).length=(c::r++40::(a++aC bs)).length:=by simp only[Jx,Jw];omega
  rw[e2,e3,ah,ab (iX (fC _ _ _)),ab (cF _ _ _),eu,ab (by decide),aK _ (by simp only[Jx,Jw];omega) (by simp only[Jx,Jw];omega)]
  congr 2
  simp only[Jx,Jw,JB];omega
def cN (b:UInt8):Bool:=!decide (b=40)
theorem lS {c d:UInt8}{v:Nat}(hd:d.toNat=v):(c.toNat:Int)=(v:Int)↔c=d:=by
 constructor
 ·intro h;exact LX.1 (by omega)
 ·rintro rfl;omega
theorem IZ (c:UInt8):decide ((c.toNat:Int)=34)=decide (c=34):=decide_eq_decide.2 (lS (d:=34) rfl)
theorem Jo (c:UInt8):decide ((c.toNat:Int)=40)=decide (c=40):=decide_eq_decide.2 (lS (d:=40) rfl)
theorem e41 (c:UInt8):decide ((c.toNat:Int)=41)=decide (c=41):=decide_eq_decide.2 (lS (d:=41) rfl)
theorem e44 (c:UInt8):decide ((c.toNat:Int)=44)=decide (c=44):=decide_eq_decide.2 (lS (d:=44) rfl)
theorem AZ (n:Nat)(K:Int->Option (ByteArray×(List ByteArray)×Bool)):∀(r pre:List UInt8) (k:Nat),(pre++r).length<=4294967296->r.length+1<=k->
  ay.l0 n (bt (pre++r)) K k (pre.length:Int)=K ((pre.length+(r.takeWhile cN).length:Nat):Int)
 |r,pre,0,_,hk=>by omega
 |[],pre,k+1,hl,hk=>by
  unfold ay.l0;rw[ah,ao (by simp)]
  rfl
 |c::r,pre,k+1,hl,hk=>by
  unfold ay.l0;rw[ah,ab (iX (fC pre r c)),ab (cF pre r c),eu,Jo,Ke]
  by_cases h:c=40
  ·have hn:cN c=false:=by simp[cN,h]
   rw[hn]
   simp[h]
  ·have hn:cN c=true:=by simp[cN,h]
   rw[hn,ab rfl,ab (by simpa using h)];simp only[Jx,Jw]at hl;rw[aK _ (by omega) (by omega),ia pre c,eR,AZ n K r (pre++[c]) k (by simp;omega) (by simpa using hk)]
   congr 2
   simp
   omega
section
variable (n:Nat) (t6:Int) (K:Unit->Option (ByteArray×(List ByteArray)×Bool))
theorem vF (pre r:List UInt8)(k:Nat)(d f:Int)(q:Bool)(out:List ByteArray)(hl:pre.length<=4294967296):
  ay.l1 n (bt (pre++34::r)) t6 K (k+1) d q f (pre.length:Int) out=ay.l1 n (bt (pre++34::r)) t6 K k d (!q) f ((pre.length+1:Nat):Int) out:=by
 conv=>lhs;unfold ay.l1
 rw[ah,ab (iX (fC pre r 34)),ab (cF pre r 34),eu,ab (by decide),aK _ (by omega) (by omega)]
 rfl
theorem xR (pre r:List UInt8)(c:UInt8)(k:Nat)(d f:Int)(out:List ByteArray)(hl:pre.length<=4294967296)(hc:c≠34):
  ay.l1 n (bt (pre++c::r)) t6 K (k+1) d true f (pre.length:Int) out=ay.l1 n (bt (pre++c::r)) t6 K k d true f ((pre.length+1:Nat):Int) out:=by
 conv=>lhs;unfold ay.l1
 rw[ah,ab (iX (fC pre r c)),ab (cF pre r c),eu,IZ,ao (by simpa using hc),ab rfl,aK _ (by omega) (by omega)]
 rfl
theorem zJ (pre r:List UInt8)(k:Nat)(d f:Int)(out:List ByteArray)(hl:pre.length<=4294967296)(hd:-4611686018427387900<=d/\d<=4611686018427387900):
  ay.l1 n (bt (pre++40::r)) t6 K (k+1) d false f (pre.length:Int) out=ay.l1 n (bt (pre++40::r)) t6 K k (d+1) false f ((pre.length+1:Nat):Int) out:=by
 conv=>lhs;unfold ay.l1
 rw[ah,ab (iX (fC pre r 40)),ab (cF pre r 40),eu,ao (by decide),ao (by simp),ab (cF pre r 40),ab (by decide),aK _ (by omega) (by omega),aK _ (by omega) (by omega)]
 rfl
theorem B0 (pre r:List UInt8)(k:Nat)(d f:Int)(out:List ByteArray)(hl:pre.length<=4294967296)(hd:-4611686018427387900<=d/\d<=4611686018427387900)(h1:d≠1):
  ay.l1 n (bt (pre++41::r)) t6 K (k+1) d false f (pre.length:Int) out=ay.l1 n (bt (pre++41::r)) t6 K k (d - 1) false f ((pre.length+1:Nat):Int) out:=by
 conv=>lhs;unfold ay.l1
 rw[ah,ab (iX (fC pre r 41)),ab (cF pre r 41),eu,ao (by decide),ao (by simp),ab (cF pre r 41),ao (by decide),ab (cF pre r 41),ab (by decide),aK (d - 1) (by omega) (by omega),
  ao (by simp;omega),aK _ (by omega) (by omega)]
 rfl
theorem B1 (pre r:List UInt8)(k:Nat)(d f:Int)(out:List ByteArray)(hl:pre.length<=4294967296)(h1:d≠1):
  ay.l1 n (bt (pre++44::r)) t6 K (k+1) d false f (pre.length:Int) out=ay.l1 n (bt (pre++44::r)) t6 K k d false f ((pre.length+1:Nat):Int) out:=by
 conv=>lhs;unfold ay.l1
 rw[ah,ab (iX (fC pre r 44)),ab (cF pre r 44),eu,ao (by decide),ao (by simp),ab (cF pre r 44),ao (by decide),ab (cF pre r 44),ao (by decide),ab (cF pre r 44),ab (by decide),
  ao (by simp;omega),aK _ (by omega) (by omega)]
 rfl
theorem E8 (pre r:List UInt8)(c:UInt8)(k:Nat)(d f:Int)(out:List ByteArray)(hl:pre.length<=4294967296)(h1:c≠34)(h2:c≠40)(h3:c≠41)(h4:c≠44):
  ay.l1 n (bt (pre++c::r)) t6 K (k+1) d false f (pre.length:Int) out=ay.l1 n (bt (pre++c::r)) t6 K k d false f ((pre.length+1:Nat):Int) out:=by
 conv=>lhs;unfold ay.l1
 rw[ah,ab (iX (fC pre r c)),ab (cF pre r c),eu,IZ,Jo,e41,e44,ao (by simpa using h1),ao (by simp),ab (cF pre r c),ao (by simpa using h2),ab (cF pre r c),ao (by simpa using h3),ab (cF pre r c),
  ao (by simpa using h4),aK _ (by omega) (by omega)]
 rfl
theorem nj (l:List UInt8)(f i:Nat):JO (bt l) (Jt (f:Int)) (Jt (i:Int))=bt ((l.take i).drop f):=by
 rw[gb,JS,JS]
theorem B2 (pre r:List UInt8)(k f:Nat)(out:List ByteArray)(hl:pre.length<=4294967290)(hf:f<=pre.length)(ho:out.length<=pre.length):
  ay.l1 n (bt (pre++44::r)) t6 K (k+1) 1 false (f:Int) (pre.length:Int) out=ay.l1 n (bt (pre++44::r)) t6 K k 1 false ((pre.length+1:Nat):Int) ((pre.length+1:Nat):Int) (out++[bt (pre.drop f)]):=by
 conv=>lhs;unfold ay.l1
 have h1:(0:Int)<=(f:Int)/\(f:Int)<=(pre.length:Int)/\(pre.length:Int)<=((pre++44::r).length:Int):=⟨by omega,by omega,by have:=fC pre r 44;omega⟩;have h2:∀x:ByteArray,Jr out+Jr [x]<=aT:=λx=>by unfold aT;simp only[Kw];omega
 rw[ah,ab (iX (fC pre r 44)),ab (cF pre r 44),eu,ao (by decide),ao (by simp),ab (cF pre r 44),ao (by decide),ab (cF pre r 44),ao (by decide),ab (cF pre r 44),ab (by decide),
  ab (by simp),ab h1,ab (h2 _),aK _ (by omega) (by omega),nj,Lf]
 rfl
theorem GW (pre r:List UInt8)(k f a:Nat)(ha:t6=(a:Int))(out:List ByteArray)(hl:(pre++41::r).length<=4294967290)(hf:f<=pre.length)(hal:a<=pre.length)(ho:out.length<=pre.length):
  ay.l1 n (bt (pre++41::r)) t6 K (k+1) 1 false (f:Int) (pre.length:Int) out=some (bt (pre.take a),out++[bt (pre.drop f)],decide (r=[])):=by
 subst ha;have hlt:=fC pre r 41
 conv=>lhs;unfold ay.l1
 have h0:(0:Int)<=0/\(0:Int)<=(a:Int)/\(a:Int)<=((pre++41::r).length:Int):=⟨by omega,by omega,by omega⟩;have h1:(0:Int)<=(f:Int)/\(f:Int)<=(pre.length:Int)/\(pre.length:Int)<=((pre++41::r).length:Int):=⟨by omega,by omega,by omega⟩;have h2:∀x:ByteArray,Jr out+Jr [x]<=aT:=λx=>by unfold aT;simp only[Kw];omega
 rw[ah,ab (iX hlt),ab (cF pre r 41),eu,ao (by decide),ao (by simp),ab (cF pre r 41),ao (by decide),ab (cF pre r 41),ab (by decide),ab (by decide),ab h0,ab h1,ab (h2 _),
  nj,Lf,aK _ (by omega) (by omega)]
 rw[show Jt 0=Jt ((0:Nat):Int)from rfl,nj,JY,Mq hal]
 congr 4
 apply propext
 constructor
 ·intro h
  cases r with
  |nil=>rfl
  |cons x r=>simp only[Jx,Jw]at h;omega
 ·rintro rfl
  simp only[Jx,Jw,JB];omega
theorem sL (a:Nat)(ha:t6=(a:Int))(hK:K ()=some (Jq,[],false)):∀(r pre:List UInt8) (k:Nat) (d:Int) (q:Bool) (f:Nat) (out:List ByteArray),(pre++r).length<=4294967290->r.length+1<=k->
  (-(4294967296:Int)<=d - r.length/\d+r.length<=4294967296*4)->f<=pre.length+(if pre.length=a then 1 else 0)->a<=pre.length->out.length<=pre.length->(pre.length=a->d=0/\q=false/\∃r',r=40::r')->
  ∃x ys ok,ay.l1 n (bt (pre++r)) t6 K k d q (f:Int) (pre.length:Int) out=some (x,ys,ok)/\
   (ok=true->x=bt ((pre++r).take a)/\∃(p:List UInt8) (bs:List (List UInt8)),ys=out++(p::bs).map bt/\(pre++r).drop f=p++(aC bs++[41]))
 |r,pre,0,_,_,_,_,_,hk,_,_,_,_,_=>by omega
 |[],pre,k+1,d,q,f,out,hl,hk,hd,hf,hal,ho,hst=>by
  unfold ay.l1;rw[ah,ao (by simp),hK];exact⟨_,_,_,rfl,λh=>by cases h⟩
 |c::r,pre,k+1,d,q,f,out,hl,hk,hd,hf,hal,ho,hst=>by
  have hk':r.length+1<=k:=by simpa using hk
  have hpl:pre.length+(r.length+1)<=4294967290:=by simpa using hl
  have hl':((pre++[c])++r).length<=4294967290:=by rw[← eR];exact hl
  have hp1:(pre++[c]).length=pre.length+1:=by simp
  have hne:¬(pre++[c]).length=a:=by omega
  simp only[Jw]at hd;have go:∀(d':Int) (q':Bool) (f':Nat) (out':List ByteArray),(-(4294967296:Int)<=d' - r.length/\d'+r.length<=4294967296*4)->f'<=pre.length+1->out'.length<=pre.length+1->
    ∃x ys ok,ay.l1 n (bt (pre++c::r)) t6 K k d' q' (f':Int) ((pre.length+1:Nat):Int) out'=some (x,ys,ok)/\
     (ok=true->x=bt ((pre++c::r).take a)/\∃(p:List UInt8) (bs:List (List UInt8)),ys=out'++(p::bs).map bt/\(pre++c::r).drop f'=p++(aC bs++[41])):=by
   intro d' q' f' out' h1 h2 h3;have:=sL a ha hK r (pre++[c]) k d' q' f' out' hl' hk' h1 (by rw[ao hne,hp1];omega) (by omega) (by omega) (λh=>bH h hne);rw[← eR,hp1]at this;exact this
  have hfb:f<=pre.length+1:=by split at hf<;>omega
  by_cases h34:c=34
  ·subst h34
   rw[vF n t6 K pre r k d f q out (by omega)];exact go _ _ _ _ ⟨by omega,by omega⟩ hfb (by omega)
  ·cases q with
   |true=>
    rw[xR n t6 K pre r c k d f out (by omega) h34];exact go _ _ _ _ ⟨by omega,by omega⟩ hfb (by omega)
   |false=>
    by_cases h40:c=40
    ·subst h40
     rw[zJ n t6 K pre r k d f out (by omega) ⟨by omega,by omega⟩];exact go _ _ _ _ ⟨by omega,by omega⟩ hfb (by omega)
    ·have hpa:pre.length≠a:=by
      intro h;obtain⟨_,_,r',hr'⟩:=hst h;cases hr';exact h40 rfl
     rw[ao hpa]at hf
     by_cases h41:c=41
     ·subst h41
      by_cases hd1:d=1
      ·subst hd1
       rw[GW n t6 K pre r k f a ha out hl (by omega) hal ho];refine⟨_,_,_,rfl,λh=>?_⟩;have hr:r=[]:=of_decide_eq_true h;subst hr;refine⟨by rw[Mq hal],pre.drop f,[],by simp,?_⟩;rw[NA (by omega)]
       rfl
      ·rw[B0 n t6 K pre r k d f out (by omega) ⟨by omega,by omega⟩ hd1]
       exact go _ _ _ _ ⟨by omega,by omega⟩ hfb (by omega)
     ·by_cases h44:c=44
      ·subst h44
       by_cases hd1:d=1
       ·subst hd1
        rw[B2 n t6 K pre r k f out (by omega) (by omega) ho];obtain⟨x,ys,ok,h1,h2⟩:=go 1 false (pre.length+1) (out++[bt (pre.drop f)]) ⟨by omega,by omega⟩ (by omega) (by simp;omega);refine⟨x,ys,ok,h1,λh=>?_⟩;obtain⟨hx,p,bs,hys,hdr⟩:=h2 h;refine⟨hx,pre.drop f,p::bs,by rw[hys];simp,?_⟩;rw[NA (by omega)];have:(pre++44::r).drop (pre.length+1)=r:=by rw[← LD,KL];rfl
        rw[this]at hdr;rw[hdr]
        simp[aC]
       ·rw[B1 n t6 K pre r k d f out (by omega) hd1]
        exact go _ _ _ _ ⟨by omega,by omega⟩ hfb (by omega)
      ·rw[E8 n t6 K pre r c k d f out (by omega) h34 h40 h41 h44]
       exact go _ _ _ _ ⟨by omega,by omega⟩ hfb (by omega)
end
def us (b:UInt8):Bool:=decide (b≠34/\b≠40/\b≠41/\b≠44)
theorem ut {b:UInt8}(h:dt b=true):us b=true:=by
 unfold us;apply iX;refine⟨?_,?_,?_,?_⟩<;>(rintro rfl;revert h;decide)
theorem sM {b:UInt8}(h:cY b=true):us b=true:=ut (by unfold dt;rw[h];simp)
theorem sN {l:List UInt8}(h:l.all dt=true):l.all us=true:=by
 rw[Kf]at h⊢;exact λb hb=>ut (h b hb)
section
variable (n:Nat) (t6:Int) (K:Unit->Option (ByteArray×(List ByteArray)×Bool)) (l:List UInt8) (hl:l.length<=4294967290)
include hl
theorem nA:∀(m pre rest:List UInt8) (j:Nat) (d f:Int) (out:List ByteArray),m.all us=true->l=pre++(m++rest)->
  ay.l1 n (bt l) t6 K (j+m.length) d false f (pre.length:Int) out=ay.l1 n (bt l) t6 K j d false f ((pre.length+m.length:Nat):Int) out
 |[],pre,rest,j,d,f,out,_,_=>rfl
 |c::m,pre,rest,j,d,f,out,hm,he=>by
  rw[KB,Jz]at hm;obtain⟨h1,h2,h3,h4⟩:=of_decide_eq_true hm.1;have e1:l=pre++c::(m++rest):=he;have hpl:pre.length<=4294967296:=by rw[e1]at hl;simp at hl;omega
  rw[show j+(c::m).length=(j+m.length)+1 from by simp;omega]
  conv=>lhs;rw[e1,E8 n t6 K pre (m++rest) c (j+m.length) d f out hpl h1 h2 h3 h4,← e1]
  have:=nA m (pre++[c]) rest j d f out hm.2 (by rw[e1];simp);rw[show(pre++[c]:List UInt8).length=pre.length+1 by simp<;>omega]at this;rw[this]
  congr 2
  simp
  omega
theorem qp:∀(m pre rest:List UInt8) (j:Nat) (d f:Int) (out:List ByteArray),m.all eU=true->l=pre++(m++rest)->
  ay.l1 n (bt l) t6 K (j+m.length) d true f (pre.length:Int) out=ay.l1 n (bt l) t6 K j d true f ((pre.length+m.length:Nat):Int) out
 |[],pre,rest,j,d,f,out,_,_=>rfl
 |c::m,pre,rest,j,d,f,out,hm,he=>by
  rw[KB,Jz]at hm;have h1:c≠34:=by rintro rfl;exact bH hm.1 (by decide)
  have e1:l=pre++c::(m++rest):=he;have hpl:pre.length<=4294967296:=by rw[e1]at hl;simp at hl;omega
  rw[show j+(c::m).length=(j+m.length)+1 from by simp;omega]
  conv=>lhs;rw[e1,xR n t6 K pre (m++rest) c (j+m.length) d f out hpl h1,← e1]
  have:=qp m (pre++[c]) rest j d f out hm.2 (by rw[e1];simp);rw[show(pre++[c]:List UInt8).length=pre.length+1 by simp<;>omega]at this;rw[this]
  congr 2
  simp
  omega
def zK (t:List UInt8):Prop:=∀(pre rest:List UInt8) (j:Nat) (d f:Int) (out:List ByteArray),1<=d->d+t.length<=4294967296*4->l=pre++(t++rest)->
  ay.l1 n (bt l) t6 K (j+t.length) d false f (pre.length:Int) out=ay.l1 n (bt l) t6 K j d false f ((pre.length+t.length:Nat):Int) out
theorem qq:∀(bs:List (List UInt8)),(∀x∈bs,zK n t6 K l x)->∀(pre rest:List UInt8) (j:Nat) (d f:Int) (out:List ByteArray),2<=d->d+(aC bs).length<=4294967296*4->l=pre++(aC bs++rest)->
  ay.l1 n (bt l) t6 K (j+(aC bs).length) d false f (pre.length:Int) out=ay.l1 n (bt l) t6 K j d false f ((pre.length+(aC bs).length:Nat):Int) out
 |[],_,pre,rest,j,d,f,out,_,_,_=>rfl
 |b::bs,hb,pre,rest,j,d,f,out,hd,hd2,he=>by
  simp only[aC,Jw,Jx]at hd2;have e1:l=pre++44::(b++(aC bs++rest)):=by rw[he];simp[aC]
  have e2:l=(pre++[44])++(b++(aC bs++rest)):=by rw[e1];simp
  have e3:l=(pre++[44]++b)++(aC bs++rest):=by rw[e1];simp
  have hpl:pre.length<=4294967296:=by rw[e1]at hl;simp at hl;omega
  rw[show j+(aC (b::bs)).length=(j+(aC bs).length+b.length)+1 from by simp only[aC,Jw,Jx];omega]
  conv=>lhs;rw[e1,B1 n t6 K pre (b++(aC bs++rest)) (j+(aC bs).length+b.length) d f out hpl (by omega),← e1]
  have s1:=hb b JN (pre++[44]) (aC bs++rest) (j+(aC bs).length) d f out (by omega) (by omega) e2;rw[show(pre++[44]:List UInt8).length=pre.length+1 by simp<;>omega]at s1;rw[s1];have s2:=qq bs (λx hx=>hb x (JR _ hx)) (pre++[44]++b) rest j d f out hd (by omega) e3;rw[show(pre++[44]++b:List UInt8).length=pre.length+1+b.length by simp<;>omega]at s2;rw[s2]
  congr 2
  simp only[aC,Jw,Jx];omega
theorem G0 {k:Nat}{t:List UInt8}(h:Tm k t):zK n t6 K l t:=by
 induction h with
 |num x h0 h1=>
  obtain⟨c,r,hc,hcd,hr⟩:=pR h0 h1;intro pre rest j d f out hd hd2 he;refine nA n t6 K l hl _ pre rest j d f out ?_ he;rw[hc,KB];have:us c=true:=by
   rcases hcd with rfl|h
   ·decide
   ·exact sM h
  rw[this,KD,Kf];intro b hb;rw[Kf]at hr;exact sM (hr b hb)
 |sym m h hp=>
  intro pre rest j d f out hd hd2 he;have e1:l=pre++34::(m++34::rest):=by rw[he];simp
  have e2:l=(pre++[34])++(m++34::rest):=by rw[e1];simp
  have e3:l=(pre++[34]++m)++34::rest:=by rw[e1];simp
  have hpl:pre.length+m.length+2<=4294967290:=by rw[e1]at hl;simp at hl;omega
  rw[show j+(34::(m++[34]):List UInt8).length=(j+1+m.length)+1 from by simp;omega]
  conv=>lhs;rw[e1,vF n t6 K pre _ (j+1+m.length) d f false out (by omega),← e1]
  have s1:=qp n t6 K l hl m (pre++[34]) (34::rest) (j+1) d f out hp e2;rw[show(pre++[34]:List UInt8).length=pre.length+1 by simp<;>omega]at s1;rw[show(!false)=true from rfl,s1];have s2:=vF n t6 K (pre++[34]++m) rest j d f true out (by simp;omega);rw[← e3,show(pre++[34]++m:List UInt8).length=pre.length+1+m.length by simp<;>omega]at s2;rw[s2]
  congr 2
  simp
  omega
 |con0 nm h=>
  obtain⟨c,r,hc,_,_,hall⟩:=iO h;intro pre rest j d f out hd hd2 he;exact nA n t6 K l hl _ pre rest j d f out (sN hall) he
 |con nm a bs h ks hh ih=>
  obtain⟨c,r,hc,_,_,hall⟩:=iO h;intro pre rest j d f out hd hd2 he;simp only[Jx,Jw,JB]at hd2;have e1:l=pre++(nm++40::(a++(aC bs++41::rest))):=by rw[he];simp
  have e2:l=(pre++nm)++40::(a++(aC bs++41::rest)):=by rw[e1];simp
  have e3:l=(pre++nm++[40])++(a++(aC bs++41::rest)):=by rw[e1];simp
  have e4:l=(pre++nm++[40]++a)++(aC bs++41::rest):=by rw[e1];simp
  have e5:l=(pre++nm++[40]++a++aC bs)++41::rest:=by rw[e1];simp
  have hpl:pre.length+nm.length+1+a.length+(aC bs).length+1<=4294967290:=by rw[e1]at hl;simp at hl;omega
  rw[show j+(nm++40::(a++(aC bs++[41])):List UInt8).length=(j+1+(aC bs).length+a.length+1)+nm.length from by simp;omega];rw[nA n t6 K l hl nm pre _ _ d f out (sN hall) e1];have s1:=zJ n t6 K (pre++nm) (a++(aC bs++41::rest)) (j+1+(aC bs).length+a.length) d f out (by simp;omega) ⟨by omega,by omega⟩;rw[← e2,show(pre++nm:List UInt8).length=pre.length+nm.length by simp<;>omega]at s1;rw[s1];have s2:=ih a JN (pre++nm++[40]) (aC bs++41::rest) (j+1+(aC bs).length) (d+1) f out (by omega) (by omega) e3;rw[show(pre++nm++[40]:List UInt8).length=pre.length+nm.length+1 by simp<;>omega]at s2;rw[s2];have s3:=qq n t6 K l hl bs (λx hx=>ih x (JR _ hx)) (pre++nm++[40]++a) (41::rest) (j+1) (d+1) f out (by omega) (by omega) e4;rw[show(pre++nm++[40]++a:List UInt8).length=pre.length+nm.length+1+a.length by simp<;>omega]at s3;rw[s3];have s4:=B0 n t6 K (pre++nm++[40]++a++aC bs) rest j (d+1) f out (by simp;omega) ⟨by omega,by omega⟩ (by omega);rw[← e5,show(pre++nm++[40]++a++aC bs:List UInt8).length=pre.length+nm.length+1+a.length+(aC bs).length by simp<;>omega]at s4;rw[s4]
  congr 2
  ·omega
  ·simp
   omega
theorem xS (at':Nat)(ha:t6=(at':Int)):∀(bs:List (List UInt8)) (a pre:List UInt8) (j:Nat) (out:List ByteArray),(∀x∈a::bs,zK n t6 K l x)->l=pre++(a++(aC bs++[41]))->at'<=pre.length->out.length<=pre.length->
  ay.l1 n (bt l) t6 K (j+1+(a++aC bs).length) 1 false (pre.length:Int) (pre.length:Int) out=some (bt (l.take at'),out++(a::bs).map bt,true)
 |[],a,pre,j,out,hp,he,hat,ho=>by
  have e1:l=(pre++a)++41::[]:=by rw[he];simp[aC]
  have hpl:pre.length+a.length+1<=4294967290:=by rw[e1]at hl;simp at hl;omega
  have s1:=hp a JN pre (aC []++[41]) (j+1) 1 pre.length out (by omega) (by omega) he;rw[show j+1+(a++aC []).length=j+1+a.length by simp[aC],s1];have s2:=GW n t6 K (pre++a) [] j pre.length at' ha out (by rw[← e1];exact hl) (by simp) (by simp;omega) (by simp;omega);rw[← e1,show(pre++a:List UInt8).length=pre.length+a.length by simp<;>omega]at s2;rw[s2,KL];have:(pre++a).take at'=l.take at':=by rw[e1];exact(Mq (by simp;omega)).symm
  rw[this]
  simp
 |b::bs,a,pre,j,out,hp,he,hat,ho=>by
  have e1:l=(pre++a)++44::(b++(aC bs++[41])):=by rw[he];simp[aC]
  have e2:l=(pre++a++[44])++(b++(aC bs++[41])):=by rw[e1];simp
  have hpl:pre.length+a.length+1<=4294967290:=by rw[e1]at hl;simp at hl;omega
  have s1:=hp a JN pre (aC (b::bs)++[41]) (j+1+(b++aC bs).length+1) 1 pre.length out (by omega) (by omega) he;rw[show j+1+(a++aC (b::bs)).length=j+1+(b++aC bs).length+1+a.length by simp[aC];omega,s1];have s2:=B2 n t6 K (pre++a) (b++(aC bs++[41])) (j+1+(b++aC bs).length) pre.length out (by simp;omega) (by simp) (by simp;omega);rw[← e1,show(pre++a:List UInt8).length=pre.length+a.length by simp<;>omega,KL]at s2;rw[s2];have s3:=xS at' ha bs b (pre++a++[44]) j (out++[bt a]) (λx hx=>hp x (JR _ hx)) e2 (by simp;omega) (by simp;omega);rw[show(pre++a++[44]:List UInt8).length=pre.length+a.length+1 by simp<;>omega]at s3;rw[s3]
  simp
end
theorem uu {l:List UInt8}(h:l.all dt=true):l.all cN=true:=by
 rw[Kf]at h⊢;intro b hb;have:=h b hb;unfold cN
 by_cases e:b=40
 ·subst e;exact bH this (by decide)
 ·simp[e]
theorem xT (n:Nat)(l:List UInt8)(hl:l.length<=4294960000)(hn:l.length+2<=n):ay.F n (bt l)=
  if(l.takeWhile cN).length=l.length then some (bt l,[],true)
  else ay.l1 n (bt l) ((l.takeWhile cN).length:Int) (λ_=>some (Jq,[],false)) n 0 false (((l.takeWhile cN).length+1:Nat):Int) ((l.takeWhile cN).length:Int) []:=by
 unfold ay.F;have hw:(l.takeWhile cN).length<=l.length:=(Lw cN).length_le;have:=AZ n (λt4=>
  if decide (t4=(Js (bt l):Int))=true then
   some (bt l,[],true)
  else
   ay.l1 n (bt l) t4 (λ_=>
    some (Jq,[],false)) n 0 false (Ju.wrap (t4+1)) t4 []) l [] n (by simp;omega) (by omega)
 simp only[Kx,JB,Nat.zero_add]at this;rw[show((0:Nat):Int)=0 from rfl]at this;rw[this,ah,aK _ (by omega) (by omega)]
 by_cases h:(l.takeWhile cN).length=l.length
 ·rw[ab h,ab (by simp;omega)]
 ·rw[ao h,ao (by simp;omega)]
  rfl
theorem sO (n:Nat)(nm a:List UInt8)(bs:List (List UInt8))(h:fO nm=true)(hh:∀x∈a::bs,∃k,Tm k x)
  (hl:(nm++40::(a++(aC bs++[41]))).length<=4294960000) (hn:(nm++40::(a++(aC bs++[41]))).length+2<=n):
  ay.F n (bt (nm++40::(a++(aC bs++[41]))))=some (bt nm,(a::bs).map bt,true):=by
 obtain⟨c,r,hc,_,_,hall⟩:=iO h;have htw:(nm++40::(a++(aC bs++[41]))).takeWhile cN=nm:=iD (uu hall) (.inr ⟨40,_,rfl,by decide⟩);rw[xT n _ hl hn,htw,ao (by simp)];have hlen:=hl;have hn':=hn;simp only[Jx,Jw,JB]at hlen hn';obtain⟨j,rfl⟩:∃j,n=(j+1+(a++aC bs).length)+1:=⟨n - (2+(a++aC bs).length),by simp only[Jx];omega⟩
 rw[zJ _ _ _ nm (a++(aC bs++[41])) _ 0 _ [] (by omega) ⟨by omega,by omega⟩];have:=xS (j+1+(a++aC bs).length+1) (nm.length:Int) (λ_=>some (Jq,[],false)) (nm++40::(a++(aC bs++[41]))) (by omega) nm.length rfl bs a (nm++[40]) j [] (λx hx=>by
  obtain⟨k,hk⟩:=hh x hx;exact G0 _ _ _ _ (by omega) hk) (by simp) (by simp) (by simp)
 rw[show(nm++[40]:List UInt8).length=nm.length+1 by simp<;>omega]at this;rw[show(0:Int)+1=1 from rfl,this,Lf]
 simp
theorem zL (n:Nat)(s:ByteArray):be.F (n+1) s=be.G n (be.F n) s:=rfl
theorem xU (n:Nat)(self:ByteArray->Option Int)(K:Unit->Option Int)(x:UInt8):∀(r pre:List UInt8) (k:Nat),(pre++r).length<=4294967290->r.length+1<=k->
  be.l2 n self (bt (pre++(r++[x]))) K k (pre.length:Int)=if r.all eU=true then K ()else some 0
 |r,pre,0,_,hk=>by omega
 |[],pre,k+1,hl,hk=>by
  simp only[KA]at hl;unfold be.l2;rw[ah,aK _ (by omega) (by omega),ao (by simp)]
  rfl
 |c::r,pre,k+1,hl,hk=>by
  simp only[Jx,Jw]at hl;have e1:pre++(c::r++[x])=pre++c::(r++[x]):=rfl;have hw:Ju.wrap ((pre.length:Int)+1)=((pre++[c]).length:Int):=by rw[aK _ (by omega) (by omega),ia pre c]
  have hc:=c.toNat_lt;rw[e1];unfold be.l2;rw[ah,hw,ab (by simp;omega),ab (cF pre _ c),eu,aK (c.toNat:Int) (by omega) (by omega),dW,KB];simp only[Jp];have e92:decide ((c.toNat:Int)=92)=decide (c=92):=decide_eq_decide.2 (lS (d:=92) rfl);rcases nd (eU c)with hp|hp
  ·rw[hp]
   simp only[eU,vK]at hp
   by_cases h1:32<=c.toNat/\c.toNat<=126
   ·rw[ab (by simp;omega),ab (cF pre _ c)]
    by_cases h2:c.toNat=34
    ·rw[ao (by simp;omega)]
     simp
    ·rw[ab (by simp;omega),ab (cF pre _ c),ab (by simp;omega)]
     simp
   ·rw[ao (by simp;omega)]
    simp
  ·rw[hp]
   simp only[eU,dg]at hp;rw[ab (by simp;omega),ab (cF pre _ c),ab (by simp;omega),ab (cF pre _ c),ao (by simp;omega),eR];rw[xU n self K x r (pre++[c]) k (by simp;omega) (by simpa using hk)]
   rfl
theorem sP (n:Nat)(self:ByteArray->Option Int)(K:Unit->Option Int)(κ:List UInt8->Nat):∀(r pre:List (List UInt8)) (k:Nat),(pre++r).length<=4294967290->r.length+1<=k->
  (∀x∈r,self (bt x)=some (κ x:Int))->be.l4 n self ((pre++r).map bt) K k (pre.length:Int)=if r.all (λx=>!decide (κ x=0))=true then K ()else some 0
 |r,pre,0,_,hk,_=>by omega
 |[],pre,k+1,hl,hk,hs=>by
  unfold be.l4;rw[Kp,ao (by simp)]
  rfl
 |c::r,pre,k+1,hl,hk,hs=>by
  simp only[Jx,Jw]at hl;have hlen:(pre.length:Int)<(((pre++c::r).map bt).length:Int):=by simp;omega
  have hget:List.getD ((pre++c::r).map bt) (Jt (pre.length:Int)) Jq=bt c:=by
   rw[JS,Kz,List.map_cons];have:=cR (pre.map bt) (r.map bt) (bt c) Jq;rw[Kp]at this;exact this
  unfold be.l4;rw[ab (iX hlen),ab ⟨by omega,hlen⟩,hget,hs c JN];simp only[Jp]
  by_cases h:κ c=0
  ·rw[ab (by simp;omega),ao (by simp[h])]
  ·have e:(c::r).all (λx=>!decide (κ x=0))=r.all (λx=>!decide (κ x=0)):=by simp[h]
   rw[e];rw[ao (by simp;omega),aK _ (by omega) (by omega),show(pre.length:Int)+1=((pre++[c]).length:Int)by simp,show pre++c::r=(pre++[c])++r by simp,
    sP n self K κ r (pre++[c]) k (by simp;omega) (by simpa using hk) (λx hx=>hs x (JR _ hx))]
structure kX (l:List UInt8) (k:Nat):Prop where
 le:k<=3
 sound:k≠0->Tm k l/\l.length<=200
 complete:∀k',Tm k' l->l.length<=200->k=k'
theorem dN {l:List UInt8}(h:∀k,Tm k l->l.length<=200->False):kX l 0:=⟨by omega,λh=>bH rfl h,λk hk hl=>(h k hk hl).elim⟩
theorem Ch (n:Nat)(l:List UInt8)(hl:l.length<=4294960000)(hn:l.length+60<=n):∃k:Nat,gK.F n (bt l)=some (k:Int)/\kX l k:=by
 obtain⟨res,h1,h2⟩:=vE l.length l n (JU _) hl hn;have hc:∀k,Tm k l->res=((k:Int),(l.length:Int)):=by
  intro k hk;have:=kE hk [] n (.inl rfl) (by simpa using hl) (by simpa using hn);rw[KA,h1]at this;exact Mg this
 unfold gK.F;rw[h1,ah];simp only[Jp]
 by_cases h200:200<l.length
 ·rw[ao (by simp;omega)]
  exact⟨0,rfl,dN (λk _ h=>by omega)⟩
 ·rw[ab (by simp;omega)]
  rcases h2 with rfl|⟨k,t,rest,rfl,ht,rfl⟩
  ·have h0:∀k,Tm k l->False:=by
    intro k hk;have:=congrArg Prod.fst (hc k hk);have:=hk.kind
    simp at*
    omega
   refine⟨0,?_,dN (λk hk _=>h0 k hk)⟩
   split<;>rfl
  ·by_cases hr:rest=[]
   ·subst hr
    rw[KA]at hc h200⊢;rw[ao (by simp)];have:=ht.kind;refine⟨k,rfl,⟨by omega,λ_=>⟨ht,by omega⟩,λk' hk' _=>?_⟩⟩;have:=congrArg Prod.fst (hc k' hk')
    simp at this
    omega
   ·rw[ab]
    ·refine⟨0,rfl,dN (λk' hk' _=>?_)⟩
     have:=congrArg Prod.snd (hc k' hk')
     simp at this
     exact hr (Kv.1 (by omega))
    ·have:0<rest.length:=Ly.2 hr
     simp
     omega
theorem xV:∀(L:Nat) (l:List UInt8) (n:Nat),l.length<=L->l.length<=4294960000->l.length+60<=n->∃k:Nat,be.F n (bt l)=some (k:Int)/\kX l k:=by
 intro L
 induction L with
 |zero=>
  intro l n hl _ hn;obtain⟨n,rfl⟩:∃m,n=m+1:=⟨n - 1,by omega⟩
  have:l=[]:=Kv.1 (by omega);subst this;rw[zL];unfold be.G;rw[iB,gz,ao (by simp)];exact⟨0,rfl,dN (λk h _=>h.ne rfl)⟩
 |succ L ih=>
  intro l n hl hL hn;obtain⟨n,rfl⟩:∃m,n=m+1:=⟨n - 1,by omega⟩
  cases l with
  |nil=>
   rw[zL];unfold be.G;rw[iB,gz,ao (by simp)];exact⟨0,rfl,dN (λk h _=>h.ne rfl)⟩
  |cons c r=>
   rw[zL];unfold be.G;rw[iB,gz,ab (by simp),ah]
   by_cases h200:200<(c::r).length
   ·rw[ab (by simp only[dg];omega)]
    exact⟨0,rfl,dN (λk _ h=>by omega)⟩
   ·rw[ao (by simp only[dg];omega)]
    have h200':=h200;simp only[Jw]at h200' hl hn;unfold be.j0;obtain⟨v,ok,hv,hok,_⟩:=pQ n (c::r) (by omega);rw[hv];simp only[Jp];cases ok with
    |true=>
     rw[ab rfl];obtain⟨x,hx0,hx1,hx⟩:=hok.1 rfl;refine⟨1,rfl,⟨by omega,λ_=>⟨by rw[hx];exact Tm.num x hx0 hx1,by omega⟩,λk' hk' hlen=>?_⟩⟩;have e1:=kE hk' [] 400 (.inl rfl) (by simp;omega) (by simp;omega);have e2:=kE (Tm.num x hx0 hx1) [] 400 (.inl rfl) (by rw[← hx];simp;omega) (by rw[← hx];simp;omega);rw[← hx,e1]at e2;have:=congrArg Prod.fst (Mg e2)
     simp at this
     omega
    |false=>
     have hnn:¬lz (c::r):=λh=>by have:=hok.2 h;cases this
     have hsz:0<((c::r).length:Int):=by simp<;>omega
     rw[ao (by simp),ah,ab ⟨by omega,hsz⟩,iw,IZ]
     by_cases h34:c=34
     ·subst h34
      rw[ab (by simp),dW];simp only[Jp];have symInv:∀k,Tm k (34::r)->∃m:List UInt8,r=m++[34]/\m.length<=20/\m.all eU=true/\k=2:=by
       intro k hk;generalize he:(34::r:List UInt8)=t at hk;cases hk with
       |num x h0 h1=>exact bH ⟨x,h0,h1,he⟩ hnn
       |sym m h hp=>injection he with _ he;exact⟨m,he,h,hp,rfl⟩
       |con0 nm h=>obtain⟨c',r',hc',hb,_⟩:=iO h;rw[hc']at he;injection he with he _;subst he;exact bH hb (by decide)
       |con nm a bs h ks hh=>obtain⟨c',r',hc',hb,_⟩:=iO h;rw[hc']at he;injection he with he _;subst he;exact bH hb (by decide)
      by_cases hsz2:2<=(34::r:List UInt8).length/\(34::r:List UInt8).length<=22
      ·rw[ab (by simp only[OT,dg];omega)]
       simp only[Jw]at hsz2;obtain⟨m,x,rfl⟩:∃m x,r=m++[x]:=⟨r.dropLast,r.getLast (by rintro rfl;simp at hsz2),(List.dropLast_concat_getLast _).symm⟩
       have hlm:(m++[x]).length=m.length+1:=by simp
       have hw:Ju.wrap (((34::(m++[x]):List UInt8).length:Int) - 1)=((34::m:List UInt8).length:Int):=by
        rw[aK _ (by simp;omega) (by simp;omega)];simp
       have hat:aP (bt (34::(m++[x]))) ((34::m:List UInt8).length:Int)=(x.toNat:Int):=eu (34::m) [] x;rw[hw,ab ⟨by omega,by simp only[Jw,Jx,JB];omega⟩,hat,IZ]
       by_cases hx:x=34
       ·subst hx
        rw[ao (by simp)];unfold be.j1;have:=xU n (be.F n) (λ_=>some 2) 34 m [34] n (by simp;omega) (by omega);simp only[Kw,Lg]at this;rw[show((1:Nat):Int)=1 from rfl]at this;rw[this]
        by_cases hm:m.all eU=true
        ·rw[ab hm]
         refine⟨2,rfl,⟨by omega,λ_=>⟨Tm.sym m (by omega) hm,by simp;omega⟩,λk' hk' _=>?_⟩⟩;obtain⟨_,_,_,_,h⟩:=symInv k' hk';omega
        ·rw[ao hm]
         refine⟨0,rfl,dN (λk' hk' _=>?_)⟩;obtain⟨m',h1,_,h3,_⟩:=symInv k' hk';have:=List.append_inj_left' h1 rfl;subst this;exact hm h3
       ·rw[ab (by simpa using hx)]
        refine⟨0,rfl,dN (λk' hk' _=>?_)⟩;obtain⟨m',h1,_,h3,_⟩:=symInv k' hk';have:=List.append_inj_right' h1 rfl
        injection this with this
        exact hx this
      ·rw[ao (by simp only[OT,dg];omega)]
       refine⟨0,rfl,dN (λk' hk' _=>?_)⟩;obtain⟨m',h1,h2,h3,_⟩:=symInv k' hk';rw[h1]at hsz2
       simp at hsz2
       omega
     ·rw[ao (by simpa using h34)]
      have conInv:∀k,Tm k (c::r)->k=3/\((fO (c::r)=true)\/∃nm a bs,c::r=nm++40::(a++(aC bs++[41]))/\fO nm=true/\∀x∈a::bs,∃k,Tm k x):=by
       intro k hk;generalize he:c::r=t at hk;cases hk with
       |num x h0 h1=>exact bH ⟨x,h0,h1,he⟩ hnn
       |sym m h hp=>injection he with he _;exact bH he h34
       |con0 nm h=>exact⟨rfl,.inl h⟩
       |con nm a bs h ks hh=>exact⟨rfl,.inr ⟨nm,a,bs,rfl,h,λx hx=>⟨_,hh x hx⟩⟩⟩
      have goArgs:∀(nm:List UInt8) (ls:List (List UInt8)),ls.length<=(c::r).length->(∀x∈ls,x.length<(c::r).length)->ay.F n (bt (c::r))=some (bt nm,ls.map bt,true)->nm.length<=(c::r).length->
        ∃κ:List UInt8->Nat,(∀x∈ls,kX x (κ x))/\((ay.F n (bt (c::r))).bind λr9=>
         if(!r9.2.2)=false then
          (dY.F n r9.1 true).bind λr10=>
          if(!r10)=true then
           some 0
          else
           be.j3 n (be.F n) r9.2.1
         else
          some 0)=if fO nm=true then(if ls.all (λx=>!decide (κ x=0))=true then some 3 else some 0)else some 0:=by
       intro nm ls hlen hsub hA hnm;have hex:∃κ:List UInt8->Nat,∀x∈ls,be.F n (bt x)=some (κ x:Int)/\kX x (κ x):=by
        classical
        refine⟨λx=>if h:∃k:Nat,be.F n (bt x)=some (k:Int)/\kX x k then h.choose else 0,λx hx=>?_⟩;have h1:=hsub x hx;simp only[Jw]at h1;have:=ih x n (by omega) (by omega) (by omega);show be.F n (bt x)=some (((if h:∃k:Nat,be.F n (bt x)=some (k:Int)/\kX x k then h.choose else 0:Nat):Nat):Int)/\kX x (if h:∃k:Nat,be.F n (bt x)=some (k:Int)/\kX x k then h.choose else 0);rw[dif_pos this];exact this.choose_spec
       obtain⟨κ,hκ⟩:=hex;refine⟨κ,λx hx=>(hκ x hx).2,?_⟩;simp only[Jw]at hnm hlen;rw[hA];simp only[Jp];rw[ab (by simp),zI n nm (by omega) (by omega)];simp only[Jp]
       by_cases hb:fO nm=true
       ·rw[ao (by rw[hb];simp),ab hb]
        unfold be.j3;have:=sP n (be.F n) (λ_=>some 3) κ ls [] n (by simp;omega) (by omega) (λx hx=>(hκ x hx).1);simp only[Kx,JB]at this;rw[show((0:Nat):Int)=0 from rfl]at this;exact this
       ·rw[ab (by rw[JV.2 hb];rfl),ao hb]
      have noOpen:fO (c::r)=true->((c::r).takeWhile cN).length=(c::r).length:=by
       intro h;obtain⟨c',r',hc',_,_,hall⟩:=iO h;exact nM.2 (uu hall)
      have conOpen:∀(nm:List UInt8) (X:List UInt8),c::r=nm++40::X->((c::r).takeWhile cN).length≠(c::r).length:=by
       intro nm X he h;have:=nM.1 h;rw[Kf]at this;have h40:=this 40 (by rw[he];simp);exact bH h40 (by decide)
      have hstart:=xT n (c::r) (by omega) (by simp only[Jw];omega);have hwle:((c::r).takeWhile cN).length<=(c::r).length:=(Lw cN).length_le
      by_cases htw:((c::r).takeWhile cN).length=(c::r).length
      ·rw[ab htw]at hstart
       obtain⟨κ,_,hres⟩:=goArgs (c::r) [] (by simp) (λx hx=>by cases hx) hstart (JU _);rw[hres]
       by_cases hb:fO (c::r)=true
       ·rw[ab hb,ab (by simp)]
        exact⟨3,rfl,⟨by omega,λ_=>⟨Tm.con0 _ hb,by omega⟩,λk' hk' _=>(conInv k' hk').1.symm⟩⟩
       ·rw[ao hb]
        refine⟨0,rfl,dN (λk' hk' _=>?_)⟩;rcases(conInv k' hk').2 with h|⟨nm,a,bs,h,_⟩
        ·exact hb h
        ·exact conOpen _ _ h htw
      ·rw[ao htw]at hstart
       have hs:=ni cN (c::r);have hdrop:∃r',(c::r).drop ((c::r).takeWhile cN).length=40::r':=by
        cases hd:(c::r).drop ((c::r).takeWhile cN).length with
        |nil=>exact bH (M3.1 hd) (by omega)
        |cons d t=>
         have hno:cN d=false:=by
          have h1:(c::r).takeWhile cN=((c::r).takeWhile cN++d::t).takeWhile cN:=by
           conv=>lhs;rw[hs,hd]
          rcases nd (cN d)with h|h
          ·exact h
          ·have h2:∀(A:List UInt8),A.all cN=true->(A++d::t).takeWhile cN=A++d::t.takeWhile cN:=by
            intro A
            induction A with
            |nil=>intro _;rw[Kx,Ke,h,ab rfl];rfl
            |cons x A ihA=>intro hA;rw[KB,Jz]at hA;rw[Lc,Ke,hA.1,ab rfl,ihA hA.2];rfl
           rw[h2 _ (vD cN (c::r))]at h1;have:=congrArg Jr h1
           simp at this
         have:d=40:=by
          unfold cN at hno;simpa using hno
         exact⟨t,by rw[this]⟩
       generalize hW:(c::r).takeWhile cN=W at*;obtain⟨r',hr'⟩:=hdrop;rw[hr']at hs;have hA:=sL n (W.length:Int) (λ_=>some (Jq,[],false)) W.length rfl rfl (40::r') W n 0 false (W.length+1) [] (by rw[← hs];omega) (by have:=congrArg Jr hs;simp only[Jx,Jw]at this;simp only[Jw];omega)
        (by have:=congrArg Jr hs;simp only[Jx,Jw]at this;simp only[Jw];omega) (by rw[ab rfl];omega) (JU _) (by simp) (λ_=>⟨rfl,rfl,r',rfl⟩)
       obtain⟨x,ys,ok,h1,h2⟩:=hA;rw[← hs]at h1 h2;rw[h1]at hstart;cases ok with
       |false=>
        rw[hstart];simp only[Jp];rw[ao (by simp)];refine⟨0,rfl,dN (λk' hk' _=>?_)⟩;rcases(conInv k' hk').2 with h|⟨nm,a,bs,h,hb,hh⟩
        ·exact htw (noOpen h)
        ·have:=sO n nm a bs hb hh (by rw[← h];omega) (by rw[← h];simp only[Jw];omega)
         rw[← h,hstart]at this
         simp at this
       |true=>
        obtain⟨hx,p,bs,hys,hdr⟩:=h2 rfl;have htk:(c::r).take W.length=W:=by rw[hs,Lf]
        rw[htk]at hx;have hr2:r'=p++(aC bs++[41]):=by
         rw[← hdr]
         conv=>rhs;rw[hs]
         rw[← LD,KL]
         rfl
        have hfull:c::r=W++40::(p++(aC bs++[41])):=by rw[hs,hr2]
        have hlenF:=congrArg Jr hfull;simp only[Jx,Jw,JB]at hlenF;have hbl:∀bs:List (List UInt8),bs.length<=(aC bs).length/\∀x∈bs,x.length<=(aC bs).length:=by
         intro bs
         induction bs with
         |nil=>exact⟨JU _,λx hx=>by cases hx⟩
         |cons b bs ihb=>
          simp only[aC,Jw,Jx];refine⟨by omega,λx hx=>?_⟩;rcases JX.1 hx with rfl|hx
          ·omega
          ·have:=ihb.2 x hx;omega
        have hsub:∀x∈p::bs,x.length<(c::r).length:=by
         intro x hx;rw[Jw];rcases JX.1 hx with rfl|hx
         ·omega
         ·have:=(hbl bs).2 x hx;omega
        rw[hx,hys,Kx]at hstart;obtain⟨κ,hκ,hres⟩:=goArgs W (p::bs) (by have:=(hbl bs).1;simp only[Jw];omega) hsub hstart (by omega);rw[hres]
        by_cases hb:fO W=true
        ·rw[ab hb]
         by_cases hall:(p::bs).all (λx=>!decide (κ x=0))=true
         ·rw[ab hall]
          refine⟨3,rfl,⟨by omega,λ_=>⟨?_,by omega⟩,λk' hk' _=>(conInv k' hk').1.symm⟩⟩;rw[hfull];refine Tm.con W p bs hb κ (λx hx=>((hκ x hx).sound ?_).1);rw[Kf]at hall;have:=hall x hx;simpa using this
         ·rw[ao hall]
          refine⟨0,rfl,dN (λk' hk' _=>?_)⟩;rcases(conInv k' hk').2 with h|⟨nm,a,bs',h,hb',hh⟩
          ·exact htw (noOpen h)
          ·have:=sO n nm a bs' hb' hh (by rw[← h];omega) (by rw[← h];simp only[Jw];omega)
           rw[← h,hstart]at this;have e1:(p::bs).map bt=(a::bs').map bt:=congrArg (λq:ByteArray×List ByteArray×Bool=>q.2.1) (Mg this);have e2:p::bs=a::bs':=by
            have:=congrArg (List.map λs:ByteArray=>s.data.toList) e1;rw[Lq,Lq]at this;simpa[Function.comp_def,eB]using this
           apply hall;rw[Kf];intro x hx;obtain⟨kx,hkx⟩:=hh x (by rw[← e2];exact hx);have hlx:=hsub x hx;have:=(hκ x hx).complete kx hkx (by omega);have hk0:=hkx.kind
           simp
           omega
        ·rw[ao hb]
         refine⟨0,rfl,dN (λk' hk' _=>?_)⟩;rcases(conInv k' hk').2 with h|⟨nm,a,bs',h,hb',hh⟩
         ·exact htw (noOpen h)
         ·have:=sO n nm a bs' hb' hh (by rw[← h];omega) (by rw[← h];simp only[Jw];omega)
          rw[← h,hstart]at this;have e1:bt W=bt nm:=congrArg (λq:ByteArray×List ByteArray×Bool=>q.1) (Mg this);rw[E4 e1]at hb;exact hb hb'
end Go.Abs
