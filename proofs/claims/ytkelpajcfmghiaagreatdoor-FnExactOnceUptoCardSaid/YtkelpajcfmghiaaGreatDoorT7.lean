/- The reference's TermKind and the program's kindOf: both answer the kind of a term. Conditions: none. -/
import Derived.Test.YtkelpajcfmghiaaGreatDoorPl
import Derived.Test.YtkelpajcfmghiaaGreatDoorF4
import Derived.Lib.AtoiTie
open Bool renaming and_eq_true → Jx,eq_false_iff → JT,false_eq_true → JG,not_eq_false' → OQ,not_eq_true' → LY,not_true → KR,true_and → KB
open ByteArray renaming empty → Jo,extract → JM,size → Jq
open Go.Abs renaming seq → Kk
open Go.IntKind renaming i64 → Js,u8 → Ml
open Go.Lib renaming atoiAll → MA,decDigits → Kw,decFrom → LR,digitVal → Mj,itoa → KT
open Int renaming tdiv → M2,toNat → Jr,toNat_natCast → JQ
open List renaming all_cons → Kz,all_eq_true → Kc,append_nil → Ky,cons_append → KZ,drop_append_of_le_length → Ny,drop_drop → LB,drop_eq_nil_iff → M1,drop_left → KJ,drop_zero → JW,getD_eq_getElem?_getD → Lk,head?_drop → MU,length → Jp,length_append → Jv,length_cons → Ju,length_drop → LS,length_eq_zero_iff → Kq,length_map → Km,length_nil → Jz,length_pos_iff → Lw,length_singleton → Ku,map_append → Kx,map_map → Lo,mem_cons → JV,mem_cons_of_mem → JP,mem_cons_self → JL,mem_singleton → JZ,nil_append → Kv,prefix_iff_eq_take → NV,singleton_append → Le,takeWhile_cons → Kb,takeWhile_prefix → Lt,take_append_of_le_length → Mo,take_left → Lc
open Nat renaming le_refl → JS,pow_le_pow_right → Ow,pow_succ → Oe,strongRecOn → N7
open Option renaming bind_some → Jn
open Option.some renaming inj → Me
open UInt8 renaming ofNat → LH,toNat_inj → LV
namespace Go.Abs
def bt (l:List UInt8):ByteArray:=⟨l.toArray⟩
theorem ah (l:List UInt8):Jq (bt l)=l.length:=by simp[bt,Jq]
theorem ek (l:List UInt8):(bt l).data.toList=l:=by simp[bt]
theorem jl (s:ByteArray):s=bt s.data.toList:=by cases s;simp[bt]
theorem E3 {a b:List UInt8}(h:bt a=bt b):a=b:=by rw[← ek a,← ek b,h]
theorem II (l:List UInt8):(⟨l.toArray⟩:ByteArray)=bt l:=rfl
theorem gb (l:List UInt8)(i j:Nat):JM (bt l) i j=bt ((l.take j).drop i):=by
 rw[jl (JM (bt l) i j)]
 congr 1
 rw[ByteArray.data_extract,Array.toList_extract,List.extract_eq_take_drop,List.drop_take,ek]
theorem ge (a b:List UInt8):Kk (bt a) (bt b)=(a==b):=by
 unfold Kk;rw[Lib.toList_data,Lib.toList_data,ek,ek]
theorem ul (l:List UInt8)(i:Nat):aP (bt l) (i:Int)=((l.getD i 0).toNat:Int):=by
 unfold aP bt;simp only[JQ]
 congr 2
 simp[Array.getD_eq_getD_getElem?,List.getD]
theorem iA:Jo=bt []:=rfl
theorem ap (a b:List UInt8):bt a++bt b=bt (a++b):=by
 rw[jl (bt a++bt b)]
 congr 1
theorem AP:∀(l:List Int) (r:ByteArray),(l.foldl (λr n=>r.push (LH n.toNat)) r)=bt (r.data.toList++l.map λn=>LH n.toNat)
 |[],r=>by rw[List.foldl_nil,List.map_nil,Ky];exact jl r
 |x::l,r=>by
  rw[List.foldl_cons,AP l]
  congr 1
  show(r.data.push _).toList++_=_
  simp
theorem AQ (l:List Int):rc l=bt (l.map λn=>LH n.toNat):=by
 unfold rc;rw[AP]
 simp
theorem sD {u:Nat}(h:¬u<10):Kw u=Kw (u / 10)++[LH (48+u % 10)]:=by rw[Kw,dif_neg h]
theorem o5 {u:Nat}(h:u<10):Kw u=[LH (48+u)]:=Lib.decDigits_one h
theorem lx (d:Nat)(h:d<10):48<=(LH (48+d)).toNat/\(LH (48+d)).toNat<=57/\(LH (48+d)).toNat=48+d:=by
 rw[UInt8.toNat_ofNat'];omega
theorem sE (u:Nat):∀b∈Kw u,48<=b.toNat/\b.toNat<=57:=by
 induction u using N7 with
 |_ u ih=>
  intro b hb
  by_cases h:u<10
  ·rw[o5 h]at hb
   simp only[JZ]at hb;subst hb;have:=lx u h;omega
  ·rw[sD h]at hb
   simp only[List.mem_append,JZ]at hb;rcases hb with hb|rfl
   ·exact ih (u / 10) (by omega) b hb
   ·have:=lx (u % 10) (by omega)
    omega
theorem zG (u:Nat):Kw u≠[]:=by
 intro h
 by_cases hu:u<10
 ·rw[o5 hu]at h;cases h
 ·rw[sD hu]at h;simp at h
theorem n9:∀(a b:List UInt8) (acc:Nat),LR acc (a++b)=(LR acc a).bind λx=>LR x b
 |[],b,acc=>rfl
 |x::a,b,acc=>by
  simp only[KZ,LR];cases Mj x with
  |none=>rfl
  |some d=>exact n9 a b _
theorem ql (d:Nat)(h:d<10):Mj (LH (48+d))=some d:=by
 obtain⟨h1,h2,h3⟩:=lx d h;unfold Mj;rw[ab ⟨h1,h2⟩,h3]
 simp
theorem na (u:Nat):LR 0 (Kw u)=some u:=by
 induction u using N7 with
 |_ u ih=>
  by_cases h:u<10
  ·rw[o5 h]
   simp only[LR,ql u h]
   simp
  ·rw[sD h,n9,ih (u / 10) (by omega)]
   simp only[Jn,LR,ql (u % 10) (by omega)];rw[Nat.div_add_mod' u 10]
theorem oQ:∀(j u:Nat),u<10 ^ (j+1)->(Kw u).length<=j+1
 |0,u,h=>by rw[o5 (by simpa using h)];simp
 |j+1,u,h=>by
  by_cases hu:u<10
  ·rw[o5 hu];simp
  ·rw[sD hu,Jv]
   have:=oQ j (u / 10) (by rw[Oe]at h;omega);simp only[Ku];omega
theorem sG (u:Nat):∃c r,Kw u=c::r/\48<=c.toNat/\c.toNat<=57:=by
 cases h:Kw u with
 |nil=>exact bH h (zG u)
 |cons c r=>
  have:=sE u c (by rw[h];simp);exact⟨c,r,rfl,this⟩
theorem um (x:Int)(h0:-1000000<=x)(h1:x<=1000000):MA (KT x)= .ok x:=by
 have mag:∀u:Nat,u<=1000000->Lib.parseMag (Kw u)= .ok u:=by
  intro u hu;rw[Lib.parseMag_short _ (by have:=oQ 6 u (by omega);omega)];unfold Lib.decNat;rw[ao (by simp[zG]),na]
  rfl
 unfold KT
 split
 ·rename_i hx
  unfold MA;simp only[show(45:UInt8).toNat=45 from rfl,or_true,if_true,mag x.natAbs (by omega)];rw[ao (by omega),ao (by omega)]
  congr 1
  omega
 ·rename_i hx
  obtain⟨c,r,hc,h2,h3⟩:=sG x.toNat;have hm:=mag x.toNat (by omega);rw[hc]at hm⊢;unfold MA;simp only[show¬c.toNat=45 by omega,show¬c.toNat=43 by omega,or_self,if_false,hm];rw[ao (by omega),ao (by simp)]
  congr 1
  omega
def If (b:UInt8):Int:=(b.toNat:Int)
theorem AR (l:List UInt8):(l.map If).map (λn=>LH n.toNat)=l:=by
 rw[Lo]
 conv=>rhs;rw[← List.map_id l]
 congr 1
 funext b
 simp[If]
theorem E4 (z:Int)(h0:0<=z)(h1:z<=255):Ml.wrap z=z:=by
 simp only[IntKind.wrap,IntKind.signed,IntKind.bits]
 simp
 omega
theorem AS (n:Nat)(t:Int)(K:List Int->Option ByteArray):∀(j k:Nat) (m:Int) (out:List Int),m.natAbs<10 ^ j->j+1<=k->Jp out+j<=100->m.natAbs<=4611686018427387904->
  bO.l0 n t K k m out=K ((if m=0 then []else(Kw m.natAbs).map If)++out)
 |j,0,m,out,_,hk,_,_=>by omega
 |0,k+1,m,out,hm,hk,ho,hb=>by
  have:m=0:=by simp at hm;exact hm
  subst this;unfold bO.l0
  simp
 |j+1,k+1,m,out,hm,hk,ho,hb=>by
  unfold bO.l0
  by_cases h0:m=0
  ·subst h0;simp
  ·have hd:(M2 m 10).natAbs=m.natAbs / 10:=by rw[Int.natAbs_tdiv];rfl
   have hr:(Int.tmod m 10).natAbs=m.natAbs % 10:=by rw[Int.natAbs_tmod];rfl
   have hw:Js.wrap (M2 m 10)=M2 m 10:=aK _ (by omega) (by omega);have hl:Jp [(1:Int)]+Jp out<=aT:=by unfold aT;simp;omega
   have step:∀d:Int,d=((m.natAbs % 10:Nat):Int)->bO.l0 n t K k (Js.wrap (M2 m 10)) ([Ml.wrap (Js.wrap (48+d))]++out)=K ((Kw m.natAbs).map If++out):=by
    intro d hdd;have e1:Ml.wrap (Js.wrap (48+d))=If (LH (48+m.natAbs % 10)):=by
     rw[aK _ (by omega) (by omega),E4 _ (by omega) (by omega)];unfold If;have:=(lx (m.natAbs % 10) (by omega)).2.2;omega
    rw[hw,e1,AS n t K j k (M2 m 10) _ (by rw[hd];rw[Oe]at hm;omega) (by omega) (by simp;omega) (by omega),hd]
    congr 1
    by_cases hu:m.natAbs<10
    ·have hz:M2 m 10=0:=by omega
     rw[ab hz,o5 hu]
     simp[Nat.mod_eq_of_lt hu]
    ·have hz:¬M2 m 10=0:=by omega
     rw[ao hz,sD hu]
     simp
   have hl2:∀z:Int,Jp [z]+Jp out<=aT:=λz=>by unfold aT;simp;omega
   rw[ao h0,ab (by simpa using h0)]
   split
   ·rename_i hneg
    rw[ab (hl2 _)];apply step;have hneg:=of_decide_eq_true hneg;rw[aK _ (by omega) (by omega)];omega
   ·rename_i hneg
    have hneg:¬(Int.tmod m 10)<0:=λh=>hneg (iW h)
    rw[ab (hl2 _)];apply step;omega
theorem qY (n:Nat)(x:Int)(hn:25<=n)(h0:-4611686018427387904<=x)(h1:x<=4611686018427387904):bO.F n x=some (bt (KT x)):=by
 unfold bO.F
 split
 ·rename_i h
  have h:=of_decide_eq_true h;subst h;have:KT 0=[48]:=by unfold KT;rw[ao (by omega),show Jr 0=0 from rfl,o5 (by omega)];rfl
  rw[this]
  rfl
 ·rename_i h
  have h:¬x=0:=λe=>h (iW e)
  rw[AS n x _ 20 n x [] (by omega) (by omega) (by simp) (by omega)];rw[ao h,Ky];unfold KT
  by_cases hx:x<0
  ·rw[ab (iW hx),ab hx,ab]
   ·rw[AQ,Kx,AR]
    rfl
   ·have:=oQ 19 x.natAbs (by omega)
    unfold aT
    simp
    omega
  ·rw[ao (by simpa using hx),ao hx,AQ,AR]
   have:x.natAbs=x.toNat:=by omega
   rw[this]
def ly (l:List UInt8):Prop:=∃x:Int,-1000000<=x/\x<=1000000/\l=KT x
def iB (l:List UInt8):List UInt8:=match l with
 |[]=>[]
 |c::r=>if c.toNat=45 then r else c::r
theorem dW (n:Nat)(a b c:Int):bi.F n a b c=some (decide (b<=a/\a<=c)):=by
 unfold bi.F
 by_cases h:b<=a
 ·rw[ab (by simpa using h)]
  simp[h]
 ·rw[ao (by simpa using h)]
  simp[h]
theorem qm (n:Nat)(b:Int):dH.F n b=some (decide (48<=b/\b<=57)):=by
 unfold dH.F
 by_cases h:48<=b
 ·rw[ab (by simpa using h)]
  simp[h]
 ·rw[ao (by simpa using h)]
  simp[h]
theorem xL {b:UInt8}{d:Nat}(h:Mj b=some d):d<=9/\b.toNat=48+d:=by
 unfold Mj at h
 split at h
 ·cases h;omega
 ·cases h
theorem AT (n:Nat)(s:ByteArray)(K:Int->Option (Int×Bool)):∀(r pre:List UInt8) (t k:Nat),Jp (pre++r)<=7->t<10 ^ pre.length->r.length+1<=k->
  bo.l1 n s (bt (pre++r)) K k (t:Int) (pre.length:Int)=match LR t r with|some v=>K (v:Int)|none=>some (0,false)
 |r,pre,t,0,_,_,hk=>by omega
 |[],pre,t,k+1,hl,ht,hk=>by
  unfold bo.l1;rw[ah,ao (by simp)]
  rfl
 |c::r,pre,t,k+1,hl,ht,hk=>by
  unfold bo.l1;have hlen:(pre.length:Int)<((pre++c::r).length:Int):=by simp;omega
  have hat:aP (bt (pre++c::r)) (pre.length:Int)=(c.toNat:Int):=by rw[ul,cR]
  rw[ah,ab (iW hlen),ab ⟨by omega,hlen⟩,hat,qm];simp only[Jn];simp only[LR];have hpl:pre.length<=6:=by simp at hl;omega
  have hp:(10:Nat) ^ pre.length<=10 ^ 6:=Ow (by omega) hpl;cases hd:Mj c with
  |none=>
   have:¬(48<=(c.toNat:Int)/\(c.toNat:Int)<=57):=by
    intro⟨h1,h2⟩;unfold Mj at hd;rw[ab (by omega)]at hd;cases hd
   rw[ab (by simp only[LY,vJ];exact this)]
  |some d=>
   obtain⟨d1,d2⟩:=xL hd;rw[ao (by simp;omega),ab ⟨by omega,hlen⟩,E4 _ (by omega) (by omega),aK (10*(t:Int)) (by omega) (by omega),aK ((c.toNat:Int) - 48) (by omega) (by omega),
    aK (10*(t:Int)+_) (by omega) (by omega),aK ((pre.length:Int)+1) (by omega) (by omega)]
   have e1:10*(t:Int)+((c.toNat:Int) - 48)=((t*10+d:Nat):Int):=by omega
   have e2:(pre.length:Int)+1=((pre++[c]).length:Int):=by simp
   have e3:pre++c::r=(pre++[c])++r:=by simp
   rw[e1,e2,e3];exact AT n s K r (pre++[c]) (t*10+d) k (by rw[← e3];exact hl) (by simp only[Jv,Ku,Oe];omega) (by simpa using hk)
theorem o6 {x:Int}(h0:-1000000<=x)(h1:x<=1000000):∃u:Nat,u<=1000000/\((1<=u/\x= -(u:Int)/\KT x=45::Kw u)\/(x=(u:Int)/\KT x=Kw u)):=by
 refine⟨x.natAbs,by omega,?_⟩;unfold KT
 by_cases h:x<0
 ·exact .inl ⟨by omega,by omega,by rw[ab h]⟩
 ·exact .inr ⟨by omega,by rw[ao h,show x.toNat=x.natAbs by omega]⟩
theorem ml {u:Nat}:iB (45::Kw u)=Kw u/\iB (Kw u)=Kw u:=by
 refine⟨rfl,?_⟩;obtain⟨c,r,hc,h2,h3⟩:=sG u;rw[hc];unfold iB;dsimp only;rw[ao (by omega)]
theorem qn {x:Int}(h0:-1000000<=x)(h1:x<=1000000):∃u:Nat,u<=1000000/\iB (KT x)=Kw u/\x=if iB (KT x)=KT x then(u:Int)else -(u:Int):=by
 obtain⟨u,hu,h|h⟩:=o6 h0 h1
 ·refine⟨u,hu,by rw[h.2.2];exact ml.1,?_⟩
  rw[h.2.2,ml.1,ao]
  ·exact h.2.1
  ·intro e
   have:=congrArg Jp e
   simp at this
 ·refine⟨u,hu,by rw[h.2];exact ml.2,?_⟩
  rw[h.2,ml.2,ab rfl];exact h.1
theorem sI {u:Nat}(h:u<=1000000):1<=(Kw u).length/\(Kw u).length<=7:=by
 refine⟨?_,by have:=oQ 6 u (by omega);omega⟩;have:=zG u;cases h:Kw u with
 |nil=>exact bH h this
 |cons c r=>simp
theorem pQ (n:Nat)(l:List UInt8)(hn:25<=n):∃v ok,bo.F n (bt l)=some (v,ok)/\(ok=true↔ly l)/\(ok=true->l=KT v/\ -1000000<=v/\v<=1000000):=by
 have key:bo.F n (bt l)=bo.j0 n (bt l) 0 (bt (iB l)):=by
  unfold bo.F;cases l with
  |nil=>rw[ah,ao (by simp)];rfl
  |cons c r=>
   have hat:aP (bt (c::r)) 0=(c.toNat:Int):=by have:=ul (c::r) 0;simpa using this
   rw[ah,ab (by simp<;>omega),ab (by simp<;>omega),hat]
   by_cases hc:c.toNat=45
   ·rw[ab (by simp;omega),ab (by simp;omega),gb]
    congr 2
    unfold iB;dsimp only;rw[ab hc]
    simp
   ·rw[ao (by simp;omega)]
    congr 2
    unfold iB;dsimp only;rw[ao hc]
 rw[key];have hnum:ly l->∃u:Nat,u<=1000000/\iB l=Kw u:=by
  rintro⟨x,h0,h1,rfl⟩;obtain⟨u,hu,h2,_⟩:=qn h0 h1;exact⟨u,hu,h2⟩
 unfold bo.j0;rw[ah,dW];simp only[Jn]
 by_cases hlen:1<=(iB l).length/\(iB l).length<=7
 ·rw[ao (by simp;omega)]
  have:=AT n (bt l) (λt11=>
   if(!(Kk (bt (iB l)) (bt l)))=true then
    (bO.F n (Js.wrap (0 - t11))).bind λr12=>
    if(Kk r12 (bt l))=true then
     (bi.F n (Js.wrap (0 - t11)) (-1000000) 1000000).bind λr13=>
     some (Js.wrap (0 - t11),r13)
    else
     some (Js.wrap (0 - t11),false)
   else
    (bO.F n t11).bind λr14=>
    if(Kk r14 (bt l))=true then
     (bi.F n t11 (-1000000) 1000000).bind λr15=>
     some (t11,r15)
    else
     some (t11,false)) (iB l) [] 0 n (by simpa using hlen.2) (by simp) (by omega)
  simp only[Kv,Jz,Int.natCast_zero]at this;rw[this];cases hv:LR 0 (iB l)with
  |none=>
   refine⟨0,false,rfl,⟨λh=>(by cases h),λh=>?_⟩,λh=>by cases h⟩;obtain⟨u,_,h2⟩:=hnum h;rw[h2,na]at hv;cases hv
  |some v=>
   have hv7:=Lib.decFrom_lt _ _ _ hv;have hp:(10:Nat) ^ (iB l).length<=10 ^ 7:=Ow (by omega) hlen.2;have hvlt:v<10000000:=by omega
   have fin:∀x:Int,x=(if iB l=l then(v:Int)else -(v:Int))->
     ∃v' ok,((bO.F n x).bind λr14=>if(Kk r14 (bt l))=true then(bi.F n x (-1000000) 1000000).bind λr15=>some (x,r15)else some (x,false))=some (v',ok)/\
      (ok=true↔ly l)/\(ok=true->l=KT v'/\ -1000000<=v'/\v'<=1000000):=by
    intro x hx;have hxb:-10000000<=x/\x<=10000000:=by split at hx<;>omega
    rw[qY n x hn (by omega) (by omega)];simp only[Jn,ge];have toX:ly l->l=KT x/\ -1000000<=x/\x<=1000000:=by
     rintro⟨y,h0,h1,rfl⟩;obtain⟨u,hu,h2,h3⟩:=qn h0 h1;rw[h2,na]at hv;cases hv;rw[← h3]at hx;rw[hx];exact⟨rfl,h0,h1⟩
    by_cases he:KT x=l
    ·rw[ab (by simpa using he),dW]
     refine⟨x,_,rfl,⟨λh=>?_,λh=>?_⟩,λh=>?_⟩
     ·have:=of_decide_eq_true h
      exact⟨x,this.1,this.2,he.symm⟩
     ·exact iW (toX h).2
     ·exact⟨he.symm,of_decide_eq_true h⟩
    ·rw[ao (by simpa using he)]
     exact⟨x,false,rfl,⟨λh=>(by cases h),λh=>bH (toX h).1.symm he⟩,λh=>by cases h⟩
   dsimp only;rw[ge]
   by_cases hu:iB l=l
   ·rw[ao (by simpa using hu)]
    exact fin _ (by rw[ab hu])
   ·rw[ab (by simpa using hu),aK _ (by omega) (by omega)]
    exact fin _ (by rw[ao hu];omega)
 ·rw[ab (by simp;omega)]
  refine⟨0,false,rfl,⟨λh=>(by cases h),λh=>?_⟩,λh=>by cases h⟩;obtain⟨u,hu,h2⟩:=hnum h;rw[h2]at hlen;exact bH (sI hu) hlen
theorem nc (b:Bool):b=false\/b=true:=by cases b<;>simp
def cY (b:UInt8):Bool:=decide (48<=b.toNat/\b.toNat<=57)
def kB (b:UInt8):Bool:=decide (65<=b.toNat/\b.toNat<=90)
def kC (b:UInt8):Bool:=decide (97<=b.toNat/\b.toNat<=122)||kB b
def dt (b:UInt8):Bool:=kC b||cY b||decide (b.toNat=95)
def eU (b:UInt8):Bool:=decide (32<=b.toNat/\b.toNat<=126/\b.toNat≠34/\b.toNat≠92)
theorem in_eq (n:Nat)(a b c:Int):eD.F n a b c=some (decide (b<=a/\a<=c)):=by
 unfold eD.F
 by_cases h:b<=a
 ·rw[ab (by simpa using h)]
  simp[h]
 ·rw[ao (by simpa using h)]
  simp[h]
theorem iM (n:Nat)(b:UInt8):dJ.F n (b.toNat:Int)=some (cY b):=by
 unfold dJ.F cY
 by_cases h:48<=b.toNat
 ·rw[ab (by simp;omega)]
  congr 1
  rw[decide_eq_decide];omega
 ·rw[ao (by simp;omega)]
  congr 1
  symm
  rw[vJ];omega
theorem xM (b:UInt8):(if decide ((b.toNat:Int)>=65)=true then some (decide ((b.toNat:Int)<=90))else some false)=some (kB b):=by
 unfold kB
 by_cases h:65<=b.toNat
 ·rw[ab (by simp;omega)]
  congr 1
  rw[decide_eq_decide];omega
 ·rw[ao (by simp;omega)]
  congr 1
  symm
  rw[vJ];omega
theorem sJ (n:Nat)(b:UInt8):gn.F n (b.toNat:Int)=some (kC b):=by
 unfold gn.F;rw[xM];unfold kC
 by_cases h:97<=b.toNat
 ·rw[ab (by simp;omega)]
  by_cases h2:b.toNat<=122
  ·rw[ao (by simp;omega),iW (⟨h,h2⟩:97<=b.toNat/\b.toNat<=122)]
   rfl
  ·rw[ab (by simp;omega),dq (by omega:¬(97<=b.toNat/\b.toNat<=122))]
   rfl
 ·rw[ao (by simp;omega),dq (by omega:¬(97<=b.toNat/\b.toNat<=122))]
  rfl
theorem xN (n:Nat)(b:UInt8):ia.F n (b.toNat:Int)=some (dt b):=by
 unfold ia.F;rw[sJ];simp only[Jn];rw[iM];simp only[Jn];unfold dt;cases kC b
 ·cases cY b
  ·simp
   omega
  ·simp
 ·simp
theorem uo (n:Nat)(b:UInt8):dX.F n (b.toNat:Int)=some (decide (97<=b.toNat/\b.toNat<=122)):=by
 unfold dX.F
 by_cases h:97<=b.toNat
 ·rw[ab (by simp;omega)]
  congr 1
  rw[decide_eq_decide];omega
 ·rw[ao (by simp;omega)]
  congr 1
  symm
  rw[vJ];omega
theorem qZ (n:Nat)(b:UInt8):ff.F n (b.toNat:Int)=some (kB b):=by
 unfold ff.F;exact xM b
theorem lQ (n:Nat)(b:UInt8):dH.F n (b.toNat:Int)=some (cY b):=by
 rw[qm];unfold cY
 congr 1
 rw[decide_eq_decide];omega
theorem sK (n:Nat)(b:UInt8):fp.F n (b.toNat:Int)=some (dt b):=by
 unfold fp.F;rw[uo];simp only[Jn];rw[qZ];simp only[Jn];rw[lQ];simp only[Jn];unfold dt kC;cases decide (97<=b.toNat/\b.toNat<=122)
 ·cases kB b
  ·cases cY b
   ·simp
    omega
   ·simp
  ·simp
 ·simp
def fO (l:List UInt8):Bool:=decide (1<=l.length/\l.length<=20)&&(match l with|[]=>false|c::_=>kB c)&&l.all dt
theorem ev (pre r:List UInt8)(c:UInt8):aP (bt (pre++c::r)) (pre.length:Int)=(c.toNat:Int):=by rw[ul,cR]
theorem iv (c:UInt8)(r:List UInt8):aP (bt (c::r)) 0=(c.toNat:Int):=by have:=ul (c::r) 0;simpa using this
theorem fC (pre r:List UInt8)(c:UInt8):(pre.length:Int)<((pre++c::r).length:Int):=by simp;omega
theorem cF (pre r:List UInt8)(c:UInt8):(0:Int)<=(pre.length:Int)/\(pre.length:Int)<((pre++c::r).length:Int):=⟨by omega,fC pre r c⟩
theorem hJ (pre:List UInt8)(c:UInt8):(pre.length:Int)+1=((pre++[c]).length:Int):=by simp
theorem eR (pre r:List UInt8)(c:UInt8):pre++c::r=(pre++[c])++r:=by simp
theorem uq (n:Nat)(K:Unit->Option Bool):∀(r pre:List UInt8) (k:Nat),(pre++r).length<=4294967296->r.length+1<=k->
  dZ.l1 n (bt (pre++r)) K k (pre.length:Int)=if r.all dt=true then K ()else some false
 |r,pre,0,_,hk=>by omega
 |[],pre,k+1,hl,hk=>by
  unfold dZ.l1;rw[ah,ao (by simp)]
  rfl
 |c::r,pre,k+1,hl,hk=>by
  unfold dZ.l1;rw[ah,ab (iW (fC pre r c)),ab (cF pre r c),ev,sK];simp only[Jn,Kz];rcases nc (dt c)with hw|hw
  ·simp[hw]
  ·simp only[hw,KR,JG,if_false,KB]
   simp only[Jv,Ju]at hl;rw[aK _ (by omega) (by omega),hJ pre c,eR];exact uq n K r (pre++[c]) k (by simp;omega) (by simpa using hk)
theorem zH (n:Nat)(l:List UInt8)(hl:l.length<=4294967296)(hn:l.length+1<=n):dZ.F n (bt l) true=some (fO l):=by
 unfold dZ.F;rw[ah,dW];simp only[Jn]
 by_cases h:1<=l.length/\l.length<=20
 ·rw[ab (by simp;omega),ab trivial]
  cases l with
  |nil=>simp at h
  |cons c r=>
   rw[ab (by simp<;>omega),iv,qZ];simp only[Jn];unfold fO;rw[iW h];rcases nc (kB c)with hb|hb
   ·simp[hb]
   ·simp only[hb,KR,if_true,JG,if_false,KB]
    unfold dZ.j0;have:=uq n (λ_=>some true) (c::r) [] n (by simpa using hl) hn;simp only[Kv,Jz]at this;rw[show((0:Nat):Int)=0 from rfl]at this;rw[this];rcases nc ((c::r).all dt)with hw|hw<;>simp[hw]
 ·rw[ao (by simp;omega)]
  unfold fO;rw[dq h]
  rfl
theorem AU (n:Nat)(K:Int->Option Int):∀(r pre:List UInt8) (k:Nat),pre≠[]->(pre++r).length<=4294967296->r.length+1<=k->
  cK.l0 n (bt (pre++r)) K k (pre.length:Int)=K ((pre.length+(r.takeWhile dt).length:Nat):Int)
 |r,pre,0,_,_,hk=>by omega
 |[],pre,k+1,hp,hl,hk=>by
  unfold cK.l0;rw[ah,ao (by simp)]
  rfl
 |c::r,pre,k+1,hp,hl,hk=>by
  unfold cK.l0;rw[ah,ab (iW (fC pre r c)),ab (cF pre r c),ev,xN];simp only[Jn,Kb];have hp0:0<pre.length:=Lw.2 hp;rcases nc (dt c)with hw|hw
  ·simp[hw]
  ·simp only[hw,if_true]
   simp only[Jv,Ju]at hl;rw[ao (by simp;omega),aK _ (by omega) (by omega),hJ pre c,eR,AU n K r (pre++[c]) k (by simp) (by simp;omega) (by simpa using hk)]
   congr 2
   simp
   omega
theorem nd (n:Nat)(l:List UInt8)(hl:l.length<=4294967296)(hn:l.length+1<=n):
  cK.F n (bt l)=some ((match l with|[]=>0|c::_=>if kC c=true then(l.takeWhile dt).length else 0:Nat):Int):=by
 unfold cK.F;cases l with
 |nil=>
  obtain⟨k,rfl⟩:∃k,n=k+1:=⟨n - 1,by omega⟩
  unfold cK.l0;rw[ah,ao (by simp)]
  rfl
 |cons c r=>
  obtain⟨k,rfl⟩:∃k,n=k+1:=⟨n - 1,by omega⟩
  unfold cK.l0;simp only[Ju]at hl hn;rw[ah,ab (by simp<;>omega),ab (by simp<;>omega),iv,xN];simp only[Jn];have hz:decide ((0:Int)>0)=false:=by simp
  have hin:(0:Int)<=0/\0<((c::r).length:Int):=⟨by omega,by simp<;>omega⟩;rw[sJ,ab hz,ab hin];simp only[Jn];rcases nc (kC c)with ht|ht
  ·rcases nc (dt c)with hw|hw<;>simp[hw,ht]
  ·have hw:dt c=true:=by unfold dt;rw[ht];rfl
   simp only[hw,ht,if_true];rw[aK _ (by omega) (by omega)];have:=AU (k+1) (λt6=>some t6) r [c] k (by simp) (by simp;omega) (by omega);simp only[Ku,Le]at this;rw[show(0:Int)+1=((1:Nat):Int)from rfl,this]
   congr 2
   rw[Kb,hw]
   simp
   omega
theorem nL {p:UInt8->Bool}{l:List UInt8}:(l.takeWhile p).length=l.length↔l.all p=true:=by
 induction l with
 |nil=>simp
 |cons c r ih=>
  rw[Kb,Kz];cases hp:p c
  ·simp
  ·simp[ih]
theorem AV (n:Nat):∀(r pre:List UInt8) (k:Nat),(pre++r).length<=4294967296->r.length+1<=k->
  cG.l0 n (bt (pre++r)) (λ_=>some 0) k (pre.length:Int)=
   some (if pre.length+(r.takeWhile eU).length<=21/\r[(r.takeWhile eU).length]? =some 34 then((pre.length+(r.takeWhile eU).length+1:Nat):Int)else 0)
 |r,pre,0,_,hk=>by omega
 |[],pre,k+1,hl,hk=>by
  unfold cG.l0;rw[ah,ao (by simp),ao (by simp)]
 |c::r,pre,k+1,hl,hk=>by
  unfold cG.l0;simp only[Jv,Ju]at hl;rw[ah,ab (iW (fC pre r c))]
  by_cases h21:pre.length<=21
  ·rw[ab (by simp;omega)]
   unfold cG.j1;rw[ah,ab (cF pre r c),ev,Kb]
   by_cases hq:c.toNat=34
   ·have hpl:eU c=false:=by unfold eU;simp;omega
    have hc:c=34:=LV.1 hq;rw[ab (by simp;omega),hpl,aK _ (by omega) (by omega),ab]
    ·simp
    ·simp[hc];omega
   ·rw[ao (by simp;omega),ab (cF pre r c)]
    have hc:¬c=34:=λe=>hq (by rw[e];rfl)
    rcases nc (eU c)with hpl|hpl
    ·have hpl':=hpl
     simp only[eU,vJ]at hpl;have z:∀(P:Prop) [Decidable P],(if(decide ((c.toNat:Int)<32))=false then(if(0:Int)<=(pre.length:Int)/\(pre.length:Int)<((pre++c::r).length:Int)then(if(decide ((c.toNat:Int)>126))=false then(if(0:Int)<=(pre.length:Int)/\(pre.length:Int)<((pre++c::r).length:Int)then(if decide ((c.toNat:Int)=92)=true then some (0:Int)else cG.l0 n (bt (pre++c::r)) (λ_=>some 0) k (Js.wrap ((pre.length:Int)+1)))else none)else some 0)else none)else some 0)=some 0:=by
      intro P _
      by_cases h1:c.toNat<32
      ·rw[ao (by simp;omega)]
      ·rw[ab (by simp;omega),ab (cF pre r c)]
       by_cases h2:126<c.toNat
       ·rw[ao (by simp;omega)]
       ·rw[ab (by simp;omega),ab (cF pre r c),ab (by simp;omega)]
     rw[z True,hpl']
     simp[hc]
    ·have hpl':=hpl
     simp only[eU,dg]at hpl;rw[hpl'];rw[ab (by simp;omega),ab (cF pre r c),ab (by simp;omega),ab (cF pre r c),ao (by simp;omega),aK _ (by omega) (by omega),hJ pre c,eR];refine(AV n r (pre++[c]) k (by simp;omega) (by simpa using hk)).trans ?_
     congr 1
     simp only[if_true,Jv,Ku,Ju,Jz,Nat.zero_add,List.getElem?_cons_succ];have e1:pre.length+1+(r.takeWhile eU).length=pre.length+((r.takeWhile eU).length+1):=by omega
     rw[e1]
  ·rw[ao (by simp;omega),ao (by omega)]
theorem nM (n:Nat)(c:UInt8)(r:List UInt8)(hl:r.length<=4294967000)(hn:r.length+1<=n):
  cG.F n (bt (c::r))=some (if(r.takeWhile eU).length<=20/\r[(r.takeWhile eU).length]? =some 34 then(((r.takeWhile eU).length+2:Nat):Int)else 0):=by
 unfold cG.F;have:=AV n r [c] n (by simp;omega) hn;simp only[Ku,Le]at this;rw[show((1:Nat):Int)=1 from rfl]at this;rw[this]
 congr 1
 have e1:1+(r.takeWhile eU).length+1=(r.takeWhile eU).length+2:=by omega
 rw[e1]
 by_cases h:(r.takeWhile eU).length<=20/\r[(r.takeWhile eU).length]? =some 34
 ·rw[ab ⟨by omega,h.2⟩,ab h]
 ·rw[ao (by rintro⟨h1,h2⟩;exact h ⟨by omega,h2⟩),ao h]
def aC:List (List UInt8)->List UInt8
 |[]=>[]
 |a::bs=>44::(a++aC bs)
inductive Tm:Nat->List UInt8->Prop where
 |num (x:Int) (h0:-1000000<=x) (h1:x<=1000000):Tm 1 (KT x)
 |sym (m:List UInt8) (h:m.length<=20) (hp:m.all eU=true):Tm 2 (34::(m++[34]))
 |con0 (nm:List UInt8) (h:fO nm=true):Tm 3 nm
 |con (nm a:List UInt8) (bs:List (List UInt8)) (h:fO nm=true) (ks:List UInt8->Nat) (hh:∀x∈a::bs,Tm (ks x) x):Tm 3 (nm++40::(a++(aC bs++[41])))
theorem Tm.kind {k:Nat}{l:List UInt8}(h:Tm k l):1<=k/\k<=3:=by cases h<;>omega
def xO (l:List UInt8):Prop:=l=[]\/∃c r,l=c::r/\(c=44\/c=41)
theorem iN {nm:List UInt8}(h:fO nm=true):∃c r,nm=c::r/\kB c=true/\nm.length<=20/\nm.all dt=true:=by
 unfold fO at h;simp only[Jx,dg]at h;cases nm with
 |nil=>simp at h
 |cons c r=>exact⟨c,r,rfl,h.1.2,h.1.1.2,h.2⟩
theorem pR {x:Int}(h0:-1000000<=x)(h1:x<=1000000):∃c r,KT x=c::r/\(c=45\/cY c=true)/\r.all cY=true:=by
 have all:∀u,(Kw u).all cY=true:=by
  intro u;rw[Kc];intro b hb;unfold cY;exact iW (sE u b hb)
 obtain⟨u,hu,h|h⟩:=o6 h0 h1
 ·exact⟨45,_,h.2.2,.inl rfl,all u⟩
 ·obtain⟨c,r,hc,h2,h3⟩:=sG u
  have:=all u;rw[hc,Kz,Jx]at this;exact⟨c,r,by rw[h.2,hc],.inr this.1,this.2⟩
theorem Tm.ne {k:Nat}{l:List UInt8}(h:Tm k l):l≠[]:=by
 cases h with
 |num x h0 h1=>obtain⟨c,r,hc,_⟩:=pR h0 h1;rw[hc];simp
 |sym m h hp=>simp
 |con0 nm h=>obtain⟨c,r,hc,_⟩:=iN h;rw[hc];simp
 |con nm a bs h ks hh=>simp
theorem iC {p:UInt8->Bool}{a r:List UInt8}(ha:a.all p=true)(hr:r=[]\/∃c t,r=c::t/\p c=false):(a++r).takeWhile p=a:=by
 induction a with
 |nil=>
  rcases hr with rfl|⟨c,t,rfl,hc⟩
  ·rfl
  ·simp[hc]
 |cons c a ih=>
  rw[Kz,Jx]at ha;rw[KZ,Kb,ha.1,ab rfl,ih ha.2]
theorem AW {p:UInt8->Bool}(h1:p 44=false)(h2:p 41=false){r:List UInt8}(h:xO r):r=[]\/∃c t,r=c::t/\p c=false:=by
 rcases h with rfl|⟨c,t,rfl,rfl|rfl⟩
 ·exact .inl rfl
 ·exact .inr ⟨_,_,rfl,h1⟩
 ·exact .inr ⟨_,_,rfl,h2⟩
theorem AX (n:Nat)(self:ByteArray->Option (Int×Int))(K:Int->Option (Int×Int)):∀(r pre:List UInt8) (k:Nat),(pre++r).length<=4294967296->r.length+1<=k->
  aH.l1 n self (bt (pre++r)) K k (pre.length:Int)=K ((pre.length+(r.takeWhile cY).length:Nat):Int)
 |r,pre,0,_,hk=>by omega
 |[],pre,k+1,hl,hk=>by
  unfold aH.l1;rw[ah,ao (by simp)]
  rfl
 |c::r,pre,k+1,hl,hk=>by
  unfold aH.l1;rw[ah,ab (iW (fC pre r c)),ab (cF pre r c),ev,iM];simp only[Jn,Kb];rcases nc (cY c)with hw|hw
  ·simp[hw]
  ·simp only[hw,if_true]
   simp only[Jv,Ju]at hl;rw[aK _ (by omega) (by omega),hJ pre c,eR,AX n self K r (pre++[c]) k (by simp;omega) (by simpa using hk)]
   congr 2
   simp
   omega
theorem E5 (n:Nat)(self:ByteArray->Option (Int×Int))(c:UInt8)(r:List UInt8)(Kn:Unit->Option (Int×Int))(hl:r.length<=4294960000)(hn:r.length+1<=n):
  (ly (c::r.takeWhile cY)->aH.j0 n self (bt (c::r)) true Kn=some (1,(((c::r.takeWhile cY).length:Nat):Int)))/\
  (¬ly (c::r.takeWhile cY)->aH.j0 n self (bt (c::r)) true Kn=Kn ()):=by
 have hw:(r.takeWhile cY).length<=r.length:=(Lt cY).length_le;have htk:(c::r).take (r.takeWhile cY).length.succ=c::r.takeWhile cY:=by
  rw[List.take_succ_cons]
  congr 1
  exact(NV.1 (Lt cY)).symm
 have key:aH.j0 n self (bt (c::r)) true Kn=
   (match MA (c::r.takeWhile cY)with
    | .ok v=>if -1000000<=v/\v<=1000000/\KT v=c::r.takeWhile cY then some (1,(((c::r.takeWhile cY).length:Nat):Int))else Kn ()
    |_=>Kn ()):=by
  unfold aH.j0;rw[ab rfl];have:=AX n self (λt9=>
   if(0:Int)<=0/\(0:Int)<=t9/\t9<=(Jq (bt (c::r)):Int)then
    (fa.F n (JM (bt (c::r)) (Jr 0) (Jr t9))).bind λr10=>
    if(r10.2&&false)=true then
     none
    else
     if(r10.2==false)=true then
      (eD.F n r10.1 (-1000000) 1000000).bind λr11=>
      if r11=true then
       (cJ.F n r10.1).bind λr12=>
       if(0:Int)<=0/\(0:Int)<=t9/\t9<=(Jq (bt (c::r)):Int)then
        if(Kk r12 (JM (bt (c::r)) (Jr 0) (Jr t9)))=true then
         some (1,t9)
        else
         Kn ()
       else
        none
      else
       Kn ()
     else
      Kn ()
   else
    none) r [c] n (by simp;omega) hn
  simp only[Ku,Le]at this;rw[show((1:Nat):Int)=1 from rfl]at this;rw[this];have hin:(0:Int)<=0/\(0:Int)<=((1+(r.takeWhile cY).length:Nat):Int)/\((1+(r.takeWhile cY).length:Nat):Int)<=(Jq (bt (c::r)):Int):=by
   rw[ah,Ju];omega
  have hex:JM (bt (c::r)) (Jr 0) (Jr ((1+(r.takeWhile cY).length:Nat):Int))=bt (c::r.takeWhile cY):=by
   rw[gb,JQ,show Jr 0=0 from rfl,JW,Nat.add_comm,htk]
  have hlen:((1+(r.takeWhile cY).length:Nat):Int)=(((c::r.takeWhile cY).length:Nat):Int):=by rw[Ju,Nat.add_comm]
  rw[ab hin,hex];unfold fa.F;rw[ab (by rw[ah,Ju];omega),ek];simp only[Jn,Bool.and_false,JG,if_false];rcases MA (c::r.takeWhile cY)with v|_|_
  ·dsimp only
   rw[ab (show(false==false)=true from rfl),in_eq];simp only[Jn]
   by_cases hr:-1000000<=v/\v<=1000000
   ·rw[ab (iW hr)]
    unfold cJ.F;rw[ab (by omega)];simp only[Jn];rw[ab hin,II,ge,hlen]
    by_cases he:KT v=c::r.takeWhile cY
    ·rw[ab (by simpa using he),ab ⟨hr.1,hr.2,he⟩]
    ·rw[ao (by simpa using he),ao (λh=>he h.2.2)]
   ·rw[ao (by simpa using hr),ao (λh=>hr ⟨h.1,h.2.1⟩)]
  ·rfl
  ·rfl
 rw[key]
 constructor
 ·rintro⟨x,h0,h1,hx⟩
  rw[hx,um x h0 h1];dsimp only;rw[ab ⟨h0,h1,rfl⟩]
 ·intro hno
  rcases h:MA (c::r.takeWhile cY)with v|_|_
  ·dsimp only
   rw[ao];rintro⟨h0,h1,h2⟩;exact hno ⟨v,h0,h1,h2.symm⟩
  ·rfl
  ·rfl
def TR (l:List UInt8)(res:Int×Int):Prop:=res=(0,0)\/∃(k:Nat) (t rest:List UInt8),res=((k:Int),(t.length:Int))/\Tm k t/\l=t++rest
theorem oR (l:List UInt8)(p:Nat):JM (bt l) (Jr (p:Int)) (Jr (Jq (bt l):Int))=bt (l.drop p):=by
 rw[gb,ah,JQ,JQ,List.take_length]
theorem xP (n:Nat)(self:ByteArray->Option (Int×Int))(l:List UInt8)(K:Int->Option (Int×Int))(hl:l.length<=4294960000)
  (hS:∀l':List UInt8,l'.length<l.length->∃res,self (bt l')=some res/\TR l' res):∀(k p:Nat),p<l.length->l.length - p+1<=k->
  aH.l4 n self (bt l) K k (p:Int) true=some (0,0)\/∃(a:List UInt8) (bs:List (List UInt8)) (rest:List UInt8),l.drop (p+1)=a++(aC bs++rest)/\(∀x∈a::bs,∃k,Tm k x)/\
   aH.l4 n self (bt l) K k (p:Int) true=K ((p+1+(a++aC bs).length:Nat):Int)
 |0,p,_,hk=>by omega
 |k+1,p,hp,hk=>by
  have hlen:(l.drop (p+1)).length<l.length:=by rw[LS];omega
  obtain⟨res,hres,htr⟩:=hS _ hlen;have hw1:Js.wrap ((p:Int)+1)=((p+1:Nat):Int):=by rw[aK _ (by omega) (by omega)];omega
  have hin:(0:Int)<=((p+1:Nat):Int)/\((p+1:Nat):Int)<=(Jq (bt l):Int)/\(Jq (bt l):Int)<=(Jq (bt l):Int):=by rw[ah];omega
  have key:aH.l4 n self (bt l) K (k+1) (p:Int) true=
    (if decide (res.1=0)=true then some (0,0)else
     if(decide ((Js.wrap ((p:Int)+(Js.wrap (1+res.2))))<(Jq (bt l):Int)))=true then
      if(0:Int)<=(Js.wrap ((p:Int)+(Js.wrap (1+res.2))))/\(Js.wrap ((p:Int)+(Js.wrap (1+res.2))))<(Jq (bt l):Int)then
       aH.l4 n self (bt l) K k (Js.wrap ((p:Int)+(Js.wrap (1+res.2)))) (decide ((aP (bt l) (Js.wrap ((p:Int)+(Js.wrap (1+res.2)))))=44))
      else none
     else aH.l4 n self (bt l) K k (Js.wrap ((p:Int)+(Js.wrap (1+res.2)))) false):=by
   conv=>lhs;unfold aH.l4
   rw[ab rfl,hw1,ab hin,oR,hres]
   rfl
  rw[key];rcases htr with rfl|⟨kk,t,rest,rfl,ht,hdr⟩
  ·left;rw[ab (by simp)]
  ·have hkk:=ht.kind
   have htl:t.length+rest.length=l.length - (p+1):=by rw[← LS,hdr,Jv]
   have hw2:Js.wrap ((p:Int)+(Js.wrap (1+(t.length:Int))))=((p+1+t.length:Nat):Int):=by
    rw[aK (1+(t.length:Int)) (by omega) (by omega),aK _ (by omega) (by omega)];omega
   dsimp only;rw[ao (by simp;omega),hw2,ah];have stop:∀k',1<=k'->aH.l4 n self (bt l) K k' ((p+1+t.length:Nat):Int) false=K ((p+1+t.length:Nat):Int):=by
    intro k' hk';obtain⟨j,rfl⟩:∃j,k'=j+1:=⟨k' - 1,by omega⟩
    unfold aH.l4;rw[ao (by simp)]
   have fin:∀X,X=K ((p+1+t.length:Nat):Int)->X=some (0,0)\/∃(a:List UInt8) (bs:List (List UInt8)) (rest:List UInt8),l.drop (p+1)=a++(aC bs++rest)/\(∀x∈a::bs,∃k,Tm k x)/\
     X=K ((p+1+(a++aC bs).length:Nat):Int):=by
    rintro X rfl;refine .inr ⟨t,[],rest,by rw[hdr];rfl,λx hx=>?_,by simp[aC]⟩;simp only[JZ]at hx;subst hx;exact⟨kk,ht⟩
   have htne:=ht.ne;have htpos:0<t.length:=Lw.2 htne
   by_cases hlt:p+1+t.length<l.length
   ·rw[ab (by simp;omega),ab (by omega)]
    have hdrop:l.drop (p+1+t.length)=rest:=by rw[← LB,hdr,KJ]
    cases rest with
    |nil=>rw[M1]at hdrop;omega
    |cons c r=>
     have hat:aP (bt l) ((p+1+t.length:Nat):Int)=(c.toNat:Int):=by
      rw[ul]
      congr 2
      rw[Lk,← MU,hdrop]
      rfl
     rw[hat]
     by_cases hc:c=44
     ·subst hc
      rw[show decide ((((44:UInt8).toNat:Nat):Int)=44)=true from rfl];rcases xP n self l K hl hS k (p+1+t.length) hlt (by omega)with h|⟨a,bs,rest2,h1,h2,h3⟩
      ·exact .inl h
      ·refine .inr ⟨t,a::bs,rest2,?_,λx hx=>?_,?_⟩
       ·have:r=a++(aC bs++rest2):=by
         rw[← h1,← LB,hdrop]
         rfl
        rw[hdr,this]
        simp[aC]
       ·rcases JV.1 hx with rfl|hx
        ·exact⟨kk,ht⟩
        ·exact h2 x hx
       ·rw[h3]
        congr 2
        simp[aC]
        omega
     ·have:decide ((c.toNat:Int)=44)=false:=by
       rw[vJ];intro e;exact hc (LV.1 (show c.toNat=(44:UInt8).toNat by rw[show(44:UInt8).toNat=44 from rfl];omega))
      rw[this];exact fin _ (stop k (by omega))
   ·rw[ao (by simp;omega)]
    exact fin _ (stop k (by omega))
theorem qo (n:Nat)(self:ByteArray->Option (Int×Int))(K:Int->Option (Int×Int))(L:Nat)(hL:L<=4294960000):
  ∀(bs:List (List UInt8)) (a pre rest:List UInt8) (c:UInt8) (k:Nat),pre.length+1+(a++(aC bs++41::rest)).length=L->
   (∀x∈a::bs,∀r,xO r->x.length+r.length<L->∃kx:Nat,1<=kx/\self (bt (x++r))=some ((kx:Int),(x.length:Int)))->bs.length+2<=k->
   aH.l4 n self (bt (pre++c::(a++(aC bs++41::rest)))) K k (pre.length:Int) true=K ((pre.length+1+(a++aC bs).length:Nat):Int)
 |bs,a,pre,rest,c,0,_,_,hk=>by omega
 |bs,a,pre,rest,c,k+1,hlen,hC,hk=>by
  have hstop:xO (aC bs++41::rest):=by
   cases bs with
   |nil=>exact .inr ⟨_,_,rfl,.inr rfl⟩
   |cons b bs=>exact .inr ⟨_,_,rfl,.inl rfl⟩
  simp only[Jv,Ju]at hlen;obtain⟨kx,hkx,hself⟩:=hC a JL _ hstop (by simp only[Jv,Ju];omega);have hsz:Jq (bt (pre++c::(a++(aC bs++41::rest))))=L:=by
   rw[ah];simp only[Jv,Ju];omega
  have hw1:Js.wrap ((pre.length:Int)+1)=((pre.length+1:Nat):Int):=by rw[aK _ (by omega) (by omega)];omega
  have hdr:(pre++c::(a++(aC bs++41::rest))).drop (pre.length+1)=a++(aC bs++41::rest):=by
   rw[← LB,KJ];rfl
  have hw2:Js.wrap ((pre.length:Int)+(Js.wrap (1+(a.length:Int))))=((pre.length+1+a.length:Nat):Int):=by
   rw[aK (1+(a.length:Int)) (by omega) (by omega),aK _ (by omega) (by omega)];omega
  have hat:∀(d:UInt8) (r:List UInt8),aC bs++41::rest=d::r->aP (bt (pre++c::(a++(aC bs++41::rest)))) ((pre.length+1+a.length:Nat):Int)=(d.toNat:Int):=by
   intro d r he;have e1:pre++c::(a++(aC bs++41::rest))=(pre++c::a)++d::r:=by rw[he];simp
   have e2:pre.length+1+a.length=(pre++c::a).length:=by simp;omega
   rw[e1,e2,ev]
  unfold aH.l4;rw[ab rfl,hw1,ab (by rw[hsz];omega),oR,hdr,hself];simp only[Jn];rw[ao (by simp;omega),hw2,ab (by rw[hsz];simp;omega),ab (by rw[hsz];omega)];cases bs with
  |nil=>
   rw[hat 41 rest rfl,show decide ((((41:UInt8).toNat:Nat):Int)=44)=false from rfl];obtain⟨j,rfl⟩:∃j,k=j+1:=⟨k - 1,by simp at hk;omega⟩
   unfold aH.l4;rw[ao (by simp)]
   simp[aC]
  |cons b bs=>
   rw[hat 44 _ rfl,show decide ((((44:UInt8).toNat:Nat):Int)=44)=true from rfl];have e1:pre++c::(a++(aC (b::bs)++41::rest))=(pre++c::a)++44::(b++(aC bs++41::rest)):=by simp[aC]
   have e2:pre.length+1+a.length=(pre++c::a).length:=by simp;omega
   rw[e1,e2,qo n self K L hL bs b (pre++c::a) rest 44 k (by simp only[aC,Jv,Ju]at hlen⊢;omega)
    (λx hx=>hC x (JP _ hx)) (by simp at hk;omega)]
   congr 2
   simp[aC]
   omega
theorem ng:cY 44=false/\cY 41=false/\dt 44=false/\dt 41=false/\dt 40=false:=by decide
theorem GR (n:Nat)(self:ByteArray->Option (Int×Int))(c:UInt8)(r:List UInt8)(hc:c=45\/cY c=true):
  aH.G n self (bt (c::r))=aH.j0 n self (bt (c::r)) true (λ_=>some (0,0)):=by
 have hsz:0<(Jq (bt (c::r)):Int):=by rw[ah];simp<;>omega
 unfold aH.G;rw[iA,ge,ao (by simp),ab ⟨by omega,hsz⟩,iv];have h34:¬(c.toNat:Int)=34:=by
  rcases hc with rfl|hc
  ·decide
  ·unfold cY at hc
   have:=of_decide_eq_true hc;omega
 rw[ao (by simpa using h34),ab ⟨by omega,hsz⟩];rcases hc with rfl|hc
 ·rw[ao (by decide)]
 ·have h45:¬(c.toNat:Int)=45:=by
   unfold cY at hc;have:=of_decide_eq_true hc;omega
  rw[ab (by simpa using h45),ab ⟨by omega,hsz⟩,iM,hc]
  rfl
theorem GS (n:Nat)(self:ByteArray->Option (Int×Int))(r:List UInt8)(hl:r.length<=4294960000)(hn:r.length+1<=n):
  aH.G n self (bt (34::r))=some (if(r.takeWhile eU).length<=20/\r[(r.takeWhile eU).length]? =some 34 then(2,(((r.takeWhile eU).length+2:Nat):Int))else(0,0)):=by
 have hsz:0<(Jq (bt (34::r)):Int):=by rw[ah];simp<;>omega
 unfold aH.G;rw[iA,ge,ao (by simp),ab ⟨by omega,hsz⟩,iv,ab (by decide),nM n 34 r (by omega) hn];simp only[Jn]
 by_cases h:(r.takeWhile eU).length<=20/\r[(r.takeWhile eU).length]? =some 34
 ·rw[ab h,ab h,ab (by simp;omega)]
 ·rw[ao h,ao h,ao (by simp)]
theorem E6 (n:Nat)(self:ByteArray->Option (Int×Int))(c:UInt8)(r:List UInt8)(hc:kB c=true)(hl:r.length<=4294960000)(hn:r.length+2<=n):
  aH.G n self (bt (c::r))=
   (if 20<((c::r).takeWhile dt).length then some (0,0)else match(c::r).drop ((c::r).takeWhile dt).length with
    |[]=>some (3,(((c::r).takeWhile dt).length:Int))
    |d::t=>if d=40 then aH.j3 n self (bt (c::r)) (((c::r).takeWhile dt).length:Int) (λ_=>some (0,0))else some (3,(((c::r).takeWhile dt).length:Int))):=by
 have hsz:0<(Jq (bt (c::r)):Int):=by rw[ah];simp<;>omega
 have hc':=hc;unfold kB at hc';have hc':=of_decide_eq_true hc';have hdg:cY c=false:=by unfold cY;exact dq (by omega)
 have hlt:kC c=true:=by unfold kC;rw[hc];simp
 unfold aH.G;rw[iA,ge,ao (by simp),ab ⟨by omega,hsz⟩,iv,ao (by simp;omega),ab ⟨by omega,hsz⟩,ab (by simp;omega),ab ⟨by omega,hsz⟩,iM,hdg];simp only[Jn];unfold aH.j0;rw[ao (by simp),ab ⟨by omega,hsz⟩,iv,ab (by simp;omega),ab ⟨by omega,hsz⟩,iW (by omega:(c.toNat:Int)<=90)];unfold aH.j2;rw[ab rfl,nd n (c::r) (by simp;omega) (by simp;omega)];dsimp only[Jn];rw[hlt,ab rfl];generalize hw:((c::r).takeWhile dt).length=w;have hwle:w<=(c::r).length:=by rw[← hw];exact(Lt dt).length_le
 simp only[Ju]at hwle
 by_cases h20:20<w
 ·rw[ab h20,ab (by simp;omega)]
 ·rw[ao h20,ao (by simp;omega),ah]
  cases hd:(c::r).drop w with
  |nil=>
   have:=M1.1 hd;rw[ao];simp only[Ju]at this⊢
   simp
   omega
  |cons d t=>
   have hlen:=congrArg Jp hd;rw[LS]at hlen;simp only[Ju]at hlen;have hat:aP (bt (c::r)) (w:Int)=(d.toNat:Int):=by
    rw[ul,Lk,← MU,hd]
    rfl
   rw[ab (by simp only[Ju,vJ];omega),ab (by simp only[Ju];omega),hat];dsimp only
   by_cases h40:d=40
   ·subst h40
    rw[ao (by decide),ab rfl]
   ·rw[ao h40,ab]
    simp only[LY,vJ];intro e;exact h40 (LV.1 (show d.toNat=(40:UInt8).toNat by rw[show(40:UInt8).toNat=40 from rfl];omega))
theorem FW (n:Nat)(self:ByteArray->Option (Int×Int))(c:UInt8)(r:List UInt8)(h1:¬c=34)(h2:¬c=45)(h3:cY c=false)(h4:kB c=false):
  aH.G n self (bt (c::r))=some (0,0):=by
 have hsz:0<(Jq (bt (c::r)):Int):=by rw[ah];simp<;>omega
 have n1:¬(c.toNat:Int)=34:=λe=>h1 (LV.1 (show c.toNat=(34:UInt8).toNat by rw[show(34:UInt8).toNat=34 from rfl];omega))
 have n2:¬(c.toNat:Int)=45:=λe=>h2 (LV.1 (show c.toNat=(45:UInt8).toNat by rw[show(45:UInt8).toNat=45 from rfl];omega))
 unfold kB at h4;have h4:=of_decide_eq_false h4;unfold aH.G;rw[iA,ge,ao (by simp),ab ⟨by omega,hsz⟩,iv,ao (by simpa using n1),ab ⟨by omega,hsz⟩,ab (by simpa using n2),ab ⟨by omega,hsz⟩,iM,h3];simp only[Jn];unfold aH.j0;rw[ao (by simp),ab ⟨by omega,hsz⟩,iv]
 by_cases h65:(c.toNat:Int)>=65
 ·rw[ab (by simpa using h65),ab ⟨by omega,hsz⟩]
  unfold aH.j2;rw[ao (by simp;omega)]
 ·rw[ao (by simpa using h65)]
  unfold aH.j2;rw[ao (by simp)]
theorem nh (p:UInt8->Bool)(l:List UInt8):l=l.takeWhile p++l.drop (l.takeWhile p).length:=by
 have:=(NV.1 (Lt (l:=l) p))
 conv=>lhs;rw[← List.take_append_drop (l.takeWhile p).length l]
 rw[← this]
theorem vC (p:UInt8->Bool)(l:List UInt8):(l.takeWhile p).all p=true:=by
 induction l with
 |nil=>rfl
 |cons c r ih=>
  rw[Kb];rcases nc (p c)with h|h
  ·simp[h]
  ·simp only[h,if_true,Kz,ih,Bool.and_self]
theorem FX {c:UInt8}{r:List UInt8}(hc:kB c=true)(h:¬20<((c::r).takeWhile dt).length):fO ((c::r).takeWhile dt)=true:=by
 have hw:dt c=true:=by unfold dt kC;rw[hc];simp
 unfold fO;rw[vC];rw[Kb,hw,ab rfl]at h⊢;simp only[Ju]at h⊢
 simp[hc]
 omega
theorem o7 (n:Nat)(s:ByteArray):aH.F (n+1) s=aH.G n (aH.F n) s:=rfl
theorem vD:∀(L:Nat) (l:List UInt8) (n:Nat),l.length<=L->L<=4294960000->l.length+60<=n->∃res,aH.F n (bt l)=some res/\TR l res:=by
 intro L
 induction L with
 |zero=>
  intro l n hl _ hn;obtain⟨n,rfl⟩:∃m,n=m+1:=⟨n - 1,by omega⟩
  have:l=[]:=Kq.1 (by omega);subst this;rw[o7];unfold aH.G;rw[iA,ge,ab (by simp)];exact⟨_,rfl,.inl rfl⟩
 |succ L ih=>
  intro l n hl hL hn;obtain⟨n,rfl⟩:∃m,n=m+1:=⟨n - 1,by omega⟩
  cases l with
  |nil=>
   rw[o7];unfold aH.G;rw[iA,ge,ab (by simp)];exact⟨_,rfl,.inl rfl⟩
  |cons c r=>
   simp only[Ju]at hl hn;rw[o7]
   by_cases hq:c=34
   ·subst hq
    rw[GS n _ r (by omega) (by omega)];refine⟨_,rfl,?_⟩
    by_cases h:(r.takeWhile eU).length<=20/\r[(r.takeWhile eU).length]? =some 34
    ·rw[ab h]
     have hs:=nh eU r;cases hd:r.drop (r.takeWhile eU).length with
     |nil=>
      have h2:=h.2;rw[← MU,hd]at h2;cases h2
     |cons d t=>
      have h2:=h.2;rw[← MU,hd]at h2;cases h2;rw[hd]at hs;refine .inr ⟨2,34::(r.takeWhile eU++[34]),t,?_,Tm.sym _ h.1 (vC _ _),?_⟩
      ·congr 1
       simp only[Ju,Jv,Jz]
      ·conv=>lhs;rw[hs]
       simp
    ·rw[ao h];exact .inl rfl
   ·by_cases hnum:c=45\/cY c=true
    ·rw[GR n _ c r hnum]
     obtain⟨h1,h2⟩:=E5 n (aH.F n) c r (λ_=>some (0,0)) (by omega) (by omega)
     by_cases hN:ly (c::r.takeWhile cY)
     ·rw[h1 hN]
      obtain⟨x,hx0,hx1,hx⟩:=hN;refine⟨_,rfl,.inr ⟨1,c::r.takeWhile cY,r.drop (r.takeWhile cY).length,rfl,?_,?_⟩⟩
      ·rw[hx];exact Tm.num x hx0 hx1
      ·rw[KZ,← nh]
     ·rw[h2 hN]
      exact⟨_,rfl,.inl rfl⟩
    ·by_cases hb:kB c=true
     ·rw[E6 n _ c r hb (by omega) (by omega)]
      by_cases h20:20<((c::r).takeWhile dt).length
      ·rw[ab h20];exact⟨_,rfl,.inl rfl⟩
      ·rw[ao h20]
       have hnm:=FX hb h20;have hs:=nh dt (c::r);have hwle:((c::r).takeWhile dt).length<=(c::r).length:=(Lt dt).length_le;cases hd:(c::r).drop ((c::r).takeWhile dt).length with
       |nil=>
        rw[hd,Ky]at hs;dsimp only;refine⟨_,rfl,.inr ⟨3,(c::r).takeWhile dt,[],rfl,Tm.con0 _ hnm,?_⟩⟩;rw[Ky];exact hs
       |cons d t=>
        dsimp only
        by_cases h40:d=40
        ·subst h40
         rw[ab rfl];unfold aH.j3;have hdl:=congrArg Jp hd;rw[LS]at hdl;simp only[Ju]at hdl;have hlt:((c::r).takeWhile dt).length<(c::r).length:=by simp only[Ju];omega
         rcases xP n (aH.F n) (c::r) (λt22=>
           if(decide (t22<(Jq (bt (c::r)):Int)))=true then
            if(0:Int)<=t22/\t22<(Jq (bt (c::r)):Int)then
             if decide ((aP (bt (c::r)) t22)=41)=true then
              some (3,Js.wrap (t22+1))
             else
              (λ_=>some (0,0)) ()
            else
             none
           else
            (λ_=>some (0,0)) ()) (by simp only[Ju];omega)
          (λl' hl'=>ih l' n (by simp only[Ju]at hl';omega) (by omega) (by simp only[Ju]at hl';omega)) n _ hlt (by simp only[Ju];omega)with h|⟨a,bs,rest,h1,h2,h3⟩
         ·exact⟨_,h,.inl rfl⟩
         ·rw[h3]
          dsimp only;have ht:t=a++(aC bs++rest):=by rw[← h1,← LB,hd];rfl
          have hfull:c::r=((c::r).takeWhile dt++40::(a++aC bs))++rest:=by
           conv=>lhs;rw[hs,hd,ht]
           simp
          have hlen2:((c::r).takeWhile dt).length+1+(a++aC bs).length=((c::r).takeWhile dt++40::(a++aC bs)).length:=by
           simp only[Jv,Ju];omega
          cases rest with
          |nil=>
           have hl2:=congrArg Jp hfull;rw[Ky,← hlen2]at hl2;rw[ah,ao (by simp only[dg];omega)];exact⟨_,rfl,.inl rfl⟩
          |cons e u=>
           rw[hlen2];have hat:aP (bt (c::r)) ((((c::r).takeWhile dt++40::(a++aC bs)).length:Nat):Int)=(e.toNat:Int):=by
            conv=>lhs;arg 1;rw[hfull]
            exact ev _ _ _
           have hl3:((((c::r).takeWhile dt++40::(a++aC bs)).length:Nat):Int)<(Jq (bt (c::r)):Int):=by
            rw[ah];have hl2:=congrArg Jp hfull;rw[Jv]at hl2;have h9:(e::u).length=u.length+1:=rfl;omega
           have hl4:((c::r).takeWhile dt++40::(a++aC bs)).length<=4294960000:=by
            rw[ah]at hl3;have hcr:(c::r).length<=4294960000:=by simp only[Ju];omega
            exact Nat.le_trans (Nat.le_of_lt (Int.ofNat_lt.1 hl3)) hcr
           rw[ab (iW hl3),ab ⟨by omega,hl3⟩,hat]
           by_cases h41:e=41
           ·subst h41
            rw[ab (by decide),aK _ (by omega) (by omega)];have hks:∃ks:List UInt8->Nat,∀x∈a::bs,Tm (ks x) x:=by
             classical
             refine⟨λx=>if h:∃k,Tm k x then h.choose else 0,λx hx=>?_⟩;have:=h2 x hx;show Tm (if h:∃k,Tm k x then h.choose else 0) x;rw[dif_pos this];exact this.choose_spec
            obtain⟨ks,hks⟩:=hks;refine⟨_,rfl,.inr ⟨3,(c::r).takeWhile dt++40::(a++(aC bs++[41])),u,?_,Tm.con _ a bs hnm ks hks,?_⟩⟩
            ·congr 1
             simp only[Jv,Ju,Jz];omega
            ·conv=>lhs;rw[hfull]
             simp
           ·rw[ao]
            ·exact⟨_,rfl,.inl rfl⟩
            ·simp only[dg]
             intro he;exact h41 (LV.1 (show e.toNat=(41:UInt8).toNat by rw[show(41:UInt8).toNat=41 from rfl];omega))
        ·rw[ao h40]
         rw[hd]at hs;exact⟨_,rfl,.inr ⟨3,(c::r).takeWhile dt,d::t,rfl,Tm.con0 _ hnm,hs⟩⟩
     ·rw[FW n _ c r hq (λe=>hnum (.inl e)) (JT.2 (λe=>hnum (.inr e))) (JT.2 hb)]
      exact⟨_,rfl,.inl rfl⟩
theorem IJ {rest:List UInt8}(h:xO rest):rest=[]\/∃c t,rest=c::t/\dt c=false:=AW ng.2.2.1 ng.2.2.2.1 h
theorem kD {k:Nat}{t:List UInt8}(h:Tm k t):∀(rest:List UInt8) (n:Nat),xO rest->t.length+rest.length<=4294960000->t.length+rest.length+60<=n->
  aH.F n (bt (t++rest))=some ((k:Int),(t.length:Int)):=by
 induction h with
 |num x h0 h1=>
  intro rest n hs hl hn;obtain⟨n,rfl⟩:∃m,n=m+1:=⟨n - 1,by omega⟩
  obtain⟨c,r,hc,hcd,hr⟩:=pR h0 h1;rw[hc]at hl hn;simp only[Ju]at hl hn;have htw:(r++rest).takeWhile cY=r:=iC hr (AW ng.1 ng.2.1 hs);rw[hc,o7,KZ,GR n _ c (r++rest) hcd,(E5 n _ c (r++rest) _ (by simp;omega) (by simp;omega)).1 (by rw[htw,← hc];exact⟨x,h0,h1,rfl⟩),htw]
  rfl
 |sym m h hp=>
  intro rest n hs hl hn;obtain⟨n,rfl⟩:∃m,n=m+1:=⟨n - 1,by omega⟩
  simp only[Ju,Jv,Jz]at hl hn;have htw:((m++[34])++rest).takeWhile eU=m:=by
   rw[List.append_assoc];exact iC hp (.inr ⟨34,rest,rfl,by decide⟩)
  rw[o7,KZ,GS n _ _ (by simp;omega) (by simp;omega),htw,ab ⟨h,by simp⟩]
  congr 2
  simp only[Ju,Jv,Jz]
 |con0 nm h=>
  intro rest n hs hl hn;obtain⟨n,rfl⟩:∃m,n=m+1:=⟨n - 1,by omega⟩
  obtain⟨c,r,rfl,hb,h20,hall⟩:=iN h;simp only[Ju]at hl hn h20;have htw:(c::(r++rest)).takeWhile dt=c::r:=iC (a:=c::r) hall (IJ hs);rw[o7,KZ,E6 n _ c (r++rest) hb (by simp;omega) (by simp;omega),htw,ao (by simp;omega)];have hd:(c::(r++rest)).drop (c::r).length=rest:=by rw[← KZ,KJ]
  rw[hd];rcases hs with rfl|⟨d,u,rfl,rfl|rfl⟩
  ·rfl
  ·rfl
  ·rfl
 |con nm a bs h ks hh ih=>
  intro rest n hs hl hn;obtain⟨n,rfl⟩:∃m,n=m+1:=⟨n - 1,by omega⟩
  obtain⟨c,r,rfl,hb,h20,hall⟩:=iN h;simp only[Ju,Jv,Jz]at hl hn h20;have e1:(c::r++40::(a++(aC bs++[41])))++rest=c::(r++40::(a++(aC bs++41::rest))):=by simp
  have htw:(c::(r++40::(a++(aC bs++41::rest)))).takeWhile dt=c::r:=iC (a:=c::r) hall (.inr ⟨40,_,rfl,ng.2.2.2.2⟩);have hd:(c::(r++40::(a++(aC bs++41::rest)))).drop (c::r).length=40::(a++(aC bs++41::rest)):=by rw[← KZ,KJ]
  rw[e1,o7,E6 n _ c _ hb (by simp;omega) (by simp;omega),htw,ao (by simp;omega),hd];dsimp only;rw[ab rfl];unfold aH.j3;have hbs:bs.length<=(aC bs).length:=by
   clear ih hh hl hn e1 htw hd
   induction bs with
   |nil=>simp
   |cons b bs ihb=>simp only[aC,Ju,Jv];omega
  have key:=qo n (aH.F n) (λt22=>
    if(decide (t22<(Jq (bt (c::(r++40::(a++(aC bs++41::rest))))):Int)))=true then
     if(0:Int)<=t22/\t22<(Jq (bt (c::(r++40::(a++(aC bs++41::rest))))):Int)then
      if decide ((aP (bt (c::(r++40::(a++(aC bs++41::rest))))) t22)=41)=true then
       some (3,Js.wrap (t22+1))
      else
       (λ_=>some (0,0)) ()
     else
      none
    else
     (λ_=>some (0,0)) ()) (r.length+1+(1+(a.length+((aC bs).length+(1+rest.length))))) (by omega) bs a (c::r) rest 40 n
   (by simp only[Jv,Ju];omega)
   (λx hx r' hr' hlt=>⟨ks x,(hh x hx).kind.1,ih x hx r' n hr' (by omega) (by omega)⟩) (by omega)
  rw[KZ]at key;rw[key];dsimp only;have e2:c::(r++40::(a++(aC bs++41::rest)))=(c::r++40::(a++aC bs))++41::rest:=by simp
  have e3:(c::r).length+1+(a++aC bs).length=(c::r++40::(a++aC bs)).length:=by simp only[Jv,Ju];omega
  rw[e2,e3,ah,ab (iW (fC _ _ _)),ab (cF _ _ _),ev,ab (by decide),aK _ (by simp only[Jv,Ju];omega) (by simp only[Jv,Ju];omega)]
  congr 2
  simp only[Jv,Ju,Jz];omega
def cN (b:UInt8):Bool:=!decide (b=40)
theorem lR {c d:UInt8}{v:Nat}(hd:d.toNat=v):(c.toNat:Int)=(v:Int)↔c=d:=by
 constructor
 ·intro h;exact LV.1 (by omega)
 ·rintro rfl;omega
theorem IX (c:UInt8):decide ((c.toNat:Int)=34)=decide (c=34):=decide_eq_decide.2 (lR (d:=34) rfl)
theorem Jm (c:UInt8):decide ((c.toNat:Int)=40)=decide (c=40):=decide_eq_decide.2 (lR (d:=40) rfl)
theorem e41 (c:UInt8):decide ((c.toNat:Int)=41)=decide (c=41):=decide_eq_decide.2 (lR (d:=41) rfl)
theorem e44 (c:UInt8):decide ((c.toNat:Int)=44)=decide (c=44):=decide_eq_decide.2 (lR (d:=44) rfl)
theorem AY (n:Nat)(K:Int->Option (ByteArray×(List ByteArray)×Bool)):∀(r pre:List UInt8) (k:Nat),(pre++r).length<=4294967296->r.length+1<=k->
  ay.l0 n (bt (pre++r)) K k (pre.length:Int)=K ((pre.length+(r.takeWhile cN).length:Nat):Int)
 |r,pre,0,_,hk=>by omega
 |[],pre,k+1,hl,hk=>by
  unfold ay.l0;rw[ah,ao (by simp)]
  rfl
 |c::r,pre,k+1,hl,hk=>by
  unfold ay.l0;rw[ah,ab (iW (fC pre r c)),ab (cF pre r c),ev,Jm,Kb]
  by_cases h:c=40
  ·have hn:cN c=false:=by simp[cN,h]
   rw[hn]
   simp[h]
  ·have hn:cN c=true:=by simp[cN,h]
   rw[hn,ab rfl,ab (by simpa using h)];simp only[Jv,Ju]at hl;rw[aK _ (by omega) (by omega),hJ pre c,eR,AY n K r (pre++[c]) k (by simp;omega) (by simpa using hk)]
   congr 2
   simp
   omega
section
variable (n:Nat) (t6:Int) (K:Unit->Option (ByteArray×(List ByteArray)×Bool))
theorem vE (pre r:List UInt8)(k:Nat)(d f:Int)(q:Bool)(out:List ByteArray)(hl:pre.length<=4294967296):
  ay.l1 n (bt (pre++34::r)) t6 K (k+1) d q f (pre.length:Int) out=ay.l1 n (bt (pre++34::r)) t6 K k d (!q) f ((pre.length+1:Nat):Int) out:=by
 conv=>lhs;unfold ay.l1
 rw[ah,ab (iW (fC pre r 34)),ab (cF pre r 34),ev,ab (by decide),aK _ (by omega) (by omega)]
 rfl
theorem xQ (pre r:List UInt8)(c:UInt8)(k:Nat)(d f:Int)(out:List ByteArray)(hl:pre.length<=4294967296)(hc:c≠34):
  ay.l1 n (bt (pre++c::r)) t6 K (k+1) d true f (pre.length:Int) out=ay.l1 n (bt (pre++c::r)) t6 K k d true f ((pre.length+1:Nat):Int) out:=by
 conv=>lhs;unfold ay.l1
 rw[ah,ab (iW (fC pre r c)),ab (cF pre r c),ev,IX,ao (by simpa using hc),ab rfl,aK _ (by omega) (by omega)]
 rfl
theorem zI (pre r:List UInt8)(k:Nat)(d f:Int)(out:List ByteArray)(hl:pre.length<=4294967296)(hd:-4611686018427387900<=d/\d<=4611686018427387900):
  ay.l1 n (bt (pre++40::r)) t6 K (k+1) d false f (pre.length:Int) out=ay.l1 n (bt (pre++40::r)) t6 K k (d+1) false f ((pre.length+1:Nat):Int) out:=by
 conv=>lhs;unfold ay.l1
 rw[ah,ab (iW (fC pre r 40)),ab (cF pre r 40),ev,ao (by decide),ao (by simp),ab (cF pre r 40),ab (by decide),aK _ (by omega) (by omega),aK _ (by omega) (by omega)]
 rfl
theorem AZ (pre r:List UInt8)(k:Nat)(d f:Int)(out:List ByteArray)(hl:pre.length<=4294967296)(hd:-4611686018427387900<=d/\d<=4611686018427387900)(h1:d≠1):
  ay.l1 n (bt (pre++41::r)) t6 K (k+1) d false f (pre.length:Int) out=ay.l1 n (bt (pre++41::r)) t6 K k (d - 1) false f ((pre.length+1:Nat):Int) out:=by
 conv=>lhs;unfold ay.l1
 rw[ah,ab (iW (fC pre r 41)),ab (cF pre r 41),ev,ao (by decide),ao (by simp),ab (cF pre r 41),ao (by decide),ab (cF pre r 41),ab (by decide),aK (d - 1) (by omega) (by omega),
  ao (by simp;omega),aK _ (by omega) (by omega)]
 rfl
theorem B0 (pre r:List UInt8)(k:Nat)(d f:Int)(out:List ByteArray)(hl:pre.length<=4294967296)(h1:d≠1):
  ay.l1 n (bt (pre++44::r)) t6 K (k+1) d false f (pre.length:Int) out=ay.l1 n (bt (pre++44::r)) t6 K k d false f ((pre.length+1:Nat):Int) out:=by
 conv=>lhs;unfold ay.l1
 rw[ah,ab (iW (fC pre r 44)),ab (cF pre r 44),ev,ao (by decide),ao (by simp),ab (cF pre r 44),ao (by decide),ab (cF pre r 44),ao (by decide),ab (cF pre r 44),ab (by decide),
  ao (by simp;omega),aK _ (by omega) (by omega)]
 rfl
theorem E7 (pre r:List UInt8)(c:UInt8)(k:Nat)(d f:Int)(out:List ByteArray)(hl:pre.length<=4294967296)(h1:c≠34)(h2:c≠40)(h3:c≠41)(h4:c≠44):
  ay.l1 n (bt (pre++c::r)) t6 K (k+1) d false f (pre.length:Int) out=ay.l1 n (bt (pre++c::r)) t6 K k d false f ((pre.length+1:Nat):Int) out:=by
 conv=>lhs;unfold ay.l1
 rw[ah,ab (iW (fC pre r c)),ab (cF pre r c),ev,IX,Jm,e41,e44,ao (by simpa using h1),ao (by simp),ab (cF pre r c),ao (by simpa using h2),ab (cF pre r c),ao (by simpa using h3),ab (cF pre r c),
  ao (by simpa using h4),aK _ (by omega) (by omega)]
 rfl
theorem ni (l:List UInt8)(f i:Nat):JM (bt l) (Jr (f:Int)) (Jr (i:Int))=bt ((l.take i).drop f):=by
 rw[gb,JQ,JQ]
theorem B1 (pre r:List UInt8)(k f:Nat)(out:List ByteArray)(hl:pre.length<=4294967290)(hf:f<=pre.length)(ho:out.length<=pre.length):
  ay.l1 n (bt (pre++44::r)) t6 K (k+1) 1 false (f:Int) (pre.length:Int) out=ay.l1 n (bt (pre++44::r)) t6 K k 1 false ((pre.length+1:Nat):Int) ((pre.length+1:Nat):Int) (out++[bt (pre.drop f)]):=by
 conv=>lhs;unfold ay.l1
 have h1:(0:Int)<=(f:Int)/\(f:Int)<=(pre.length:Int)/\(pre.length:Int)<=((pre++44::r).length:Int):=⟨by omega,by omega,by have:=fC pre r 44;omega⟩;have h2:∀x:ByteArray,Jp out+Jp [x]<=aT:=λx=>by unfold aT;simp only[Ku];omega
 rw[ah,ab (iW (fC pre r 44)),ab (cF pre r 44),ev,ao (by decide),ao (by simp),ab (cF pre r 44),ao (by decide),ab (cF pre r 44),ao (by decide),ab (cF pre r 44),ab (by decide),
  ab (by simp),ab h1,ab (h2 _),aK _ (by omega) (by omega),ni,Lc]
 rfl
theorem GU (pre r:List UInt8)(k f a:Nat)(ha:t6=(a:Int))(out:List ByteArray)(hl:(pre++41::r).length<=4294967290)(hf:f<=pre.length)(hal:a<=pre.length)(ho:out.length<=pre.length):
  ay.l1 n (bt (pre++41::r)) t6 K (k+1) 1 false (f:Int) (pre.length:Int) out=some (bt (pre.take a),out++[bt (pre.drop f)],decide (r=[])):=by
 subst ha;have hlt:=fC pre r 41
 conv=>lhs;unfold ay.l1
 have h0:(0:Int)<=0/\(0:Int)<=(a:Int)/\(a:Int)<=((pre++41::r).length:Int):=⟨by omega,by omega,by omega⟩;have h1:(0:Int)<=(f:Int)/\(f:Int)<=(pre.length:Int)/\(pre.length:Int)<=((pre++41::r).length:Int):=⟨by omega,by omega,by omega⟩;have h2:∀x:ByteArray,Jp out+Jp [x]<=aT:=λx=>by unfold aT;simp only[Ku];omega
 rw[ah,ab (iW hlt),ab (cF pre r 41),ev,ao (by decide),ao (by simp),ab (cF pre r 41),ao (by decide),ab (cF pre r 41),ab (by decide),ab (by decide),ab h0,ab h1,ab (h2 _),
  ni,Lc,aK _ (by omega) (by omega)]
 rw[show Jr 0=Jr ((0:Nat):Int)from rfl,ni,JW,Mo hal]
 congr 4
 apply propext
 constructor
 ·intro h
  cases r with
  |nil=>rfl
  |cons x r=>simp only[Jv,Ju]at h;omega
 ·rintro rfl
  simp only[Jv,Ju,Jz];omega
theorem sL (a:Nat)(ha:t6=(a:Int))(hK:K ()=some (Jo,[],false)):∀(r pre:List UInt8) (k:Nat) (d:Int) (q:Bool) (f:Nat) (out:List ByteArray),(pre++r).length<=4294967290->r.length+1<=k->
  (-(4294967296:Int)<=d - r.length/\d+r.length<=4294967296*4)->f<=pre.length+(if pre.length=a then 1 else 0)->a<=pre.length->out.length<=pre.length->(pre.length=a->d=0/\q=false/\∃r',r=40::r')->
  ∃x ys ok,ay.l1 n (bt (pre++r)) t6 K k d q (f:Int) (pre.length:Int) out=some (x,ys,ok)/\
   (ok=true->x=bt ((pre++r).take a)/\∃(p:List UInt8) (bs:List (List UInt8)),ys=out++(p::bs).map bt/\(pre++r).drop f=p++(aC bs++[41]))
 |r,pre,0,_,_,_,_,_,hk,_,_,_,_,_=>by omega
 |[],pre,k+1,d,q,f,out,hl,hk,hd,hf,hal,ho,hst=>by
  unfold ay.l1;rw[ah,ao (by simp),hK];exact⟨_,_,_,rfl,λh=>by cases h⟩
 |c::r,pre,k+1,d,q,f,out,hl,hk,hd,hf,hal,ho,hst=>by
  have hk':r.length+1<=k:=by simpa using hk
  have hpl:pre.length+(r.length+1)<=4294967290:=by simpa using hl
  have hl':((pre++[c])++r).length<=4294967290:=by rw[← eR];exact hl
  have hp1:(pre++[c]).length=pre.length+1:=by simp
  have hne:¬(pre++[c]).length=a:=by omega
  simp only[Ju]at hd;have go:∀(d':Int) (q':Bool) (f':Nat) (out':List ByteArray),(-(4294967296:Int)<=d' - r.length/\d'+r.length<=4294967296*4)->f'<=pre.length+1->out'.length<=pre.length+1->
    ∃x ys ok,ay.l1 n (bt (pre++c::r)) t6 K k d' q' (f':Int) ((pre.length+1:Nat):Int) out'=some (x,ys,ok)/\
     (ok=true->x=bt ((pre++c::r).take a)/\∃(p:List UInt8) (bs:List (List UInt8)),ys=out'++(p::bs).map bt/\(pre++c::r).drop f'=p++(aC bs++[41])):=by
   intro d' q' f' out' h1 h2 h3;have:=sL a ha hK r (pre++[c]) k d' q' f' out' hl' hk' h1 (by rw[ao hne,hp1];omega) (by omega) (by omega) (λh=>bH h hne);rw[← eR,hp1]at this;exact this
  have hfb:f<=pre.length+1:=by split at hf<;>omega
  by_cases h34:c=34
  ·subst h34
   rw[vE n t6 K pre r k d f q out (by omega)];exact go _ _ _ _ ⟨by omega,by omega⟩ hfb (by omega)
  ·cases q with
   |true=>
    rw[xQ n t6 K pre r c k d f out (by omega) h34];exact go _ _ _ _ ⟨by omega,by omega⟩ hfb (by omega)
   |false=>
    by_cases h40:c=40
    ·subst h40
     rw[zI n t6 K pre r k d f out (by omega) ⟨by omega,by omega⟩];exact go _ _ _ _ ⟨by omega,by omega⟩ hfb (by omega)
    ·have hpa:pre.length≠a:=by
      intro h;obtain⟨_,_,r',hr'⟩:=hst h;cases hr';exact h40 rfl
     rw[ao hpa]at hf
     by_cases h41:c=41
     ·subst h41
      by_cases hd1:d=1
      ·subst hd1
       rw[GU n t6 K pre r k f a ha out hl (by omega) hal ho];refine⟨_,_,_,rfl,λh=>?_⟩;have hr:r=[]:=of_decide_eq_true h;subst hr;refine⟨by rw[Mo hal],pre.drop f,[],by simp,?_⟩;rw[Ny (by omega)]
       rfl
      ·rw[AZ n t6 K pre r k d f out (by omega) ⟨by omega,by omega⟩ hd1]
       exact go _ _ _ _ ⟨by omega,by omega⟩ hfb (by omega)
     ·by_cases h44:c=44
      ·subst h44
       by_cases hd1:d=1
       ·subst hd1
        rw[B1 n t6 K pre r k f out (by omega) (by omega) ho];obtain⟨x,ys,ok,h1,h2⟩:=go 1 false (pre.length+1) (out++[bt (pre.drop f)]) ⟨by omega,by omega⟩ (by omega) (by simp;omega);refine⟨x,ys,ok,h1,λh=>?_⟩;obtain⟨hx,p,bs,hys,hdr⟩:=h2 h;refine⟨hx,pre.drop f,p::bs,by rw[hys];simp,?_⟩;rw[Ny (by omega)];have:(pre++44::r).drop (pre.length+1)=r:=by rw[← LB,KJ];rfl
        rw[this]at hdr;rw[hdr]
        simp[aC]
       ·rw[B0 n t6 K pre r k d f out (by omega) hd1]
        exact go _ _ _ _ ⟨by omega,by omega⟩ hfb (by omega)
      ·rw[E7 n t6 K pre r c k d f out (by omega) h34 h40 h41 h44]
       exact go _ _ _ _ ⟨by omega,by omega⟩ hfb (by omega)
end
def ur (b:UInt8):Bool:=decide (b≠34/\b≠40/\b≠41/\b≠44)
theorem us {b:UInt8}(h:dt b=true):ur b=true:=by
 unfold ur;apply iW;refine⟨?_,?_,?_,?_⟩<;>(rintro rfl;revert h;decide)
theorem sM {b:UInt8}(h:cY b=true):ur b=true:=us (by unfold dt;rw[h];simp)
theorem sN {l:List UInt8}(h:l.all dt=true):l.all ur=true:=by
 rw[Kc]at h⊢;exact λb hb=>us (h b hb)
section
variable (n:Nat) (t6:Int) (K:Unit->Option (ByteArray×(List ByteArray)×Bool)) (l:List UInt8) (hl:l.length<=4294967290)
include hl
theorem nz:∀(m pre rest:List UInt8) (j:Nat) (d f:Int) (out:List ByteArray),m.all ur=true->l=pre++(m++rest)->
  ay.l1 n (bt l) t6 K (j+m.length) d false f (pre.length:Int) out=ay.l1 n (bt l) t6 K j d false f ((pre.length+m.length:Nat):Int) out
 |[],pre,rest,j,d,f,out,_,_=>rfl
 |c::m,pre,rest,j,d,f,out,hm,he=>by
  rw[Kz,Jx]at hm;obtain⟨h1,h2,h3,h4⟩:=of_decide_eq_true hm.1;have e1:l=pre++c::(m++rest):=he;have hpl:pre.length<=4294967296:=by rw[e1]at hl;simp at hl;omega
  rw[show j+(c::m).length=(j+m.length)+1 from by simp;omega]
  conv=>lhs;rw[e1,E7 n t6 K pre (m++rest) c (j+m.length) d f out hpl h1 h2 h3 h4,← e1]
  have:=nz m (pre++[c]) rest j d f out hm.2 (by rw[e1];simp);rw[show(pre++[c]:List UInt8).length=pre.length+1 by simp<;>omega]at this;rw[this]
  congr 2
  simp
  omega
theorem qp:∀(m pre rest:List UInt8) (j:Nat) (d f:Int) (out:List ByteArray),m.all eU=true->l=pre++(m++rest)->
  ay.l1 n (bt l) t6 K (j+m.length) d true f (pre.length:Int) out=ay.l1 n (bt l) t6 K j d true f ((pre.length+m.length:Nat):Int) out
 |[],pre,rest,j,d,f,out,_,_=>rfl
 |c::m,pre,rest,j,d,f,out,hm,he=>by
  rw[Kz,Jx]at hm;have h1:c≠34:=by rintro rfl;exact bH hm.1 (by decide)
  have e1:l=pre++c::(m++rest):=he;have hpl:pre.length<=4294967296:=by rw[e1]at hl;simp at hl;omega
  rw[show j+(c::m).length=(j+m.length)+1 from by simp;omega]
  conv=>lhs;rw[e1,xQ n t6 K pre (m++rest) c (j+m.length) d f out hpl h1,← e1]
  have:=qp m (pre++[c]) rest j d f out hm.2 (by rw[e1];simp);rw[show(pre++[c]:List UInt8).length=pre.length+1 by simp<;>omega]at this;rw[this]
  congr 2
  simp
  omega
def zJ (t:List UInt8):Prop:=∀(pre rest:List UInt8) (j:Nat) (d f:Int) (out:List ByteArray),1<=d->d+t.length<=4294967296*4->l=pre++(t++rest)->
  ay.l1 n (bt l) t6 K (j+t.length) d false f (pre.length:Int) out=ay.l1 n (bt l) t6 K j d false f ((pre.length+t.length:Nat):Int) out
theorem qq:∀(bs:List (List UInt8)),(∀x∈bs,zJ n t6 K l x)->∀(pre rest:List UInt8) (j:Nat) (d f:Int) (out:List ByteArray),2<=d->d+(aC bs).length<=4294967296*4->l=pre++(aC bs++rest)->
  ay.l1 n (bt l) t6 K (j+(aC bs).length) d false f (pre.length:Int) out=ay.l1 n (bt l) t6 K j d false f ((pre.length+(aC bs).length:Nat):Int) out
 |[],_,pre,rest,j,d,f,out,_,_,_=>rfl
 |b::bs,hb,pre,rest,j,d,f,out,hd,hd2,he=>by
  simp only[aC,Ju,Jv]at hd2;have e1:l=pre++44::(b++(aC bs++rest)):=by rw[he];simp[aC]
  have e2:l=(pre++[44])++(b++(aC bs++rest)):=by rw[e1];simp
  have e3:l=(pre++[44]++b)++(aC bs++rest):=by rw[e1];simp
  have hpl:pre.length<=4294967296:=by rw[e1]at hl;simp at hl;omega
  rw[show j+(aC (b::bs)).length=(j+(aC bs).length+b.length)+1 from by simp only[aC,Ju,Jv];omega]
  conv=>lhs;rw[e1,B0 n t6 K pre (b++(aC bs++rest)) (j+(aC bs).length+b.length) d f out hpl (by omega),← e1]
  have s1:=hb b JL (pre++[44]) (aC bs++rest) (j+(aC bs).length) d f out (by omega) (by omega) e2;rw[show(pre++[44]:List UInt8).length=pre.length+1 by simp<;>omega]at s1;rw[s1];have s2:=qq bs (λx hx=>hb x (JP _ hx)) (pre++[44]++b) rest j d f out hd (by omega) e3;rw[show(pre++[44]++b:List UInt8).length=pre.length+1+b.length by simp<;>omega]at s2;rw[s2]
  congr 2
  simp only[aC,Ju,Jv];omega
theorem FY {k:Nat}{t:List UInt8}(h:Tm k t):zJ n t6 K l t:=by
 induction h with
 |num x h0 h1=>
  obtain⟨c,r,hc,hcd,hr⟩:=pR h0 h1;intro pre rest j d f out hd hd2 he;refine nz n t6 K l hl _ pre rest j d f out ?_ he;rw[hc,Kz];have:ur c=true:=by
   rcases hcd with rfl|h
   ·decide
   ·exact sM h
  rw[this,KB,Kc];intro b hb;rw[Kc]at hr;exact sM (hr b hb)
 |sym m h hp=>
  intro pre rest j d f out hd hd2 he;have e1:l=pre++34::(m++34::rest):=by rw[he];simp
  have e2:l=(pre++[34])++(m++34::rest):=by rw[e1];simp
  have e3:l=(pre++[34]++m)++34::rest:=by rw[e1];simp
  have hpl:pre.length+m.length+2<=4294967290:=by rw[e1]at hl;simp at hl;omega
  rw[show j+(34::(m++[34]):List UInt8).length=(j+1+m.length)+1 from by simp;omega]
  conv=>lhs;rw[e1,vE n t6 K pre _ (j+1+m.length) d f false out (by omega),← e1]
  have s1:=qp n t6 K l hl m (pre++[34]) (34::rest) (j+1) d f out hp e2;rw[show(pre++[34]:List UInt8).length=pre.length+1 by simp<;>omega]at s1;rw[show(!false)=true from rfl,s1];have s2:=vE n t6 K (pre++[34]++m) rest j d f true out (by simp;omega);rw[← e3,show(pre++[34]++m:List UInt8).length=pre.length+1+m.length by simp<;>omega]at s2;rw[s2]
  congr 2
  simp
  omega
 |con0 nm h=>
  obtain⟨c,r,hc,_,_,hall⟩:=iN h;intro pre rest j d f out hd hd2 he;exact nz n t6 K l hl _ pre rest j d f out (sN hall) he
 |con nm a bs h ks hh ih=>
  obtain⟨c,r,hc,_,_,hall⟩:=iN h;intro pre rest j d f out hd hd2 he;simp only[Jv,Ju,Jz]at hd2;have e1:l=pre++(nm++40::(a++(aC bs++41::rest))):=by rw[he];simp
  have e2:l=(pre++nm)++40::(a++(aC bs++41::rest)):=by rw[e1];simp
  have e3:l=(pre++nm++[40])++(a++(aC bs++41::rest)):=by rw[e1];simp
  have e4:l=(pre++nm++[40]++a)++(aC bs++41::rest):=by rw[e1];simp
  have e5:l=(pre++nm++[40]++a++aC bs)++41::rest:=by rw[e1];simp
  have hpl:pre.length+nm.length+1+a.length+(aC bs).length+1<=4294967290:=by rw[e1]at hl;simp at hl;omega
  rw[show j+(nm++40::(a++(aC bs++[41])):List UInt8).length=(j+1+(aC bs).length+a.length+1)+nm.length from by simp;omega];rw[nz n t6 K l hl nm pre _ _ d f out (sN hall) e1];have s1:=zI n t6 K (pre++nm) (a++(aC bs++41::rest)) (j+1+(aC bs).length+a.length) d f out (by simp;omega) ⟨by omega,by omega⟩;rw[← e2,show(pre++nm:List UInt8).length=pre.length+nm.length by simp<;>omega]at s1;rw[s1];have s2:=ih a JL (pre++nm++[40]) (aC bs++41::rest) (j+1+(aC bs).length) (d+1) f out (by omega) (by omega) e3;rw[show(pre++nm++[40]:List UInt8).length=pre.length+nm.length+1 by simp<;>omega]at s2;rw[s2];have s3:=qq n t6 K l hl bs (λx hx=>ih x (JP _ hx)) (pre++nm++[40]++a) (41::rest) (j+1) (d+1) f out (by omega) (by omega) e4;rw[show(pre++nm++[40]++a:List UInt8).length=pre.length+nm.length+1+a.length by simp<;>omega]at s3;rw[s3];have s4:=AZ n t6 K (pre++nm++[40]++a++aC bs) rest j (d+1) f out (by simp;omega) ⟨by omega,by omega⟩ (by omega);rw[← e5,show(pre++nm++[40]++a++aC bs:List UInt8).length=pre.length+nm.length+1+a.length+(aC bs).length by simp<;>omega]at s4;rw[s4]
  congr 2
  ·omega
  ·simp
   omega
theorem xR (at':Nat)(ha:t6=(at':Int)):∀(bs:List (List UInt8)) (a pre:List UInt8) (j:Nat) (out:List ByteArray),(∀x∈a::bs,zJ n t6 K l x)->l=pre++(a++(aC bs++[41]))->at'<=pre.length->out.length<=pre.length->
  ay.l1 n (bt l) t6 K (j+1+(a++aC bs).length) 1 false (pre.length:Int) (pre.length:Int) out=some (bt (l.take at'),out++(a::bs).map bt,true)
 |[],a,pre,j,out,hp,he,hat,ho=>by
  have e1:l=(pre++a)++41::[]:=by rw[he];simp[aC]
  have hpl:pre.length+a.length+1<=4294967290:=by rw[e1]at hl;simp at hl;omega
  have s1:=hp a JL pre (aC []++[41]) (j+1) 1 pre.length out (by omega) (by omega) he;rw[show j+1+(a++aC []).length=j+1+a.length by simp[aC],s1];have s2:=GU n t6 K (pre++a) [] j pre.length at' ha out (by rw[← e1];exact hl) (by simp) (by simp;omega) (by simp;omega);rw[← e1,show(pre++a:List UInt8).length=pre.length+a.length by simp<;>omega]at s2;rw[s2,KJ];have:(pre++a).take at'=l.take at':=by rw[e1];exact(Mo (by simp;omega)).symm
  rw[this]
  simp
 |b::bs,a,pre,j,out,hp,he,hat,ho=>by
  have e1:l=(pre++a)++44::(b++(aC bs++[41])):=by rw[he];simp[aC]
  have e2:l=(pre++a++[44])++(b++(aC bs++[41])):=by rw[e1];simp
  have hpl:pre.length+a.length+1<=4294967290:=by rw[e1]at hl;simp at hl;omega
  have s1:=hp a JL pre (aC (b::bs)++[41]) (j+1+(b++aC bs).length+1) 1 pre.length out (by omega) (by omega) he;rw[show j+1+(a++aC (b::bs)).length=j+1+(b++aC bs).length+1+a.length by simp[aC];omega,s1];have s2:=B1 n t6 K (pre++a) (b++(aC bs++[41])) (j+1+(b++aC bs).length) pre.length out (by simp;omega) (by simp) (by simp;omega);rw[← e1,show(pre++a:List UInt8).length=pre.length+a.length by simp<;>omega,KJ]at s2;rw[s2];have s3:=xR at' ha bs b (pre++a++[44]) j (out++[bt a]) (λx hx=>hp x (JP _ hx)) e2 (by simp;omega) (by simp;omega);rw[show(pre++a++[44]:List UInt8).length=pre.length+a.length+1 by simp<;>omega]at s3;rw[s3]
  simp
end
theorem ut {l:List UInt8}(h:l.all dt=true):l.all cN=true:=by
 rw[Kc]at h⊢;intro b hb;have:=h b hb;unfold cN
 by_cases e:b=40
 ·subst e;exact bH this (by decide)
 ·simp[e]
theorem xS (n:Nat)(l:List UInt8)(hl:l.length<=4294960000)(hn:l.length+2<=n):ay.F n (bt l)=
  if(l.takeWhile cN).length=l.length then some (bt l,[],true)
  else ay.l1 n (bt l) ((l.takeWhile cN).length:Int) (λ_=>some (Jo,[],false)) n 0 false (((l.takeWhile cN).length+1:Nat):Int) ((l.takeWhile cN).length:Int) []:=by
 unfold ay.F;have hw:(l.takeWhile cN).length<=l.length:=(Lt cN).length_le;have:=AY n (λt4=>
  if decide (t4=(Jq (bt l):Int))=true then
   some (bt l,[],true)
  else
   ay.l1 n (bt l) t4 (λ_=>
    some (Jo,[],false)) n 0 false (Js.wrap (t4+1)) t4 []) l [] n (by simp;omega) (by omega)
 simp only[Kv,Jz,Nat.zero_add]at this;rw[show((0:Nat):Int)=0 from rfl]at this;rw[this,ah,aK _ (by omega) (by omega)]
 by_cases h:(l.takeWhile cN).length=l.length
 ·rw[ab h,ab (by simp;omega)]
 ·rw[ao h,ao (by simp;omega)]
  rfl
theorem sO (n:Nat)(nm a:List UInt8)(bs:List (List UInt8))(h:fO nm=true)(hh:∀x∈a::bs,∃k,Tm k x)
  (hl:(nm++40::(a++(aC bs++[41]))).length<=4294960000) (hn:(nm++40::(a++(aC bs++[41]))).length+2<=n):
  ay.F n (bt (nm++40::(a++(aC bs++[41]))))=some (bt nm,(a::bs).map bt,true):=by
 obtain⟨c,r,hc,_,_,hall⟩:=iN h;have htw:(nm++40::(a++(aC bs++[41]))).takeWhile cN=nm:=iC (ut hall) (.inr ⟨40,_,rfl,by decide⟩);rw[xS n _ hl hn,htw,ao (by simp)];have hlen:=hl;have hn':=hn;simp only[Jv,Ju,Jz]at hlen hn';obtain⟨j,rfl⟩:∃j,n=(j+1+(a++aC bs).length)+1:=⟨n - (2+(a++aC bs).length),by simp only[Jv];omega⟩
 rw[zI _ _ _ nm (a++(aC bs++[41])) _ 0 _ [] (by omega) ⟨by omega,by omega⟩];have:=xR (j+1+(a++aC bs).length+1) (nm.length:Int) (λ_=>some (Jo,[],false)) (nm++40::(a++(aC bs++[41]))) (by omega) nm.length rfl bs a (nm++[40]) j [] (λx hx=>by
  obtain⟨k,hk⟩:=hh x hx;exact FY _ _ _ _ (by omega) hk) (by simp) (by simp) (by simp)
 rw[show(nm++[40]:List UInt8).length=nm.length+1 by simp<;>omega]at this;rw[show(0:Int)+1=1 from rfl,this,Lc]
 simp
theorem zK (n:Nat)(s:ByteArray):be.F (n+1) s=be.G n (be.F n) s:=rfl
theorem xT (n:Nat)(self:ByteArray->Option Int)(K:Unit->Option Int)(x:UInt8):∀(r pre:List UInt8) (k:Nat),(pre++r).length<=4294967290->r.length+1<=k->
  be.l2 n self (bt (pre++(r++[x]))) K k (pre.length:Int)=if r.all eU=true then K ()else some 0
 |r,pre,0,_,hk=>by omega
 |[],pre,k+1,hl,hk=>by
  simp only[Ky]at hl;unfold be.l2;rw[ah,aK _ (by omega) (by omega),ao (by simp)]
  rfl
 |c::r,pre,k+1,hl,hk=>by
  simp only[Jv,Ju]at hl;have e1:pre++(c::r++[x])=pre++c::(r++[x]):=rfl;have hw:Js.wrap ((pre.length:Int)+1)=((pre++[c]).length:Int):=by rw[aK _ (by omega) (by omega),hJ pre c]
  have hc:=c.toNat_lt;rw[e1];unfold be.l2;rw[ah,hw,ab (by simp;omega),ab (cF pre _ c),ev,aK (c.toNat:Int) (by omega) (by omega),dW,Kz];simp only[Jn];have e92:decide ((c.toNat:Int)=92)=decide (c=92):=decide_eq_decide.2 (lR (d:=92) rfl);rcases nc (eU c)with hp|hp
  ·rw[hp]
   simp only[eU,vJ]at hp
   by_cases h1:32<=c.toNat/\c.toNat<=126
   ·rw[ab (by simp;omega),ab (cF pre _ c)]
    by_cases h2:c.toNat=34
    ·rw[ao (by simp;omega)]
     simp
    ·rw[ab (by simp;omega),ab (cF pre _ c),ab (by simp;omega)]
     simp
   ·rw[ao (by simp;omega)]
    simp
  ·rw[hp]
   simp only[eU,dg]at hp;rw[ab (by simp;omega),ab (cF pre _ c),ab (by simp;omega),ab (cF pre _ c),ao (by simp;omega),eR];rw[xT n self K x r (pre++[c]) k (by simp;omega) (by simpa using hk)]
   rfl
theorem sP (n:Nat)(self:ByteArray->Option Int)(K:Unit->Option Int)(κ:List UInt8->Nat):∀(r pre:List (List UInt8)) (k:Nat),(pre++r).length<=4294967290->r.length+1<=k->
  (∀x∈r,self (bt x)=some (κ x:Int))->be.l4 n self ((pre++r).map bt) K k (pre.length:Int)=if r.all (λx=>!decide (κ x=0))=true then K ()else some 0
 |r,pre,0,_,hk,_=>by omega
 |[],pre,k+1,hl,hk,hs=>by
  unfold be.l4;rw[Km,ao (by simp)]
  rfl
 |c::r,pre,k+1,hl,hk,hs=>by
  simp only[Jv,Ju]at hl;have hlen:(pre.length:Int)<(((pre++c::r).map bt).length:Int):=by simp;omega
  have hget:List.getD ((pre++c::r).map bt) (Jr (pre.length:Int)) Jo=bt c:=by
   rw[JQ,Kx,List.map_cons];have:=cR (pre.map bt) (r.map bt) (bt c) Jo;rw[Km]at this;exact this
  unfold be.l4;rw[ab (iW hlen),ab ⟨by omega,hlen⟩,hget,hs c JL];simp only[Jn]
  by_cases h:κ c=0
  ·rw[ab (by simp;omega),ao (by simp[h])]
  ·have e:(c::r).all (λx=>!decide (κ x=0))=r.all (λx=>!decide (κ x=0)):=by simp[h]
   rw[e];rw[ao (by simp;omega),aK _ (by omega) (by omega),show(pre.length:Int)+1=((pre++[c]).length:Int)by simp,show pre++c::r=(pre++[c])++r by simp,
    sP n self K κ r (pre++[c]) k (by simp;omega) (by simpa using hk) (λx hx=>hs x (JP _ hx))]
structure kW (l:List UInt8) (k:Nat):Prop where
 le:k<=3
 sound:k≠0->Tm k l/\l.length<=200
 complete:∀k',Tm k' l->l.length<=200->k=k'
theorem dN {l:List UInt8}(h:∀k,Tm k l->l.length<=200->False):kW l 0:=⟨by omega,λh=>bH rfl h,λk hk hl=>(h k hk hl).elim⟩
theorem Cg (n:Nat)(l:List UInt8)(hl:l.length<=4294960000)(hn:l.length+60<=n):∃k:Nat,gI.F n (bt l)=some (k:Int)/\kW l k:=by
 obtain⟨res,h1,h2⟩:=vD l.length l n (JS _) hl hn;have hc:∀k,Tm k l->res=((k:Int),(l.length:Int)):=by
  intro k hk;have:=kD hk [] n (.inl rfl) (by simpa using hl) (by simpa using hn);rw[Ky,h1]at this;exact Me this
 unfold gI.F;rw[h1,ah];simp only[Jn]
 by_cases h200:200<l.length
 ·rw[ao (by simp;omega)]
  exact⟨0,rfl,dN (λk _ h=>by omega)⟩
 ·rw[ab (by simp;omega)]
  rcases h2 with rfl|⟨k,t,rest,rfl,ht,rfl⟩
  ·have h0:∀k,Tm k l->False:=by
    intro k hk;have:=congrArg Prod.fst (hc k hk);have:=hk.kind
    simp at*
    omega
   refine⟨0,?_,dN (λk hk _=>h0 k hk)⟩
   split<;>rfl
  ·by_cases hr:rest=[]
   ·subst hr
    rw[Ky]at hc h200⊢;rw[ao (by simp)];have:=ht.kind;refine⟨k,rfl,⟨by omega,λ_=>⟨ht,by omega⟩,λk' hk' _=>?_⟩⟩;have:=congrArg Prod.fst (hc k' hk')
    simp at this
    omega
   ·rw[ab]
    ·refine⟨0,rfl,dN (λk' hk' _=>?_)⟩
     have:=congrArg Prod.snd (hc k' hk')
     simp at this
     exact hr (Kq.1 (by omega))
    ·have:0<rest.length:=Lw.2 hr
     simp
     omega
theorem xU:∀(L:Nat) (l:List UInt8) (n:Nat),l.length<=L->l.length<=4294960000->l.length+60<=n->∃k:Nat,be.F n (bt l)=some (k:Int)/\kW l k:=by
 intro L
 induction L with
 |zero=>
  intro l n hl _ hn;obtain⟨n,rfl⟩:∃m,n=m+1:=⟨n - 1,by omega⟩
  have:l=[]:=Kq.1 (by omega);subst this;rw[zK];unfold be.G;rw[iA,ge,ao (by simp)];exact⟨0,rfl,dN (λk h _=>h.ne rfl)⟩
 |succ L ih=>
  intro l n hl hL hn;obtain⟨n,rfl⟩:∃m,n=m+1:=⟨n - 1,by omega⟩
  cases l with
  |nil=>
   rw[zK];unfold be.G;rw[iA,ge,ao (by simp)];exact⟨0,rfl,dN (λk h _=>h.ne rfl)⟩
  |cons c r=>
   rw[zK];unfold be.G;rw[iA,ge,ab (by simp),ah]
   by_cases h200:200<(c::r).length
   ·rw[ab (by simp only[dg];omega)]
    exact⟨0,rfl,dN (λk _ h=>by omega)⟩
   ·rw[ao (by simp only[dg];omega)]
    have h200':=h200;simp only[Ju]at h200' hl hn;unfold be.j0;obtain⟨v,ok,hv,hok,_⟩:=pQ n (c::r) (by omega);rw[hv];simp only[Jn];cases ok with
    |true=>
     rw[ab rfl];obtain⟨x,hx0,hx1,hx⟩:=hok.1 rfl;refine⟨1,rfl,⟨by omega,λ_=>⟨by rw[hx];exact Tm.num x hx0 hx1,by omega⟩,λk' hk' hlen=>?_⟩⟩;have e1:=kD hk' [] 400 (.inl rfl) (by simp;omega) (by simp;omega);have e2:=kD (Tm.num x hx0 hx1) [] 400 (.inl rfl) (by rw[← hx];simp;omega) (by rw[← hx];simp;omega);rw[← hx,e1]at e2;have:=congrArg Prod.fst (Me e2)
     simp at this
     omega
    |false=>
     have hnn:¬ly (c::r):=λh=>by have:=hok.2 h;cases this
     have hsz:0<((c::r).length:Int):=by simp<;>omega
     rw[ao (by simp),ah,ab ⟨by omega,hsz⟩,iv,IX]
     by_cases h34:c=34
     ·subst h34
      rw[ab (by simp),dW];simp only[Jn];have symInv:∀k,Tm k (34::r)->∃m:List UInt8,r=m++[34]/\m.length<=20/\m.all eU=true/\k=2:=by
       intro k hk;generalize he:(34::r:List UInt8)=t at hk;cases hk with
       |num x h0 h1=>exact bH ⟨x,h0,h1,he⟩ hnn
       |sym m h hp=>injection he with _ he;exact⟨m,he,h,hp,rfl⟩
       |con0 nm h=>obtain⟨c',r',hc',hb,_⟩:=iN h;rw[hc']at he;injection he with he _;subst he;exact bH hb (by decide)
       |con nm a bs h ks hh=>obtain⟨c',r',hc',hb,_⟩:=iN h;rw[hc']at he;injection he with he _;subst he;exact bH hb (by decide)
      by_cases hsz2:2<=(34::r:List UInt8).length/\(34::r:List UInt8).length<=22
      ·rw[ab (by simp only[OQ,dg];omega)]
       simp only[Ju]at hsz2;obtain⟨m,x,rfl⟩:∃m x,r=m++[x]:=⟨r.dropLast,r.getLast (by rintro rfl;simp at hsz2),(List.dropLast_concat_getLast _).symm⟩
       have hlm:(m++[x]).length=m.length+1:=by simp
       have hw:Js.wrap (((34::(m++[x]):List UInt8).length:Int) - 1)=((34::m:List UInt8).length:Int):=by
        rw[aK _ (by simp;omega) (by simp;omega)];simp
       have hat:aP (bt (34::(m++[x]))) ((34::m:List UInt8).length:Int)=(x.toNat:Int):=ev (34::m) [] x;rw[hw,ab ⟨by omega,by simp only[Ju,Jv,Jz];omega⟩,hat,IX]
       by_cases hx:x=34
       ·subst hx
        rw[ao (by simp)];unfold be.j1;have:=xT n (be.F n) (λ_=>some 2) 34 m [34] n (by simp;omega) (by omega);simp only[Ku,Le]at this;rw[show((1:Nat):Int)=1 from rfl]at this;rw[this]
        by_cases hm:m.all eU=true
        ·rw[ab hm]
         refine⟨2,rfl,⟨by omega,λ_=>⟨Tm.sym m (by omega) hm,by simp;omega⟩,λk' hk' _=>?_⟩⟩;obtain⟨_,_,_,_,h⟩:=symInv k' hk';omega
        ·rw[ao hm]
         refine⟨0,rfl,dN (λk' hk' _=>?_)⟩;obtain⟨m',h1,_,h3,_⟩:=symInv k' hk';have:=List.append_inj_left' h1 rfl;subst this;exact hm h3
       ·rw[ab (by simpa using hx)]
        refine⟨0,rfl,dN (λk' hk' _=>?_)⟩;obtain⟨m',h1,_,h3,_⟩:=symInv k' hk';have:=List.append_inj_right' h1 rfl
        injection this with this
        exact hx this
      ·rw[ao (by simp only[OQ,dg];omega)]
       refine⟨0,rfl,dN (λk' hk' _=>?_)⟩;obtain⟨m',h1,h2,h3,_⟩:=symInv k' hk';rw[h1]at hsz2
       simp at hsz2
       omega
     ·rw[ao (by simpa using h34)]
      have conInv:∀k,Tm k (c::r)->k=3/\((fO (c::r)=true)\/∃nm a bs,c::r=nm++40::(a++(aC bs++[41]))/\fO nm=true/\∀x∈a::bs,∃k,Tm k x):=by
       intro k hk;generalize he:c::r=t at hk;cases hk with
       |num x h0 h1=>exact bH ⟨x,h0,h1,he⟩ hnn
       |sym m h hp=>injection he with he _;exact bH he h34
       |con0 nm h=>exact⟨rfl,.inl h⟩
       |con nm a bs h ks hh=>exact⟨rfl,.inr ⟨nm,a,bs,rfl,h,λx hx=>⟨_,hh x hx⟩⟩⟩
      have goArgs:∀(nm:List UInt8) (ls:List (List UInt8)),ls.length<=(c::r).length->(∀x∈ls,x.length<(c::r).length)->ay.F n (bt (c::r))=some (bt nm,ls.map bt,true)->nm.length<=(c::r).length->
        ∃κ:List UInt8->Nat,(∀x∈ls,kW x (κ x))/\((ay.F n (bt (c::r))).bind λr9=>
         if(!r9.2.2)=false then
          (dZ.F n r9.1 true).bind λr10=>
          if(!r10)=true then
           some 0
          else
           be.j3 n (be.F n) r9.2.1
         else
          some 0)=if fO nm=true then(if ls.all (λx=>!decide (κ x=0))=true then some 3 else some 0)else some 0:=by
       intro nm ls hlen hsub hA hnm;have hex:∃κ:List UInt8->Nat,∀x∈ls,be.F n (bt x)=some (κ x:Int)/\kW x (κ x):=by
        classical
        refine⟨λx=>if h:∃k:Nat,be.F n (bt x)=some (k:Int)/\kW x k then h.choose else 0,λx hx=>?_⟩;have h1:=hsub x hx;simp only[Ju]at h1;have:=ih x n (by omega) (by omega) (by omega);show be.F n (bt x)=some (((if h:∃k:Nat,be.F n (bt x)=some (k:Int)/\kW x k then h.choose else 0:Nat):Nat):Int)/\kW x (if h:∃k:Nat,be.F n (bt x)=some (k:Int)/\kW x k then h.choose else 0);rw[dif_pos this];exact this.choose_spec
       obtain⟨κ,hκ⟩:=hex;refine⟨κ,λx hx=>(hκ x hx).2,?_⟩;simp only[Ju]at hnm hlen;rw[hA];simp only[Jn];rw[ab (by simp),zH n nm (by omega) (by omega)];simp only[Jn]
       by_cases hb:fO nm=true
       ·rw[ao (by rw[hb];simp),ab hb]
        unfold be.j3;have:=sP n (be.F n) (λ_=>some 3) κ ls [] n (by simp;omega) (by omega) (λx hx=>(hκ x hx).1);simp only[Kv,Jz]at this;rw[show((0:Nat):Int)=0 from rfl]at this;exact this
       ·rw[ab (by rw[JT.2 hb];rfl),ao hb]
      have noOpen:fO (c::r)=true->((c::r).takeWhile cN).length=(c::r).length:=by
       intro h;obtain⟨c',r',hc',_,_,hall⟩:=iN h;exact nL.2 (ut hall)
      have conOpen:∀(nm:List UInt8) (X:List UInt8),c::r=nm++40::X->((c::r).takeWhile cN).length≠(c::r).length:=by
       intro nm X he h;have:=nL.1 h;rw[Kc]at this;have h40:=this 40 (by rw[he];simp);exact bH h40 (by decide)
      have hstart:=xS n (c::r) (by omega) (by simp only[Ju];omega);have hwle:((c::r).takeWhile cN).length<=(c::r).length:=(Lt cN).length_le
      by_cases htw:((c::r).takeWhile cN).length=(c::r).length
      ·rw[ab htw]at hstart
       obtain⟨κ,_,hres⟩:=goArgs (c::r) [] (by simp) (λx hx=>by cases hx) hstart (JS _);rw[hres]
       by_cases hb:fO (c::r)=true
       ·rw[ab hb,ab (by simp)]
        exact⟨3,rfl,⟨by omega,λ_=>⟨Tm.con0 _ hb,by omega⟩,λk' hk' _=>(conInv k' hk').1.symm⟩⟩
       ·rw[ao hb]
        refine⟨0,rfl,dN (λk' hk' _=>?_)⟩;rcases(conInv k' hk').2 with h|⟨nm,a,bs,h,_⟩
        ·exact hb h
        ·exact conOpen _ _ h htw
      ·rw[ao htw]at hstart
       have hs:=nh cN (c::r);have hdrop:∃r',(c::r).drop ((c::r).takeWhile cN).length=40::r':=by
        cases hd:(c::r).drop ((c::r).takeWhile cN).length with
        |nil=>exact bH (M1.1 hd) (by omega)
        |cons d t=>
         have hno:cN d=false:=by
          have h1:(c::r).takeWhile cN=((c::r).takeWhile cN++d::t).takeWhile cN:=by
           conv=>lhs;rw[hs,hd]
          rcases nc (cN d)with h|h
          ·exact h
          ·have h2:∀(A:List UInt8),A.all cN=true->(A++d::t).takeWhile cN=A++d::t.takeWhile cN:=by
            intro A
            induction A with
            |nil=>intro _;rw[Kv,Kb,h,ab rfl];rfl
            |cons x A ihA=>intro hA;rw[Kz,Jx]at hA;rw[KZ,Kb,hA.1,ab rfl,ihA hA.2];rfl
           rw[h2 _ (vC cN (c::r))]at h1;have:=congrArg Jp h1
           simp at this
         have:d=40:=by
          unfold cN at hno;simpa using hno
         exact⟨t,by rw[this]⟩
       generalize hW:(c::r).takeWhile cN=W at*;obtain⟨r',hr'⟩:=hdrop;rw[hr']at hs;have hA:=sL n (W.length:Int) (λ_=>some (Jo,[],false)) W.length rfl rfl (40::r') W n 0 false (W.length+1) [] (by rw[← hs];omega) (by have:=congrArg Jp hs;simp only[Jv,Ju]at this;simp only[Ju];omega)
        (by have:=congrArg Jp hs;simp only[Jv,Ju]at this;simp only[Ju];omega) (by rw[ab rfl];omega) (JS _) (by simp) (λ_=>⟨rfl,rfl,r',rfl⟩)
       obtain⟨x,ys,ok,h1,h2⟩:=hA;rw[← hs]at h1 h2;rw[h1]at hstart;cases ok with
       |false=>
        rw[hstart];simp only[Jn];rw[ao (by simp)];refine⟨0,rfl,dN (λk' hk' _=>?_)⟩;rcases(conInv k' hk').2 with h|⟨nm,a,bs,h,hb,hh⟩
        ·exact htw (noOpen h)
        ·have:=sO n nm a bs hb hh (by rw[← h];omega) (by rw[← h];simp only[Ju];omega)
         rw[← h,hstart]at this
         simp at this
       |true=>
        obtain⟨hx,p,bs,hys,hdr⟩:=h2 rfl;have htk:(c::r).take W.length=W:=by rw[hs,Lc]
        rw[htk]at hx;have hr2:r'=p++(aC bs++[41]):=by
         rw[← hdr]
         conv=>rhs;rw[hs]
         rw[← LB,KJ]
         rfl
        have hfull:c::r=W++40::(p++(aC bs++[41])):=by rw[hs,hr2]
        have hlenF:=congrArg Jp hfull;simp only[Jv,Ju,Jz]at hlenF;have hbl:∀bs:List (List UInt8),bs.length<=(aC bs).length/\∀x∈bs,x.length<=(aC bs).length:=by
         intro bs
         induction bs with
         |nil=>exact⟨JS _,λx hx=>by cases hx⟩
         |cons b bs ihb=>
          simp only[aC,Ju,Jv];refine⟨by omega,λx hx=>?_⟩;rcases JV.1 hx with rfl|hx
          ·omega
          ·have:=ihb.2 x hx;omega
        have hsub:∀x∈p::bs,x.length<(c::r).length:=by
         intro x hx;rw[Ju];rcases JV.1 hx with rfl|hx
         ·omega
         ·have:=(hbl bs).2 x hx;omega
        rw[hx,hys,Kv]at hstart;obtain⟨κ,hκ,hres⟩:=goArgs W (p::bs) (by have:=(hbl bs).1;simp only[Ju];omega) hsub hstart (by omega);rw[hres]
        by_cases hb:fO W=true
        ·rw[ab hb]
         by_cases hall:(p::bs).all (λx=>!decide (κ x=0))=true
         ·rw[ab hall]
          refine⟨3,rfl,⟨by omega,λ_=>⟨?_,by omega⟩,λk' hk' _=>(conInv k' hk').1.symm⟩⟩;rw[hfull];refine Tm.con W p bs hb κ (λx hx=>((hκ x hx).sound ?_).1);rw[Kc]at hall;have:=hall x hx;simpa using this
         ·rw[ao hall]
          refine⟨0,rfl,dN (λk' hk' _=>?_)⟩;rcases(conInv k' hk').2 with h|⟨nm,a,bs',h,hb',hh⟩
          ·exact htw (noOpen h)
          ·have:=sO n nm a bs' hb' hh (by rw[← h];omega) (by rw[← h];simp only[Ju];omega)
           rw[← h,hstart]at this;have e1:(p::bs).map bt=(a::bs').map bt:=congrArg (λq:ByteArray×List ByteArray×Bool=>q.2.1) (Me this);have e2:p::bs=a::bs':=by
            have:=congrArg (List.map λs:ByteArray=>s.data.toList) e1;rw[Lo,Lo]at this;simpa[Function.comp_def,ek]using this
           apply hall;rw[Kc];intro x hx;obtain⟨kx,hkx⟩:=hh x (by rw[← e2];exact hx);have hlx:=hsub x hx;have:=(hκ x hx).complete kx hkx (by omega);have hk0:=hkx.kind
           simp
           omega
        ·rw[ao hb]
         refine⟨0,rfl,dN (λk' hk' _=>?_)⟩;rcases(conInv k' hk').2 with h|⟨nm,a,bs',h,hb',hh⟩
         ·exact htw (noOpen h)
         ·have:=sO n nm a bs' hb' hh (by rw[← h];omega) (by rw[← h];simp only[Ju];omega)
          rw[← h,hstart]at this;have e1:bt W=bt nm:=congrArg (λq:ByteArray×List ByteArray×Bool=>q.1) (Me this);rw[E3 e1]at hb;exact hb hb'
end Go.Abs
