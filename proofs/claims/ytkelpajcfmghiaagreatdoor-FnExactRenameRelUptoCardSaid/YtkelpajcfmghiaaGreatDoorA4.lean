/- The abstract interpreter of the elaborated code, and that what it answers is what the machine does: part 4. Conditions: none. -/
import Derived.Below
import Derived.Sort.Grow
import Derived.Deep.Draws
import Derived.Test.YtkelpajcfmghiaaGreatDoorA3
open Array renaming replicate → Nh,size_append → OC
open Bool renaming and_eq_true → Jm
open Go.Abs.Kd renaming Ts → Mg,beqs → Ob,eq_of_beq → Ka,eq_of_beqs → NQ
open Go.Abs.Md renaming eq_of_beq → Lh
open Go.Abs.Oper renaming opds → Kw
open Go.Result renaming andThen_ok → Js
open Go.Sem renaming run_bind → JC,run_pure → JP
open List renaming getElem?_cons_succ → NF,getElem?_cons_zero → Kq,getElem?_eq_some_iff → JU,mem_append → KC,mem_append_left → Ko,mem_append_right → Km,mem_cons_of_mem → JE,mem_cons_self → JA,mem_singleton → JQ,nodup_append → OU
open Nat renaming add_sub_cancel_left → NP,add_zero → KH,beq → KA,eq_of_beq_eq_true → JM,le_refl → JG,lt_of_lt_of_le → JX,not_lt_zero → Jx,zero_le → JF
open Option.some renaming injEq → Jq
open Prod.mk renaming injEq → JH
set_option linter.unusedVariables false
set_option linter.unusedSimpArgs false
namespace Go.Abs
def Es (c:fS):Prop:=∀(f:Nat) (args:List Arg) (Ω:Type) (K:oS->Option Ω),c.M f args K=(c.M f args some).bind K
theorem mN {Ω:Type}(nt:Nat)(dst:Option Nat)(s:Slot)(k:bW->Option Ω):cz nt dst s k=(cz nt dst s some).bind k:=by
 unfold cz
 repeat' split
 all_goals rfl
theorem yz {Ω:Type}(nt:Nat)(dst:Option Nat)(fr:Bool)(o:Obj)(b:Bool)(more:List (Nat×Option Obj))(k:bW->Option Ω):dH nt dst fr o b more k=(dH nt dst fr o b more some).bind k:=by
 unfold dH
 repeat' split
 all_goals rfl
theorem lD {Ω Ω':Type}:∀(p q:bI) (x:Option Ω) (f:Ω->Option Ω'),lx p q (x.bind f)=(lx p q x).bind f
 |[],[],_,_=>rfl
 | .inn::p,.inn::q,x,f=>lD p q x f
 | .fst::p,.fst::q,x,f=>lD p q x f
 | .snd::p,.snd::q,x,f=>lD p q x f
 | .idx i::p,.idx j::q,x,f=>by
  unfold lx
  split
  ·exact lD p q x f
  ·rfl
 |[],_::_,_,_=>rfl
 | .inn::_,[],_,_| .fst::_,[],_,_| .snd::_,[],_,_| .idx _::_,[],_,_=>rfl
 | .inn::_,.fst::_,_,_| .inn::_,.snd::_,_,_| .inn::_,.idx _::_,_,_| .fst::_,.inn::_,_,_| .fst::_,.snd::_,_,_| .fst::_,.idx _::_,_,_
 | .snd::_,.inn::_,_,_| .snd::_,.fst::_,_,_| .snd::_,.idx _::_,_,_| .idx _::_,.inn::_,_,_| .idx _::_,.fst::_,_,_| .idx _::_,.snd::_,_,_=>rfl
theorem lE {Ω Ω':Type}:∀(p q:bI) (x:Option Ω) (f:Ω->Option Ω'),mx p q (x.bind f)=(mx p q x).bind f
 |[],q,_,_=>by cases q<;>rfl
 | .inn::p,.inn::q,x,f=>lE p q x f
 | .fst::p,.fst::q,x,f=>lE p q x f
 | .snd::p,.snd::q,x,f=>lE p q x f
 | .idx i::p,.idx j::q,x,f=>by
  unfold mx
  split
  ·exact lE p q x f
  ·rfl
 | .inn::_,[],_,_| .fst::_,[],_,_| .snd::_,[],_,_| .idx _::_,[],_,_=>rfl
 | .inn::_,.fst::_,_,_| .inn::_,.snd::_,_,_| .inn::_,.idx _::_,_,_| .fst::_,.inn::_,_,_| .fst::_,.snd::_,_,_| .fst::_,.idx _::_,_,_
 | .snd::_,.inn::_,_,_| .snd::_,.fst::_,_,_| .snd::_,.idx _::_,_,_| .idx _::_,.inn::_,_,_| .idx _::_,.fst::_,_,_| .idx _::_,.snd::_,_,_=>rfl
theorem Cn {Ω Ω':Type}(op:BinOp)(i:IntKind)(a b:Int)(k:KV->Option Ω)(f:Ω->Option Ω'):xW op i a b (λr=>(k r).bind f)=(xW op i a b k).bind f:=by
 unfold xW
 repeat' split
 all_goals rfl
theorem Co {Ω Ω':Type}(op:BinOp)(a b:ByteArray)(k:KV->Option Ω)(f:Ω->Option Ω'):AS op a b (λr=>(k r).bind f)=(AS op a b k).bind f:=by
 unfold AS
 repeat' split
 all_goals rfl
theorem yA {Ω Ω':Type}(op:BinOp)(i:IntKind)(a b:Int)(k:KV->Option Ω)(f:Ω->Option Ω'):nH op i a b (λr=>(k r).bind f)=(nH op i a b k).bind f:=by
 unfold nH
 repeat' split
 all_goals rfl
theorem Cp {Ω Ω':Type}(c:fS)(op:BinOp)(t:Nat)(cst:Bool)(a b:KV)(k:KV->Option Ω)(f:Ω->Option Ω'):AT c op t cst a b (λr=>(k r).bind f)=(AT c op t cst a b k).bind f:=by
 unfold AT
 repeat' split
 all_goals first|rfl|exact Cn _ _ _ _ _ _|exact Co _ _ _ _ _|exact yA _ _ _ _ _ _
theorem yB {Ω:Type}(nt:Nat)(mds:List (Nat×Md))(dst:Option Nat)(fr:Bool)(outs:List (Nat×Option Obj))(rets:List RV)(k:bW->Option Ω):oU nt mds dst fr outs rets k=(oU nt mds dst fr outs rets some).bind k:=by
 unfold oU
 repeat' split
 all_goals rfl
theorem tv {c:fS}(hU:Es c){Ω:Type}(nt:Nat)(mds:List (Nat×Md))(dst:Option Nat)(fr:Bool)(f:Nat)(ts:List Nat)(vs:List bF)(k:bW->Option Ω):
  kJ c nt mds dst fr f ts vs k=(kJ c nt mds dst fr f ts vs some).bind k:=by
 unfold kJ
 split
 ·rfl
 ·split
  ·rfl
  ·split
   ·rw[hU f _ Ω,hU f _ bW]
    cases c.M f _ some with
    |none=>rfl
    |some res=>
     simp only[Option.bind_some]
     split
     ·split
      ·rfl
      ·exact yB _ _ _ _ _ _ _
     ·rfl
   ·rfl
theorem Cq {Ω:Type}(nt:Nat)(dst:Option Nat)(Ks:List Kd)(Kr:Kd)(f:Mg Ks->Option Kr.T)(vs:List bF)(k:bW->Option Ω):AV nt dst Ks Kr f vs k=(AV nt dst Ks Kr f vs some).bind k:=by
 unfold AV
 split
 ·rfl
 ·split
  ·rfl
  ·rename_i a ha
   cases f a with
   |none=>rfl
   |some y=>exact mN _ _ _ _
theorem Cr {c:fS}(hU:Es c){Ω:Type}(nt:Nat)(mds:List (Nat×Md))(o:Oper)(vs:List bF)(fr:Bool)(k:bW->Option Ω):vp c nt mds o vs fr k=(vp c nt mds o vs fr some).bind k:=by
 unfold vp
 split
 all_goals repeat' (first|rfl|exact mN _ _ _ _|exact yz _ _ _ _ _ _ _|exact tv hU _ _ _ _ _ _ _ _|exact Cq _ _ _ _ _ _ _|(rw[← Cp];congr 1;funext q;exact mN _ _ _ _)|(rw[← lD];rfl)|(rw[← lE];congr 1;exact mN _ _ _ _)|split|(dsimp only;split))
theorem Cs {c:fS}(hU:Es c){Ω:Type}(nt:Nat)(mds:List (Nat×Md))(o:Oper)(vs:List bF)(fr:Bool)(k:bW->Option Ω):nW c nt mds o vs fr k=(nW c nt mds o vs fr some).bind k:=by
 unfold nW
 split
 all_goals repeat' (first|rfl|exact mN _ _ _ _|exact tv hU _ _ _ _ _ _ _ _|split|(dsimp only;split))
theorem zS {c:fS}(hU:Es c){Ω:Type}(nt:Nat)(mds:List (Nat×Md))(o:Oper)(vs:List bF)(fr:Bool)(k:bW->Option Ω):C1 c nt mds o vs fr k=(C1 c nt mds o vs fr some).bind k:=by
 unfold C1
 split
 ·exact Cs hU nt mds o vs fr k
 ·exact Cr hU nt mds o vs fr k
theorem Ia {Ω:Type}(l:Option (List Nat))(k:Env->Option Ω)(e:Env):meet l k e=k (match l with|none=>e|some l=>jH e l):=by
 cases l<;>rfl
def uB (j:Nat):Arg->Slot
 | .ro K x=>.v K x
 | .rp K x=>.rp K x
 | .mp _ _ _=>.pt j 0 []
 | .ms _ _ _=>.al j 0 []
 | .mv _ _ _=>.al j 0 []
 | .fn Ks Kr f=>.clo Ks Kr f
 | .fc f fs caps=>.fv f fs (caps.map λq=>.rp q.1 q.2)
def lF:Arg->Option Obj
 | .mp K m x=>some ⟨K,m,x,true,true,[],none⟩
 | .ms K m x=>some ⟨K,m,x,false,true,[],none⟩
 | .mv K m x=>some ⟨K,m,x,false,false,[],none⟩
 |_=>none
def nh:Nat->List Arg->List (Nat×Slot)
 |_,[]=>[]
 |j,a::l=>(j,uB j a)::nh (j+1) l
def mO:Nat->List Arg->List (Nat×Option Obj)
 |_,[]=>[]
 |j,a::l=>match lF a with
  |some o=>(j,some o)::mO (j+1) l
  |none=>mO (j+1) l
def q5 (args:List Arg):Env:=⟨nh 0 args,mO 0 args⟩
theorem oq:∀(l:List Arg) (j i:Nat),au (nh j l) i=if j<=i then(l[i - j]?).map (uB i)else none
 |[],j,i=>by simp[nh,au]
 |a::l,j,i=>by
  unfold nh
  by_cases h:j=i
  ·subst h
   rw[aQ,ab (JG _),Nat.sub_self]
   rfl
  ·rw[aX h,oq l (j+1) i]
   by_cases hlt:j<i
   ·rw[ab (by omega),ab (by omega),show i - j=(i - (j+1))+1 by omega,NF]
   ·rw[ao (by omega),ao (by omega)]
theorem mP:∀(l:List Arg) (j i:Nat),au (mO j l) i=if j<=i then(l[i - j]?).bind (λa=>(lF a).map some)else none
 |[],j,i=>by simp[mO,au]
 |a::l,j,i=>by
  have tail:j≠i->au (mO (j+1) l) i=if j<=i then((a::l)[i - j]?).bind (λa=>(lF a).map some)else none:=by
   intro h;rw[mP l (j+1) i]
   by_cases hlt:j<i
   ·rw[ab (by omega),ab (by omega),show i - j=(i - (j+1))+1 by omega,NF]
   ·rw[ao (by omega),ao (by omega)]
  unfold mO
  by_cases h:j=i
  ·subst h
   rw[ab (JG _),Nat.sub_self]
   split
   ·rename_i o ho
    rw[aQ]
    simp[ho]
   ·rename_i ho
    rw[mP l (j+1) j,ao (by omega)]
    simp[ho]
  ·split
   ·rw[aX h];exact tail h
   ·exact tail h
def pm (w:World)(args:List Arg)(g:Gh):Base where
 w0:=w
 S0:=g.S
 Fx:=λb=>∃j,g.F j b
 Rx:=λb o=>∃j a off,args[j]? =some a/\g.pl j=some (b,off)/\off<=o/\o<off+a.size
 hd:=λj=>(g.pl j,g.cs j)
theorem B9 {P:Program}{w:World}{args:List Arg}{vals:List Value}{g:Gh}{nt:Nat}(h:tl P w args vals g)(hnt:args.length<=nt):
  Inv P (pm w args g) nt (q5 args) {tmps:=vals.toArray++Nh (nt - vals.toArray.size) undef,defers:=[]} w:=by
 have hl:=h.len;have obj:∀i,(q5 args).obj i=(args[i]?).bind λa=>(lF a).map some:=by
  intro i;show au (mO 0 args) i=_;rw[mP,ab (JF _),Nat.sub_zero]
 have get:∀i,(q5 args).get i=match args[i]? with|some a=>uB i a|none=>.dead:=by
  intro i;show(match au (nh 0 args) i with|some s=>s|none=>Slot.dead)=_;rw[oq,ab (JF _),Nat.sub_zero];cases args[i]? <;>rfl
 have argAt:∀i a,args[i]? =some a->∃v,vals[i]? =some v/\pi P g.S w (g.F i) (g.pl i) (g.cs i) a v:=by
  intro i a ha;have hi:i<vals.length:=by have:=(JU.1 ha).1;omega
  exact⟨vals[i],by simp,h.arg i a vals[i] ha (by simp)⟩
 have hX:∀b o,g.S b->¬(pm w args g).X b o:=by
  rintro b o hS (⟨j,hF⟩|⟨j,a,off,_,hp,_,_⟩)
  ·exact h.FS j b hF hS
  ·exact(h.plz j b off hp).2.1 hS
 refine⟨g,⟨h.glob,hX⟩,?_,rfl,Ext.refl _ _,h.Ssz,h.Fsz,λ_ h=>h,λ_ h=>.inl h,λi b hF=>.inl ⟨i,hF⟩,h.FS,h.FF,h.plz,λi hno=>?_,λi o ho=>?_,λi=>?_⟩
 ·simp only[OC,Array.size_replicate,List.size_toArray]
  omega
 ·cases ha:args[i]? with
  |none=>exact h.rest i (by have:=List.getElem?_eq_none_iff.1 ha;omega)
  |some a=>
   obtain⟨v,_,hr⟩:=argAt i a ha;have:lF a=none:=by
    cases ho:lF a with
    |none=>rfl
    |some o=>exact bJ (by rw[obj,ha];simp[ho]) (hno o)
   cases a with
   |ro K x=>exact⟨hr.1,hr.2.1⟩
   |rp K x=>exact⟨hr.1,hr.2.1⟩
   |fn Ks Kr f=>exact⟨hr.1,hr.2.1⟩
   |fc f fs caps=>exact⟨hr.1,hr.2.1⟩
   |mp K m x=>simp[lF]at this
   |ms K m x=>simp[lF]at this
   |mv K m x=>simp[lF]at this
 ·rw[obj]at ho
  cases ha:args[i]? with
  |none=>rw[ha]at ho;cases ho
  |some a=>
   rw[ha]at ho;obtain⟨v,_,hr⟩:=argAt i a ha;cases a with
   |ro K x=>cases ho
   |rp K x=>cases ho
   |fn Ks Kr f=>cases ho
   |fc f fs caps=>cases ho
   |mp K m x=>
    cases ho;obtain⟨b,off,hp,rfl,h1,h2⟩:=hr;exact⟨λ_=>⟨h1,h2⟩,(λp hp=>by cases hp),by rw[hp];rfl,λ_=>by
     unfold ny
     split
     ·exact⟨λ_=>rfl,λhn=>by rw[show(pm w args g).hd i=(g.pl i,g.cs i)from rfl,hp]at hn;cases hn⟩
     ·exact⟨rfl,λhb=>by cases hb⟩,(λb' off' hp'=>.inr ⟨rfl,λo' h3 h4=>⟨i,_,off',ha,hp',h3,h4⟩⟩),λq off hq=>lQ rfl hq⟩
   |ms K m x=>
    cases ho;obtain⟨hp,h1,h2⟩:=hr;exact⟨λ_=>⟨h1,λb off hq=>by rw[hp]at hq;cases hq⟩,(λp hp=>by cases hp),by rw[hp];rfl,λ_=>by
     unfold ny;rw[ao (by simp)];exact⟨rfl,λ_=>rfl⟩,(λb' off' hp'=>by rw[hp]at hp';cases hp'),λq off hq=>lQ rfl hq⟩
   |mv K m x=>
    cases ho;obtain⟨hp,h1,h2⟩:=hr;exact⟨λ_=>⟨h1,λb off hq=>by rw[hp]at hq;cases hq⟩,(λp hp=>by cases hp),by rw[hp];rfl,(λhp=>by cases hp),(λb' off' hp'=>by rw[hp]at hp';cases hp'),λq off hq=>lQ rfl hq⟩
 ·rw[get]
  cases ha:args[i]? with
  |none=>trivial
  |some a=>
   obtain⟨v,hv,hr⟩:=argAt i a ha;have hi:i<vals.length:=(JU.1 hv).1;have ht:(vals.toArray++Nh (nt - vals.toArray.size) undef).getD i undef=v:=by
    rw[Array.getD_eq_getD_getElem?,Array.getElem?_append_left (by simpa using hi)]
    simp[hv]
   show SlotRep P g w (q5 args).obj (uB i a) ((vals.toArray++Nh (nt - vals.toArray.size) undef).getD i undef);rw[ht];have hob:(q5 args).obj i=(lF a).map some:=by rw[obj,ha];rfl
   cases a with
   |ro K x=>exact hr.2.2
   |rp K x=>exact hr.2.2
   |fn Ks Kr f=>exact hr.2.2
   |fc f fs caps=>
    obtain⟨_,_,fv,cv,e1,h1,h2⟩:=hr;refine⟨fv,cv,e1,h1,?_⟩;have:∀(l:List KV) (vs:List Value),CapsRep g.S w l vs->CapsOk g w (q5 args).obj (l.map λq=>.rp q.1 q.2) vs:=by
     intro l
     induction l with
     |nil=>intro vs h;exact h
     |cons q l ih=>intro vs h;obtain⟨v,r,e,k1,k2⟩:=h;exact⟨v,r,e,k1,ih _ k2⟩
    exact this _ _ h2
   |mp K m x=>
    obtain⟨b,off,hp,rfl,h1,h2⟩:=hr;refine⟨⟨by rw[hob];simp[lF],λ_ _=>JF _⟩,λo ho _ _=>?_⟩;rw[hob]at ho;cases ho;exact⟨b,off,g.cs i,K,m,x,cn _ _ _,by simp only[ck,hp],rfl⟩
   |ms K m x=>
    obtain⟨hp,h1,h2⟩:=hr;refine⟨⟨by rw[hob];simp[lF],λ_ _=>JF _⟩,λo ho _ _=>?_⟩;rw[hob]at ho;cases ho;exact⟨none,g.cs i,K,m,x,cn _ _ _,by simp only[ck,hp],h2⟩
   |mv K m x=>
    obtain⟨hp,h1,h2⟩:=hr;refine⟨⟨by rw[hob];simp[lF],λ_ _=>JF _⟩,λo ho _ _=>?_⟩;rw[hob]at ho;cases ho;exact⟨none,g.cs i,K,m,x,cn _ _ _,by simp only[ck,hp],h2⟩
structure rx where
 code:Code
 nt:Nat
 ann:I7
 res:List (ResultVar×Kd×Md)
def yC (K:Kd)(m:Md):bF->Option (RV×List Nat×List Nat)
 |(.v K' x,_)=>if(K'.beq K&&m.beq .ro)=true then some (.ro K' x,[],[])else none
 |(.nils,_)=>match K with
  | .sl e=>if m.beq .ro=true then some (.ro (.sl e) [],[],[])else(match m with| .own m'=>some (.own (.sl e) (.own m') [],[],[])|_=>none)
  |_=>none
 |(.al id n [],some o)=>if(bK o&&fu o n []&& !o.par&&o.K.beq K)=true then(if m.beq .ro=true then some (.ro o.K o.x,[id],[])else if o.m.beq m=true then some (.own o.K o.m o.x,[],[id])else none)else none
 |(.pt id n [],some o)=>if(bK o&&gy o n []&& !o.par&&o.K.beq K&&o.m.beq m)=true then some (.bx o.K o.m o.x,[],[id])else none
 |_=>none
def uC (c:fS)(t:Nat)(K:Kd)(m:Md):bF->Option (RV×List Nat×List Nat)
 |(.rp K' x,_)=>if(K'.beq K&&m.beq .ro&&eS c t K')=true then some (.ro K' x,[],[])else none
 |(.pt id n [],some o)=>if(bK o&&gy o n []&& !o.par&&o.K.beq K&&eS c t o.K)=true then(if m.beq .ro=true then some (.ro o.K o.x,[id],[])else if o.m.beq m=true then some (.own o.K o.m o.x,[],[id])else none)else none
 |_=>none
def Ct (c:fS)(e:Env):ResultVar×Kd×Md->Option (RV×List Nat×List Nat)
 |(.tmp t,K,m)=>yC K m (e.view (e.get t))
 |(.cell a t,K,m)=>uC c t K m (e.view (e.get a))
def ry (c:fS)(e:Env):List (ResultVar×Kd×Md)->Option (List RV×List Nat×List Nat)
 |[]=>some ([],[],[])
 |q::l=>match Ct c e q,ry c e l with
  |some (r,a1,a2),some (rs,b1,b2)=>some (r::rs,a1++b1,a2++b2)
  |_,_=>none
def gO (e:Env):Nat->List Arg->Option (List KV)
 |_,[]=>some []
 |j,.mp K m _::l=>match e.obj j with
  |some (some o)=>if(bK o&&o.par&&o.box&&o.K.beq K&&o.m.beq m)=true then(match gO e (j+1) l with|some r=>some (⟨o.K,o.x⟩::r)|none=>none)else none
  |_=>none
 |j,.ms K m _::l=>match e.obj j with
  |some (some o)=>if(bK o&&o.par&& !o.box&&o.K.beq K&&o.m.beq m)=true then(match gO e (j+1) l with|some r=>some (⟨o.K,o.x⟩::r)|none=>none)
   else if h:o.K.beq (.st K)=true then(if(bK o&&o.par&&o.box&&DZ o.K&&o.m.beq m)=true then(match gO e (j+1) l with|some r=>some (⟨K,(Ka h▸o.x:(Kd.st K).T)⟩::r)|none=>none)else none)else none
  |_=>none
 |j,.ro _ _::l=>gO e (j+1) l
 |j,.rp _ _::l=>gO e (j+1) l
 |j,.mv _ _ _::l=>gO e (j+1) l
 |j,.fn _ _ _::l=>gO e (j+1) l
 |j,.fc _ _ _::l=>gO e (j+1) l
def jK {Ω:Type}(c:fS)(d:rx)(args:List Arg)(K:oS->Option Ω)(e:Env):Option Ω:=match ry c e d.res,gO e 0 args with
 |some (rs,fz,ow),some outs=>if nodup (fz++ow)=true then K ⟨rs,outs⟩else none
 |_,_=>none
theorem Cu {Ω:Type}(c:fS)(d:rx)(args:List Arg)(K:oS->Option Ω)(e:Env):jK c d args K e=(jK c d args some e).bind K:=by
 unfold jK
 repeat' split
 all_goals rfl
theorem Ba {c:fS}(hc:cf c){B:Base}{nt:Nat}{e:Env}{a:Act}{w:World}{g:Gh}(hg:InvG c.P B nt e a w g){q:ResultVar×Kd×Md}{r:RV}{fz ow:List Nat}(h:Ct c e q=some (r,fz,ow))(FZ:List Nat)(hF:∀i,i∈fz->i∈FZ):
  ∃v cs,((match q.1 with| .tmp t=>pure (a.tmps.getD t undef)| .cell t ty=>(do loadVar ty (← asAddr (a.tmps.getD t undef))):Sem Value)).run c.P w= .ok v w/\
   RetRep (g.freeze FZ).S w (λb=>∃i,i∈ow/\g.has i b) cs r v/\∀i,i∈fz++ow->∃o,e.obj i=some (some o)/\o.par=false:=by
 obtain⟨rv,K,m⟩:=q;have S1:∀b,g.S b->(g.freeze FZ).S b:=λb hb=>.inl hb
 have noF:∀b,¬∃i,i∈([]:List Nat)/\g.has i b:=λb ⟨i,hi,_⟩=>by cases hi
 cases rv with
 |tmp t=>
  have hv:e.view (e.opd (.tmp t))=e.view (e.get t):=rfl;have h:yC K m (e.view (e.get t))=some (r,fz,ow):=h;generalize hw:e.view (e.get t)=vw at h hv;have hrep:=aH hg hv;refine⟨a.tmps.getD t undef,?_⟩;unfold yC at h
  split at h
  ·split at h
   ·cases h
    obtain⟨cs,h1,h2⟩:=hrep;exact⟨cs,rfl,⟨noF,h1.mono S1 (λ_ _ _ _ h=>h),h2⟩,λi hi=>by cases hi⟩
   ·cases h
  ·split at h
   ·split at h
    ·cases h
     refine⟨[.slice none 0 0],rfl,⟨noF,⟨none,0,rfl,JG _,λi hi=>bJ hi (Jx i)⟩,?_⟩,λi hi=>by cases hi⟩;have h1:a.tmps.getD t undef= .slice none 0 0:=hrep;rw[h1];exact⟨rfl,rfl⟩
    ·split at h
     ·cases h
      refine⟨[.slice none 0 0],rfl,⟨⟨none,0,rfl,JG _,λ_=>rfl,(λad had=>by cases had),λ_ _=>False,(λ_ _ h=>h.elim),(λ_ ad had=>by cases had),(λ_ _ _ _ h=>h.elim),λi hi=>bJ hi (Jx i)⟩,?_⟩,λi hi=>by cases hi⟩;have h1:a.tmps.getD t undef= .slice none 0 0:=hrep;rw[h1];exact⟨rfl,rfl⟩
     ·cases h
   ·cases h
  ·rename_i id n o
   split at h
   ·rename_i hcond
    simp only[Jm]at hcond;obtain⟨r1,r2,r3⟩:=lR hg hv hcond.1.1.1 hcond.1.1.2;have hpar:o.par=false:=by simpa using hcond.1.2
    split at h
    ·cases h
     refine⟨g.cs id,rfl,⟨noF,lC hg (hF id (by simp)) r1 (bS hcond.1.1.1),r2⟩,λi hi=>?_⟩
     simp at hi
     subst hi;exact⟨o,r1,hpar⟩
    ·split at h
     ·cases h
      refine⟨g.cs id,rfl,⟨r3.mono S1 (λ_ _ _ _ h=>h) (λb hb=>⟨id,by simp,.inr hb⟩) (λ_ _ _=>⟨rfl,rfl⟩),r2⟩,λi hi=>?_⟩
      simp at hi
      subst hi;exact⟨o,r1,hpar⟩
     ·cases h
   ·cases h
  ·rename_i id n o
   split at h
   ·rename_i hcond
    simp only[Jm]at hcond;have hpar:o.par=false:=by simpa using hcond.1.1.2
    have hh:=bS hcond.1.1.1.1;have hob:=gN hv;cases h;obtain⟨b,off,cs',K',m',x',a1,a2,a3⟩:=hrep.2 o hob hcond.1.1.1.2 (.inl hh);simp only[ck,Jq,JH]at a2;obtain⟨o1,o2⟩:=(hg.objs id o hob).own hh;rw[a2.1]at o2;refine⟨g.cs id,rfl,⟨b,off,⟨id,by simp,.inl ⟨off,a2.1⟩⟩,a3,o1.mono S1 (λ_ _ _ _ h=>h) (λb' hb'=>⟨⟨id,by simp,.inr hb'⟩,λe1=>(hg.plz id b off a2.1).2.2.1 id (e1▸hb')⟩) (λ_ _ _=>⟨rfl,rfl⟩),o2⟩,λi hi=>?_⟩
    simp at hi
    subst hi;exact⟨o,hob,hpar⟩
   ·cases h
  ·cases h
 |cell t ty=>
  have hv:e.view (e.opd (.tmp t))=e.view (e.get t):=rfl;have h:uC c ty K m (e.view (e.get t))=some (r,fz,ow):=h;generalize hw:e.view (e.get t)=vw at h hv;have hrep:=aH hg hv;have he:a.eval (.tmp t)=a.tmps.getD t undef:=rfl;rw[he]at hrep;unfold uC at h
  split at h
  ·split at h
   ·rename_i hcond
    simp only[Jm]at hcond;cases h;obtain⟨b,off,cs,h1,h2,h3,h4⟩:=hrep;obtain⟨hT,_⟩:=ey hc.ty hcond.2;refine⟨_,cs,?_,⟨noF,h4.mono S1 (λ_ _ _ _ h=>h),h4.vrep hT.np⟩,λi hi=>by cases hi⟩;simp only[h1,asAddr,JC,JP,Js];exact ix hT h4.length h3
   ·cases h
  ·rename_i id n o
   split at h
   ·rename_i hcond
    simp only[Jm]at hcond;have hpar:o.par=false:=by simpa using hcond.1.1.2
    have hh:=bS hcond.1.1.1.1;have hob:=gN hv;obtain⟨b,off,cs',K',m',x',a1,a2,a3⟩:=hrep.2 o hob hcond.1.1.1.2 (.inl hh);rw[cn]at a1;cases a1;simp only[ck,Jq,JH]at a2;obtain⟨o1,o2⟩:=(hg.objs id o hob).own hh;obtain⟨hT,_⟩:=ey hc.ty hcond.2;have hld:(do loadVar ty (← asAddr (a.tmps.getD t undef)):Sem Value).run c.P w= .ok (o.K.val (g.cs id)) w:=by
     simp only[a3,asAddr,JC,JP,Js];exact ix hT o1.length (o2 b off a2.1).1
    have hro:=lC hg (ids:=id::FZ) (i:=id) JA hob hh
    split at h
    ·cases h
     refine⟨_,g.cs id,hld,⟨noF,lC hg (hF id (by simp)) hob hh,hro.vrep hT.np⟩,λi hi=>?_⟩
     simp at hi
     subst hi;exact⟨o,hob,hpar⟩
    ·split at h
     ·cases h
      refine⟨_,g.cs id,hld,⟨o1.mono S1 (λ_ _ _ _ h=>h) (λb hb=>⟨id,by simp,.inr hb⟩) (λ_ _ _=>⟨rfl,rfl⟩),hro.vrep hT.np⟩,λi hi=>?_⟩
      simp at hi
      subst hi;exact⟨o,hob,hpar⟩
     ·cases h
   ·cases h
  ·cases h
def rz (tmps:Array Value):ResultVar->Sem Value
 | .tmp t=>pure (tmps.getD t undef)
 | .cell a t=>do loadVar t (← asAddr (tmps.getD a undef))
structure GY (c:fS) (w:World) (g:Gh) (FZ:List Nat) (a:Act) (l:List (ResultVar×Kd×Md)) (rs:List RV) (ow:List Nat) (vals:List Value) (csr:Nat->List Value) (owI:Nat->List Nat):Prop where
 len:vals.length=l.length/\rs.length=l.length
 run:∀(i:Nat) (q:ResultVar×Kd×Md) (v:Value),l[i]? =some q->vals[i]? =some v->(rz a.tmps q.1).run c.P w= .ok v w
 rep:∀(i:Nat) (r:RV) (v:Value),rs[i]? =some r->vals[i]? =some v->RetRep (g.freeze FZ).S w (λb=>∃id,id∈owI i/\g.has id b) (csr i) r v
 sub:∀i id,id∈owI i->id∈ow
 one:ow.Nodup->∀i k id,id∈owI i->id∈owI k->i=k
 rest:∀i,l.length<=i->owI i=[]
theorem tw {c:fS}(hc:cf c){B:Base}{nt:Nat}{e:Env}{a:Act}{w:World}{g:Gh}(hg:InvG c.P B nt e a w g)(FZ:List Nat):∀(l:List (ResultVar×Kd×Md)) (rs:List RV) (fz ow:List Nat),ry c e l=some (rs,fz,ow)->(∀i,i∈fz->i∈FZ)->
  (∀i,i∈fz++ow->∃o,e.obj i=some (some o)/\o.par=false)/\∃vals csr owI,GY c w g FZ a l rs ow vals csr owI
 |[],rs,fz,ow,h,_=>by
  simp only[ry,Jq,JH]at h;obtain⟨rfl,rfl,rfl⟩:=h;exact⟨(λi hi=>by cases hi),[],λ_=>[],λ_=>[],⟨⟨rfl,rfl⟩,(λi q v h=>by simp at h),(λi r v h=>by simp at h),(λi id h=>by cases h),(λ_ i k id h=>by cases h),λ_ _=>rfl⟩⟩
 |q::l,rs,fz,ow,h,hF=>by
  unfold ry at h
  split at h
  ·rename_i r a1 a2 rs' b1 b2 h1 h2
   cases h;obtain⟨v,cs,k1,k2,k3⟩:=Ba hc hg h1 FZ (λi hi=>hF i (Ko _ hi));obtain⟨m1,vals,csr,owI,m2⟩:=tw hc hg FZ l rs' b1 b2 h2 (λi hi=>hF i (Km _ hi));have k1':(rz a.tmps q.1).run c.P w= .ok v w:=by
    obtain⟨rv,K,m⟩:=q;cases rv<;>exact k1
   refine⟨λi hi=>?_,v::vals,vW cs csr,vW a2 owI,⟨⟨by simp[m2.len.1],by simp[m2.len.2]⟩,λi q' v' hq hv=>?_,λi r' v' hr hv=>?_,λi id hi=>?_,λhn i k id hi hk=>?_,λi hi=>?_⟩⟩
   ·rcases KC.1 hi with hi|hi<;>rcases KC.1 hi with hi|hi
    ·exact k3 i (Ko _ hi)
    ·exact m1 i (Ko _ hi)
    ·exact k3 i (Km _ hi)
    ·exact m1 i (Km _ hi)
   ·cases i with
    |zero=>
     simp only[Kq,Jq]at hq hv;subst hq;subst hv;exact k1'
    |succ i=>exact m2.run i q' v' (by simpa using hq) (by simpa using hv)
   ·cases i with
    |zero=>
     simp only[Kq,Jq]at hr hv;subst hr;subst hv;exact k2
    |succ i=>exact m2.rep i r' v' (by simpa using hr) (by simpa using hv)
   ·cases i with
    |zero=>exact Ko _ hi
    |succ i=>exact Km _ (m2.sub i id hi)
   ·have hn':=OU.1 hn
    cases i with
    |zero=>
     cases k with
     |zero=>rfl
     |succ k=>exact bJ rfl (hn'.2.2 id hi id (m2.sub k id hk))
    |succ i=>
     cases k with
     |zero=>exact bJ rfl (hn'.2.2 id hk id (m2.sub i id hi))
     |succ k=>rw[m2.one hn'.2.1 i k id hi hk]
   ·cases i with
    |zero=>simp at hi
    |succ i=>exact m2.rest i (by simpa using hi)
  ·cases h
theorem tz {P:Program}{B:Base}{nt:Nat}{e:Env}{a:Act}{w2:World}{gc g1 g2:Gh}(hg:InvG P B nt e a w2 g1)(hhd:∀j,B.hd j=(gc.pl j,gc.cs j))(hS:∀b,g1.S b->g2.S b):∀(args:List Arg) (j:Nat) (outs:List KV),gO e j args=some outs->(∀k K m x,args[k]? =some (.ms K m x)->gc.pl (j+k)=none)->
  (∀k,k<args.length->∀o,e.obj (j+k)=some (some o)->o.par=true->g2.F (j+k)=g1.F (j+k)/\g2.cs (j+k)=g1.cs (j+k))->fp w2 gc g2 j args outs
 |[],j,outs,h,_,_=>by
  simp only[gO,Jq]at h;subst h
  trivial
 |arg::args,j,outs,h,hms,hk=>by
  have tail:∀outs',gO e (j+1) args=some outs'->fp w2 gc g2 (j+1) args outs':=λouts' h'=>tz hg hhd hS args (j+1) outs' h' (λk K m x hkx=>by
   have:=hms (k+1) K m x (by simpa using hkx)
   rwa [show j+(k+1)=j+1+k by omega]at this) (λk hlt o ho hp=>by
   have:=hk (k+1) (by simp;omega) o (by rwa [show j+(k+1)=j+1+k by omega]) hp
   rwa [show j+(k+1)=j+1+k by omega]at this)
  cases arg with
  |ro K x=>have h':gO e (j+1) args=some outs:=h;cases outs<;>exact tail _ h'
  |rp K x=>have h':gO e (j+1) args=some outs:=h;cases outs<;>exact tail _ h'
  |mv K m x=>have h':gO e (j+1) args=some outs:=h;cases outs<;>exact tail _ h'
  |fn Ks Kr f=>have h':gO e (j+1) args=some outs:=h;cases outs<;>exact tail _ h'
  |fc f fs caps=>have h':gO e (j+1) args=some outs:=h;cases outs<;>exact tail _ h'
  |mp K m x=>
   simp only[gO]at h
   split at h
   ·rename_i o ho
    split at h
    ·rename_i hcond
     simp only[Jm]at hcond
     split at h
     ·rename_i r hr
      cases h;have O:=hg.objs j o ho;obtain⟨o1,o2⟩:=O.own (bS hcond.1.1.1.1);have p0:=O.par hcond.1.1.1.2;obtain⟨f1,f2⟩:=hk 0 (by simp) o (by simpa using ho) hcond.1.1.1.2;rw[KH]at f1 f2;have e1:=Ka hcond.1.2;have e2:=Lh hcond.2;have p1:g1.pl j=gc.pl j\/gc.pl j=none:=by
       unfold ny at p0;rw[hhd]at p0
       split at p0
       ·cases hq:gc.pl j with
        |none=>exact .inr rfl
        |some q=>exact .inl ((p0.1 (by simp[hq])).trans hq)
       ·exact .inl p0.1
      refine⟨?_,tail _ hr⟩;obtain⟨K',m',x',b',p',l',h'⟩:=o
      simp only at e1 e2 o1 o2
      subst e1;subst e2;refine⟨x',rfl,?_,?_⟩
      ·rw[f1,f2]
       exact o1.mono hS (λ_ _ _ _ h=>h) (λ_ h=>h) (λ_ _ _=>⟨rfl,rfl⟩)
      ·rw[f2]
       rcases p1 with p1|p1
       ·rw[← p1]
        exact o2
       ·rw[p1]
        exact λb off hq=>by cases hq
     ·cases h
    ·cases h
   ·cases h
  |ms K m x=>
   simp only[gO]at h
   split at h
   ·rename_i o ho
    split at h
    ·rename_i hcond
     simp only[Jm]at hcond
     split at h
     ·rename_i r hr
      cases h;have O:=hg.objs j o ho;obtain⟨o1,o2⟩:=O.own (bS hcond.1.1.1.1);have p0:=O.par hcond.1.1.1.2;obtain⟨f1,f2⟩:=hk 0 (by simp) o (by simpa using ho) hcond.1.1.1.2;rw[KH]at f1 f2;have e1:=Ka hcond.1.2;have e2:=Lh hcond.2;have hbx:o.box=false:=by simpa using hcond.1.1.2
      unfold ny at p0;rw[hbx,Bool.false_and,ao (by simp)]at p0;have p3:=p0.2 rfl;rw[hhd]at p3;refine⟨?_,tail _ hr⟩;obtain⟨K',m',x',b',p',l',h'⟩:=o
      simp only at e1 e2 o1 o2
      subst e1;subst e2;refine⟨x',rfl,?_⟩;rw[f1];rw[show g1.cs j=gc.cs j from p3]at o1;exact o1.mono hS (λ_ _ _ _ h=>h) (λ_ h=>h) (λ_ _ _=>⟨rfl,rfl⟩)
     ·cases h
    ·split at h
     ·rename_i hKK
      split at h
      ·rename_i hcond
       simp only[Jm]at hcond
       split at h
       ·rename_i r hr
        cases h;have O:=hg.objs j o ho;obtain⟨o1,o2⟩:=O.own (bS hcond.1.1.1.1);have p0:=O.par hcond.1.1.1.2;obtain⟨f1,f2⟩:=hk 0 (by simp) o (by simpa using ho) hcond.1.1.1.2;rw[KH]at f1 f2;have e2:=Lh hcond.2;unfold ny at p0;rw[ab (by rw[hcond.1.1.2,hcond.1.2];rfl),hhd]at p0;have p3:=p0.2 (by have:=hms 0 K m x rfl;simpa using this);refine⟨?_,tail _ hr⟩;have e1:=Ka hKK;obtain⟨K',m',x',b',p',l',h'⟩:=o
        simp only at e1 e2 o1 o2
        subst e1;subst e2;refine⟨x',rfl,?_⟩;rw[f1];rw[show g1.cs j=gc.cs j from p3]at o1;exact(Own.st.1 o1).mono hS (λ_ _ _ _ h=>h) (λ_ h=>h) (λ_ _ _=>⟨rfl,rfl⟩)
       ·cases h
      ·cases h
     ·cases h
   ·cases h
theorem q6 {α β:Type}{P:Program}{w:World}(f:α->Sem β):∀(l:List α) (vs:List β),vs.length=l.length->(∀(i:Nat) (x:α) (v:β),l[i]? =some x->vs[i]? =some v->(f x).run P w= .ok v w)->(l.mapM f).run P w= .ok vs w
 |[],vs,hl,_=>by
  have:vs=[]:=List.length_eq_zero_iff.1 hl;subst this
  rfl
 |x::l,vs,hl,h=>by
  cases vs with
  |nil=>simp at hl
  |cons v vs=>
   rw[List.mapM_cons];simp only[JC,h 0 x v rfl rfl,Js,q6 f l vs (by simpa using hl) (λi x v h1 h2=>h (i+1) x v (by simpa using h1) (by simpa using h2)),JP]
theorem GZ {c:fS}(hc:cf c){nt:Nat}{d:rx}{args:List Arg}{w w2:World}{gc:Gh}{vals:List Value}(hE:tl c.P w args vals gc){e:Env}{a:Act}{res:oS}(h:jK c d args some e=some res){fn:Func}(hres:fn.results.toList=d.res.map (·.1))
  (hi:Inv c.P (pm w args gc) nt e a w2):a.defers=[]/\∃v g2,(results fn a.tmps).run c.P w2= .ok v w2/\Cc w w2 args gc g2 res v:=by
 obtain⟨g1,hg⟩:=hi;refine⟨hg.defers,?_⟩;unfold jK at h
 split at h
 case h_2=>cases h
 rename_i rs fz ow outs hr ho
 split at h
 case isFalse=>cases h
 rename_i hnd;cases h;have hnd:=jV hnd;obtain⟨hobj,rv,csr,owI,R⟩:=tw hc hg fz d.res rs fz ow hr (λi h=>h);have hnd':=OU.1 hnd;have hfz:=hg.freeze fz (λi hi=>hobj i (Ko _ hi))
 let isOut:Nat->Prop:=λj=>∃o,e.obj j=some (some o)/\o.par=true
 have outNot:∀j,isOut j->∀id,id∈fz++ow->j≠id:=by
  rintro j ⟨o,h1,h2⟩ id hid e1;subst e1;obtain⟨o',h3,h4⟩:=hobj j hid;rw[h1]at h3;cases h3;rw[h2]at h4;cases h4
 let g2:Gh:={S:=(g1.freeze fz).S,F:=λj b=>if j<args.length then isOut j/\g1.F j b else∃id,id∈owI (j - args.length)/\g1.has id b,pl:=λ_=>none,cs:=λj=>if j<args.length then g1.cs j else csr (j - args.length)}
 have F2:∀{j b:Nat},g2.F j b->∃id,g1.has id b/\id∉fz/\(g1.F id b\/∃o,e.obj id=some (some o)/\o.par=false)/\((j<args.length/\id=j/\isOut j)\/(args.length<=j/\id∈owI (j - args.length))):=by
  intro j b hF;have hF:(if j<args.length then isOut j/\g1.F j b else∃id,id∈owI (j - args.length)/\g1.has id b):=hF
  split at hF
  ·rename_i hj
   exact⟨j,.inr hF.2,λhm=>outNot j hF.1 j (Ko _ hm) rfl,.inl hF.2,.inl ⟨hj,rfl,hF.1⟩⟩
  ·rename_i hj
   obtain⟨id,h1,h2⟩:=hF;exact⟨id,h2,λhm=>hnd'.2.2 id hm id (R.sub _ id h1) rfl,.inr (hobj id (Km _ (R.sub _ id h1))),.inr ⟨by omega,h1⟩⟩
 have fzF:∀{id b:Nat},g1.has id b->id∉fz->(g1.freeze fz).has id b:=by
  intro id b h1 h2;rcases h1 with⟨off,h1⟩|h1
  ·exact .inl ⟨off,by show(if id∈fz then none else g1.pl id)=_;rw[ao h2];exact h1⟩
  ·exact .inr (by show(if id∈fz then False else g1.F id b);rw[ao h2];exact h1)
 have hasB:∀{id b:Nat},g1.has id b->(g1.F id b\/∃o,e.obj id=some (some o)/\o.par=false)->(∃i,gc.F i b)\/w.heap.size<=b:=by
  rintro id b h1 (h2|⟨o,h2,h3⟩)
  ·exact hg.Fb id b h2
  ·rcases h1 with⟨off,h1⟩|h1
   ·rcases(hg.objs id o h2).plx b off h1 with h4|h4
    ·exact h4
    ·rw[h3]at h4;cases h4.1
   ·exact hg.Fb id b h1
 have hrun:(fn.results.mapM (rz a.tmps)).run c.P w2= .ok rv.toArray w2:=by
  rw[Array.mapM_eq_mapM_toList,Sem.run_map,q6 (rz a.tmps) fn.results.toList rv (by rw[hres,List.length_map];exact R.len.1) (λi x v h1 h2=>by
   rw[hres,List.getElem?_map,Option.map_eq_some_iff]at h1;obtain⟨q,h3,rfl⟩:=h1;exact R.run i q v h3 h2)]
  rfl
 have hresults:(results fn a.tmps).run c.P w2= .ok (if h:rv.toArray.size=1 then rv.toArray[0]else .tuple rv.toArray) w2:=by
  have e1:results fn a.tmps=(do let vs ← fn.results.mapM (rz a.tmps);pure (if h:vs.size=1 then vs[0]else .tuple vs)):=by
   unfold results
   congr 1
  rw[e1,JC,hrun,Js,JP]
 refine⟨_,g2,hresults,?_⟩;have repAt:∀(i:Nat) (r:RV) (v:Value),rs[i]? =some r->rv[i]? =some v->RetRep g2.S w2 (g2.F (args.length+i)) (g2.cs (args.length+i)) r v:=by
  intro i r v h1 h2;have h3:=R.rep i r v h1 h2;have eF:g2.F (args.length+i)=λb=>∃id,id∈owI i/\g1.has id b:=by
   funext b
   show(if args.length+i<args.length then _ else∃id,id∈owI (args.length+i - args.length)/\g1.has id b)=_;rw[ao (by omega),NP]
  have eC:g2.cs (args.length+i)=csr i:=by
   show(if args.length+i<args.length then _ else csr (args.length+i - args.length))=_;rw[ao (by omega),NP]
  rw[eF,eC];exact h3
 refine⟨hg.ext,λb hb=>hfz.S0 b hb,λb hb=>hfz.Sb b hb,hfz.Ssz,λj b hF=>?_,λj b hF=>?_,λj b hF hS=>?_,λi j b hne h1 h2=>?_,?_,?_⟩
 ·obtain⟨id,h1,_,h2,_⟩:=F2 hF
  exact hasB h1 h2
 ·obtain⟨id,h1,_⟩:=F2 hF
  exact(hg.has_lt h1).1
 ·obtain⟨id,h1,h2,_⟩:=F2 hF
  exact(hfz.has_lt (fzF h1 h2)).2 hS
 ·obtain⟨id,k1,_,_,k3⟩:=F2 h1
  obtain⟨id',k4,_,_,k6⟩:=F2 h2;have hid:id=id':=hg.has_one k1 k4;subst hid;rcases k3 with⟨_,e1,o1⟩|⟨e0,e1⟩<;>rcases k6 with⟨_,e2,o2⟩|⟨e3,e2⟩
  ·exact hne (e1.symm.trans e2)
  ·exact outNot i o1 id (Km _ (R.sub _ id e2)) e1.symm
  ·exact outNot j o2 id (Km _ (R.sub _ id e1)) e2.symm
  ·have:=R.one hnd'.2.1 _ _ id e1 e2
   omega
 ·refine tz (g2:=g2) hg (λj=>rfl) (λb hb=>Or.inl hb) args 0 outs ho (λk K m x hkx=>by
   have hlt:k<vals.length:=by have:=(JU.1 hkx).1;have:=hE.len;omega
   have:=hE.arg k _ vals[k] hkx (by simp);rw[Nat.zero_add];exact this.1) (λk hk o hko hp=>?_)
  rw[Nat.zero_add]at hko⊢;refine⟨?_,?_⟩
  ·funext b
   show(if k<args.length then isOut k/\g1.F k b else _)=_;rw[ab hk];exact propext ⟨λh=>h.2,λh=>⟨⟨o,hko,hp⟩,h⟩⟩
  ·show(if k<args.length then g1.cs k else _)=_
   rw[ab hk]
 ·have hl1:rv.length=rs.length:=by rw[R.len.1,R.len.2]
  match rs,hl1,repAt with
  |[],_,_=>trivial
  |[r],hl,hrep=>
   obtain⟨v,hv⟩:∃v,rv=[v]:=List.length_eq_one_iff.1 hl
   subst hv;exact hrep 0 r v rfl rfl
  |r::r2::rs',hl,hrep=>
   have h2:¬rv.toArray.size=1:=by simp at hl⊢;omega
   rw[dif_neg h2];exact⟨rv.toArray,rfl,by simpa using hl,λi r' u h1 h3=>hrep i r' u h1 (by simpa using h3)⟩
inductive An where
 |nil
 |reg (mds:List (Nat×Md))
 |seq (a b:An)
 |cond (a b:An)
 |block (live:Option (List Nat)) (a:An)
 |cut (j:Nat) (live:List Nat)
def An.l:An->An
 | .seq a _=>a
 | .cond a _=>a
 | .block _ a=>a
 |_=>.nil
def An.r:An->An
 | .seq _ b=>b
 | .cond _ b=>b
 |_=>.nil
def An.live:An->Option (List Nat)
 | .block l _=>l
 |_=>none
def An.mds:An->List (Nat×Md)
 | .reg l=>l
 |_=>[]
abbrev Lv:Type:=List (Nat×List Nat)
def Lv.add (lv:Lv)(id:Nat):Option (List Nat)->Lv
 |none=>lv
 |some l=>(id,l)::lv
abbrev sO (Ω:Type):Type:=Nat->Env->(Env->Option Ω)->(Nat->Env->Option Ω)->Option Ω
def ot {Ω:Type}(c:fS)(nt:Nat)(mds:List (Nat×Md))(ops:List Oper):List Oper->Env->List mr->(List mr->Env->Option Ω)->Option Ω
 |[],e,tr,k=>k tr e
 |o::rest,e,tr,k=>match o.guard with
  |none=>qn c nt mds o e λd=>ot c nt mds ops rest (e.apply d) (pR mds [] o ((Kw o).map λx=>e.view (e.opd x)) d::tr) k
  |some (j,want)=>match vq ops j with
   |none=>none
   |some t=>match e.get t with
    | .v .bool b=>
     if b=want then(let e1:=e.put t (.v .bool want);qn c nt mds o e1 λd=>ot c nt mds ops rest (e1.apply d) (pR mds [t] o ((Kw o).map λx=>e1.view (e1.opd x)) d::tr) k)
     else if oX nt o.dst=true then ot c nt mds ops rest ((e.put t (.v .bool (!want))).apply (tc o.dst)) (⟨[t],[],o.dst.toList,[],[],[]⟩::tr) k else none
    | .un=>if oX nt o.dst=true then ot c nt mds ops rest (e.apply (tc o.dst)) (⟨[t],[],o.dst.toList,[],[],[]⟩::tr) k else none
    |_=>none
def Eqv (e e':Env):Prop:=(∀i,au e'.slots i=au e.slots i)/\(∀i,au e'.objs i=au e.objs i)
theorem Eqv.get {e e':Env}(h:Eqv e e')(i:Nat):e'.get i=e.get i:=by unfold Env.get;rw[h.1]
theorem Eqv.obj {e e':Env}(h:Eqv e e')(i:Nat):e'.obj i=e.obj i:=h.2 i
theorem Eqv.opd {e e':Env}(h:Eqv e e')(x:Operand):e'.opd x=e.opd x:=by
 unfold Env.opd
 split<;>first|rfl|exact h.get _
theorem Eqv.cap {e e':Env}(h:Eqv e e'):e'.cap=e.cap:=by
 funext c
 cases c with
 |rp K x=>rfl
 |pt id n=>show CapV.pt id n (e'.obj id).join=CapV.pt id n (e.obj id).join;rw[h.obj]
theorem Eqv.view {e e':Env}(h:Eqv e e')(s:Slot):e'.view s=e.view s:=by
 unfold Env.view
 split<;>first|rfl|rw[h.obj]|rw[h.cap]
theorem Eqv.views {e e':Env}(h:Eqv e e')(o:Oper):((Kw o).map λx=>e'.view (e'.opd x))=(Kw o).map λx=>e.view (e.opd x):=
 List.map_congr_left λx _=>by rw[h.opd,h.view]
theorem Eqv.fresh {e e':Env}(h:Eqv e e')(d:Option Nat):fresh e' d=fresh e d:=by
 cases d with
 |none=>rfl
 |some d=>unfold Abs.fresh;simp only[h.obj]
theorem Eqv.apply {e e':Env}(h:Eqv e e')(d:bW):Eqv (e.apply d) (e'.apply d):=by
 refine⟨λi=>?_,λi=>?_⟩
 ·show au (d.slots++e'.slots) i=au (d.slots++e.slots) i
  rw[eE,eE,h.1]
 ·show au (d.objs++e'.objs) i=au (d.objs++e.objs) i
  rw[eE,eE,h.2]
theorem Eqv.put {e e':Env}(h:Eqv e e'){t:Nat}{b:Bool}(hb:e'.get t= .v .bool b):Eqv e (e'.put t (.v .bool b)):=by
 refine⟨λi=>?_,h.2⟩;show au ((t,.v .bool b)::e'.slots) i=_
 by_cases hi:t=i
 ·subst hi
  rw[aQ,← h.1];unfold Env.get at hb
  split at hb
  ·rename_i s hs
   rw[hs,hb]
  ·cases hb
 ·rw[aX hi]
  exact h.1 i
theorem ou {c:fS}(hM:lS c){Ω:Type}{nt:Nat}{mds:List (Nat×Md)}{ops:List Oper}{k:List mr->Env->Option Ω}{out:Ω}:∀(rest:List Oper) (e e':Env) (tr:List mr),Eqv e e'->ot c nt mds ops rest e' tr k=some out->
  ∃tr0 e0 e0',Eqv e0 e0'/\k tr0 e0'=some out/\∀(Ω0:Type) (k0:List mr->Env->Option Ω0) (out0:Ω0),k0 tr0 e0=some out0->my c nt mds ops rest e tr k0=some out0
 |[],e,e',tr,hq,h=>⟨tr,e,e',hq,h,λ_ _ _ h=>h⟩
 |o::rest,e,e',tr,hq,h=>by
  have one:∀(e1:Env) (g:List Nat),Eqv e e1->qn c nt mds o e1 (λd=>ot c nt mds ops rest (e1.apply d) (pR mds g o ((Kw o).map λx=>e1.view (e1.opd x)) d::tr) k)=some out->
    ∃tr0 e0 e0',Eqv e0 e0'/\k tr0 e0'=some out/\∀(Ω0:Type) (k0:List mr->Env->Option Ω0) (out0:Ω0),k0 tr0 e0=some out0->
     qn c nt mds o e (λd=>my c nt mds ops rest (e.apply d) (pR mds g o ((Kw o).map λx=>e.view (e.opd x)) d::tr) k0)=some out0:=by
   intro e1 g hq1 h1;unfold qn at h1;rw[hq1.views,hq1.fresh,zS hM.uni]at h1;cases hd:C1 c nt mds o ((Kw o).map λx=>e.view (e.opd x)) (Abs.fresh e o.dst) some with
   |none=>rw[hd]at h1;cases h1
   |some d=>
    rw[hd]at h1;obtain⟨tr0,e0,e0',a1,a2,a3⟩:=ou hM rest (e.apply d) (e1.apply d) _ (hq1.apply d) h1;refine⟨tr0,e0,e0',a1,a2,λΩ0 k0 out0 hk=>?_⟩;unfold qn;rw[zS hM.uni,hd];exact a3 Ω0 k0 out0 hk
  unfold ot at h;unfold my
  split at h
  ·rename_i hg
   simp only[hg];exact one e' [] hq h
  ·rename_i j want hg
   simp only[hg]
   split at h
   ·cases h
   ·rename_i t ht
    simp only[ht]
    split at h
    ·rename_i b hb
     have hb':e.get t= .v .bool b:=by rw[← hq.get];exact hb
     simp only[hb']
     split at h
     ·rename_i hw
      subst hw;simp only[if_true];exact one (e'.put t (.v .bool b)) [t] (hq.put hb) h
     ·rename_i hw
      simp only[hw,if_false]
      split at h
      ·rename_i hs
       simp only[hs,if_true];have hbw:b= !want:=by cases b<;>cases want<;>first|rfl|exact bJ rfl hw
       exact ou hM rest _ _ _ ((hq.put (by rw[hb,hbw])).apply _) h
      ·cases h
    ·rename_i hb
     have hb':e.get t= .un:=by rw[← hq.get];exact hb
     simp only[hb']
     split at h
     ·rename_i hs
      simp only[hs,if_true];exact ou hM rest _ _ _ (hq.apply _) h
     ·cases h
    ·cases h
def mq {Ω:Type}(c:fS)(nt:Nat)(T:sO Ω)(kr:Env->Option Ω):Code->An->Lv->(Env->Option Ω)->(Nat->Env->Option Ω)->Env->Option Ω
 |_,.cut j live,_,kn,kx=>λe=>T j (jH e live) kn kx
 | .skip,_,_,kn,_=>kn
 | .region _ ops false,a,_,kn,_=>λe=>qo c nt a.mds ops.toList ops.toList e kn
 | .region _ ops true,a,_,kn,_=>λe=>ot c nt a.mds ops.toList ops.toList e [] λtr e'=>if vt ops.toList tr=true then kn e' else none
 | .seq x y,a,lv,kn,kx=>mq c nt T kr x a.l lv (mq c nt T kr y a.r lv kn kx) kx
 | .cond o x y,a,lv,kn,kx=>λe=>match e.opd o with
  | .v .bool b=>if b=true then mq c nt T kr x a.l lv kn kx e else mq c nt T kr y a.r lv kn kx e
  |_=>none
 | .block id x,a,lv,kn,kx=>mq c nt T kr x a.l (Lv.add lv id a.live) (meet a.live kn) (λj=>if KA j id=true then kn else kx j)
 | .exit j,_,lv,_,kx=>meet (au lv j) (kx j)
 | .ret,_,_,_,_=>kr
 |_,_,_,_,_=>λ_=>none
def io:Code->An->List (Nat×Code)
 |x,.cut j _=>[(j,x)]
 | .seq x y,a=>io x a.l++io y a.r
 | .cond _ x y,a=>io x a.l++io y a.r
 | .block _ x,a=>io x a.l
 |_,_=>[]
def cQ {Ω:Type}(c:fS)(nt:Nat)(T:sO Ω)(kr:Env->Option Ω)(j:Nat)(x:Code):Prop:=
 ∀(B:Base) (out:Ω) (kn:Env->Option Ω) (kx:Nat->Env->Option Ω) (Q:Exit->Act->World->Prop),
  Fine c.P B nt kn out (Q .normal)->(∀i,Fine c.P B nt (kx i) out (Q (.exit i)))->Fine c.P B nt kr out (Q .ret)->
  Fine c.P B nt (λe=>T j e kn kx) out (λa w=>x.wp c.P Q a w)
section
variable {B:Base} {c:fS} {nt:Nat} {Ω:Type} {out:Ω} {T:sO Ω} {kr:Env->Option Ω}
theorem uD (hc:cf c)(hM:lS c)(hmix:c.P.follows .mixedOrders=true)(code:Code):∀(ann:An) (lv:Lv) (kn:Env->Option Ω) (kx:Nat->Env->Option Ω) (Q:Exit->Act->World->Prop),
  (∀q,q∈io code ann->cQ c nt T kr q.1 q.2)->
  Fine c.P B nt kn out (Q .normal)->(∀j,Fine c.P B nt (kx j) out (Q (.exit j)))->Fine c.P B nt kr out (Q .ret)->Fine c.P B nt (mq c nt T kr code ann lv kn kx) out (λa w=>code.wp c.P Q a w):=by
 have cutCase:∀(x:Code) (j:Nat) (live:List Nat) (kn:Env->Option Ω) (kx:Nat->Env->Option Ω) (Q:Exit->Act->World->Prop),cQ c nt T kr j x->Fine c.P B nt kn out (Q .normal)->(∀j,Fine c.P B nt (kx j) out (Q (.exit j)))->Fine c.P B nt kr out (Q .ret)->
   Fine c.P B nt (λe=>T j (jH e live) kn kx) out (λa w=>x.wp c.P Q a w):=by
  intro x j live kn kx Q hU hn hx hr e h a w hi;exact hU B out kn kx Q hn hx hr (jH e live) h a w (rn hi live)
 induction code with
 |skip=>
  intro ann lv kn kx Q hU hn hx hr;cases ann with
  |cut j live=>exact cutCase _ j live kn kx Q (hU (j,_) (JQ.2 rfl)) hn hx hr
  |_=>exact λe h a w hi=>wp_skip (hn e h a w hi)
 |region id ops draw=>
  intro ann lv kn kx Q hU hn hx hr;have key:∀mds,Fine c.P B nt (match draw with
    |false=>λe=>qo c nt mds ops.toList ops.toList e kn
    |true=>λe=>ot c nt mds ops.toList ops.toList e [] λtr e'=>if vt ops.toList tr=true then kn e' else none) out (λa w=>(Code.region id ops draw).wp c.P Q a w):=by
   intro mds e h a w hi;cases draw with
   |false=>
    obtain⟨e',h1,h2⟩:=uz (B:=B) hc hM (List.range ops.size) ops.toList e kn B6 h;exact wp_region (h2 a w hi Q λa' w' hi'=>hn e' h1 a' w' hi')
   |true=>
    obtain⟨tr0,e0,e1,hq,hk,hD⟩:=ou hM ops.toList e e [] ⟨λ_=>rfl,λ_=>rfl⟩ h
    split at hk
    case isFalse=>cases hk
    rename_i hind;obtain⟨e',h1,h2⟩:=Cm (B:=B) (k:=some) hc hM (hD Env (λtr e'=>if vt ops.toList tr=true then some e' else none) e0 (by rw[ab hind]));cases h1;refine wp_region_any hmix (h2 a _ ?_ Q λa' w' hi'=>hn e1 hk a' w' (hi'.congr hq.1 hq.2));obtain⟨g,hg⟩:=hi;exact⟨_,hg.grow (Ext.drew w _)⟩
  cases ann with
  |cut j live=>exact cutCase _ j live kn kx Q (hU (j,_) (JQ.2 rfl)) hn hx hr
  |reg mds=>cases draw<;>exact key mds
  |_=>cases draw<;>exact key []
 |seq x y ihx ihy=>
  intro ann lv kn kx Q hU hn hx hr;have key:∀(a b:An),(∀q,q∈io x a++io y b->cQ c nt T kr q.1 q.2)->Fine c.P B nt (mq c nt T kr x a lv (mq c nt T kr y b lv kn kx) kx) out (λa w=>(Code.seq x y).wp c.P Q a w):=by
   intro a1 b1 hU e h a w hi;have hy:=ihy b1 lv kn kx Q (λq hq=>hU q (Km _ hq)) hn hx hr;exact wp_seq (ihx a1 lv _ kx (Exit.then (y.wp c.P Q) Q) (λq hq=>hU q (Ko _ hq)) hy hx hr e h a w hi)
  cases ann with
  |cut j live=>exact cutCase _ j live kn kx Q (hU (j,_) (JQ.2 rfl)) hn hx hr
  |_=>exact key _ _ hU
 |cond o x y ihx ihy=>
  intro ann lv kn kx Q hU hn hx hr;have key:∀(a1 b1:An),(∀q,q∈io x a1++io y b1->cQ c nt T kr q.1 q.2)->Fine c.P B nt (λe=>match e.opd o with
    | .v .bool b=>if b=true then mq c nt T kr x a1 lv kn kx e else mq c nt T kr y b1 lv kn kx e
    |_=>none) out (λa w=>(Code.cond o x y).wp c.P Q a w):=by
   intro a1 b1 hU e h a w hi;dsimp only at h
   split at h
   ·rename_i b hb
    have hv:a.eval o= .bool b:=by
     obtain⟨g,hg⟩:=hi;have hr:=Inv.eval hg o;rw[hb]at hr;obtain⟨cs,h2,h3⟩:=hr;rw[show cs=[.bool b]from h2]at h3;exact h3.1
    split at h
    ·rename_i hbt
     subst hbt;exact wp_cond_true hv (ihx a1 lv kn kx Q (λq hq=>hU q (Ko _ hq)) hn hx hr e h a w hi)
    ·rename_i hbt
     have:b=false:=by simpa using hbt
     subst this;exact wp_cond_false hv (ihy b1 lv kn kx Q (λq hq=>hU q (Km _ hq)) hn hx hr e h a w hi)
   ·cases h
  cases ann with
  |cut j live=>exact cutCase _ j live kn kx Q (hU (j,_) (JQ.2 rfl)) hn hx hr
  |_=>exact key _ _ hU
 |block id x ih=>
  intro ann lv kn kx Q hU hn hx hr;have key:∀(a1:An) (live:Option (List Nat)),(∀q,q∈io x a1->cQ c nt T kr q.1 q.2)->
    Fine c.P B nt (mq c nt T kr x a1 (Lv.add lv id live) (meet live kn) (λj=>if KA j id=true then kn else kx j)) out (λa w=>(Code.block id x).wp c.P Q a w):=by
   intro a1 live hU e h a w hi;refine wp_block (ih a1 (Lv.add lv id live) _ _ (Exit.inBlock id Q) hU (hn.meet _) (λj=>?_) hr e h a w hi);intro e1 h1 a1 w1 hi1;show if j=id then Q .normal a1 w1 else Q (.exit j) a1 w1
   by_cases hj:j=id
   ·subst hj
    rw[ab rfl];have h1:(if KA j j=true then kn else kx j) e1=some out:=h1;rw[ab (Nat.beq_refl j)]at h1;exact hn e1 h1 a1 w1 hi1
   ·rw[ao hj]
    have h1:(if KA j id=true then kn else kx j) e1=some out:=h1;rw[ao (λhb=>hj (JM hb))]at h1;exact hx j e1 h1 a1 w1 hi1
  cases ann with
  |cut j live=>exact cutCase _ j live kn kx Q (hU (j,_) (JQ.2 rfl)) hn hx hr
  |_=>exact key _ _ hU
 |exit i=>
  intro ann lv kn kx Q hU hn hx hr;cases ann with
  |cut j live=>exact cutCase _ j live kn kx Q (hU (j,_) (JQ.2 rfl)) hn hx hr
  |_=>exact λe h a w hi=>wp_exit ((hx i).meet (au lv i) e h a w hi)
 |ret=>
  intro ann lv kn kx Q hU hn hx hr;cases ann with
  |cut j live=>exact cutCase _ j live kn kx Q (hU (j,_) (JQ.2 rfl)) hn hx hr
  |_=>exact λe h a w hi=>wp_ret (hr e h a w hi)
 |_=>
  intro ann lv kn kx Q hU hn hx hr;cases ann with
  |cut j live=>exact cutCase _ j live kn kx Q (hU (j,_) (JQ.2 rfl)) hn hx hr
  |_=>exact λe h=>by cases h
theorem Bb (hc:cf c)(hM:lS c)(hmix:c.P.follows .mixedOrders=true){j n:Nat}{x:Code}(a:An)(lv:Lv)(live:List Nat)
  (L:Nat->Env->(Env->Option Ω)->(Nat->Env->Option Ω)->Option Ω) (hT:∀e kn kx,T j e kn kx=L n e kn kx) (h0:∀e kn kx out,L 0 e kn kx=some out->False)
  (hs:∀m e kn kx out,L (m+1) e kn kx=some out->mq c nt T kr x a lv (meet (some live) λe=>L m e kn kx) kx e=some out)
  (hU:∀q,q∈io x a->cQ c nt T kr q.1 q.2):cQ c nt T kr j (.loop x):=by
 intro B out kn kx Q hn hx hr;have hl:∀m,Fine c.P B nt (λe=>L m e kn kx) out (λa w=>Code.rounds c.P x Q m a w):=by
  intro m
  induction m with
  |zero=>intro e h;exact(h0 _ _ _ _ h).elim
  |succ m ih=>
   intro e h a w hi;rw[rounds_succ];exact uD hc hM hmix x _ lv _ kx (Exit.then (Code.rounds c.P x Q m) Q) hU (ih.meet (some live)) hx hr e (hs m e kn kx out h) a w hi
 intro e h a w hi;have h:T j e kn kx=some out:=h;rw[hT]at h;exact wp_loop_rounds n (hl n e h a w hi)
theorem Bc (hc:cf c)(hM:lS c)(hmix:c.P.follows .mixedOrders=true){j:Nat}{x:Code}(a:An)(lv:Lv)(live:Option (List Nat))
  (hs:∀e kn kx out,T j e kn kx=some out->mq c nt T kr x a lv (meet live kn) kx e=some out)
  (hU:∀q,q∈io x a->cQ c nt T kr q.1 q.2):cQ c nt T kr j x:=by
 intro B out kn kx Q hn hx hr e h a w hi;exact uD hc hM hmix x _ lv _ kx Q hU (hn.meet live) hx hr e (hs e kn kx out h) a w hi
end
def tA {Ω:Type}(c:fS)(d:rx)(an:An)(T:sO Ω)(args:List Arg)(K:oS->Option Ω):Option Ω:=
 if Nat.ble args.length d.nt=true then mq c d.nt T (jK c d args K) d.code an [] (jK c d args K) (λ_ _=>none) (q5 args)else none
theorem H1 {c:fS}(hc:cf c)(hM:lS c)(hmix:c.P.follows .mixedOrders=true){f:Nat}{d:rx}{an:An}{fn:Func}(hf:c.P.funcs[f]? =some fn)(hb:fn.body=some d.code)(hnt:fn.ntmps=d.nt)(hres:fn.results.toList=d.res.map (·.1))
  {args:List Arg} {Ω:Type} {K:oS->Option Ω} {out:Ω} {res:oS} {T:sO Ω} (hU:∀q,q∈io d.code an->cQ c d.nt T (jK c d args K) q.1 q.2) (hK:∀r,K r=some out->r=res)
  (h:tA c d an T args K=some out):IH c.P f args res:=by
 intro w vals gc hE;unfold tA at h
 split at h
 ·rename_i hle
  refine calls_of_wp hf hb ?_;rw[hnt];have hend:Fine c.P (pm w args gc) d.nt (jK c d args K) out (λa w2=>a.defers=[]/\∃v,(results fn a.tmps).run c.P w2= .ok v w2/\∃v' g2,(Ending.returned v)= .returned v'/\Cc w w2 args gc g2 res v'):=by
   intro e he a w2 hi;rw[Cu]at he;cases h1:jK c d args some e with
   |none=>rw[h1]at he;cases he
   |some r=>
    rw[h1]at he;have:=hK r he;subst this;obtain⟨h1,v,g2,h2,h3⟩:=GZ hc hE h1 hres hi;exact⟨h1,v,h2,v,g2,rfl,h3⟩
  exact uD (B:=pm w args gc) hc hM hmix d.code an [] _ _ (bodyPost c.P fn λe w2=>∃v g2,e= .returned v/\Cc w w2 args gc g2 res v) hU hend (λj e he=>by cases he) hend (q5 args) h _ w (B9 hE (Nat.le_of_ble_eq_true hle))
 ·cases h
def iQ {K K':Kd}(h:K'.beq K=true)(x:K'.T):K.T:=Ka h▸x
theorem rA {K K':Kd}(h:K'.beq K=true)(x:K'.T):(⟨K',x⟩:KV)=⟨K,iQ h x⟩:=by
 have e:=Ka h;subst e
 rfl
inductive PS where
 |inn
 |fst
 |snd
 |idx
@[reducible] def PS.Is:List PS → Type
 |[]=>Unit
 | .idx::l=>Int×PS.Is l
 |_::l=>PS.Is l
def PS.enc:(l:List PS)->PS.Is l->bI
 |[],_=>[]
 | .idx::l,i=>.idx i.1::PS.enc l i.2
 | .inn::l,i=>.inn::PS.enc l i
 | .fst::l,i=>.fst::PS.enc l i
 | .snd::l,i=>.snd::PS.enc l i
def PS.dec:(l:List PS)->bI->Option (PS.Is l)
 |[],[]=>some ()
 | .idx::l,.idx i::p=>match PS.dec l p with|some r=>some ((i,r):Int×PS.Is l)|none=>none
 | .inn::l,.inn::p=>PS.dec l p
 | .fst::l,.fst::p=>PS.dec l p
 | .snd::l,.snd::p=>PS.dec l p
 |_,_=>none
theorem PS.dec_enc:∀(l:List PS) (p:bI) {i:PS.Is l},PS.dec l p=some i->p=PS.enc l i
 |[],[],_,_=>rfl
 | .idx::l,.idx j::p,i,h=>by
  have h':(match PS.dec l p with|some r=>some ((j,r):Int×PS.Is l)|none=>none)=some i:=h
  split at h'
  ·rename_i r hr
   cases h';show _=Step.idx j::PS.enc l r;rw[← PS.dec_enc l p hr]
  ·cases h'
 | .inn::l,.inn::p,i,h=>by show _=Step.inn::PS.enc l i;rw[← PS.dec_enc l p (show PS.dec l p=some i from h)]
 | .fst::l,.fst::p,i,h=>by show _=Step.fst::PS.enc l i;rw[← PS.dec_enc l p (show PS.dec l p=some i from h)]
 | .snd::l,.snd::p,i,h=>by show _=Step.snd::PS.enc l i;rw[← PS.dec_enc l p (show PS.dec l p=some i from h)]
 |[],_::_,_,h=>by cases h
 | .idx::_,[],_,h| .idx::_,.inn::_,_,h| .idx::_,.fst::_,_,h| .idx::_,.snd::_,_,h=>by cases h
 | .inn::_,[],_,h| .inn::_,.idx _::_,_,h| .inn::_,.fst::_,_,h| .inn::_,.snd::_,_,h=>by cases h
 | .fst::_,[],_,h| .fst::_,.idx _::_,_,h| .fst::_,.inn::_,_,h| .fst::_,.snd::_,_,h=>by cases h
 | .snd::_,[],_,h| .snd::_,.idx _::_,_,h| .snd::_,.inn::_,_,h| .snd::_,.fst::_,_,h=>by cases h
inductive Ib where
 |rp (K:Kd)
 |pt (id:Nat)
@[reducible] def Et:List Ib → Type
 |[]=>Unit
 | .rp K::l=>K.T×Et l
 | .pt _::l=>Et l
def tC:(l:List Ib)->Et l->List Cap
 |[],_=>[]
 | .rp K::l,x=>.rp K x.1::tC l x.2
 | .pt id::l,x=>.pt id 0::tC l x
def tD:(l:List Ib)->List Cap->Option (Et l)
 |[],[]=>some ()
 | .rp K::l,.rp K' x::r=>if h:K'.beq K=true then(match tD l r with|some y=>some ((iQ h x,y):K.T×Et l)|none=>none)else none
 | .pt id::l,.pt id' n::r=>if(KA id' id&&KA n 0)=true then tD l r else none
 |_,_=>none
theorem yD:∀(l:List Ib) (r:List Cap) {x:Et l},tD l r=some x->r=tC l x
 |[],[],_,_=>rfl
 | .rp K::l,.rp K' y::r,x,h=>by
  have h':(if h:K'.beq K=true then(match tD l r with|some z=>some ((iQ h y,z):K.T×Et l)|none=>none)else none)=some x:=h
  split at h'
  ·rename_i hk
   split at h'
   ·rename_i z hz
    cases h';show _=Cap.rp K (iQ hk y)::tC l z;rw[← yD l r hz];have e:=Ka hk;subst e
    rfl
   ·cases h'
  ·cases h'
 | .pt id::l,.pt id' n::r,x,h=>by
  have h':(if(KA id' id&&KA n 0)=true then tD l r else none)=some x:=h
  split at h'
  ·rename_i hb
   rw[Jm]at hb;show _=Cap.pt id 0::tC l x;rw[← yD l r h',JM hb.1,JM hb.2]
  ·cases h'
 |[],_::_,_,h=>by cases h
 | .rp _::_,[],_,h=>by cases h
 | .rp _::_,.pt _ _::_,_,h=>by cases h
 | .pt _::_,[],_,h=>by cases h
 | .pt _::_,.rp _ _::_,_,h=>by cases h
inductive Sh where
 |un
 |nils
 |v (K:Kd)
 |rp (K:Kd)
 |al (id:Nat) (p:List PS)
 |pt (id:Nat) (p:List PS)
 |fv (f:Nat) (Fs:List Kd) (cs:List Ib)
 |clo (Ks:List Kd) (Kr:Kd)
@[reducible] def Sh.V:Sh → Type
 | .un=>Unit
 | .nils=>Unit
 | .v K=>K.T
 | .rp K=>K.T
 | .al _ p=>PS.Is p
 | .pt _ p=>PS.Is p
 | .fv _ Fs cs=>Mg Fs×Et cs
 | .clo Ks Kr=>Mg Ks->Option Kr.T
def tE:(Ks:List Kd)->Mg Ks->List KV
 |[],_=>[]
 |K::Ks,x=>⟨K,x.1⟩::tE Ks x.2
def pn:(Ks:List Kd)->List KV->Option (Mg Ks)
 |[],[]=>some ()
 |K::Ks,⟨K',x⟩::l=>if h:K'.beq K=true then(match pn Ks l with|some r=>some ((iQ h x,r):K.T×Mg Ks)|none=>none)else none
 |_,_=>none
theorem qB:∀(Ks:List Kd) (l:List KV) {x:Mg Ks},pn Ks l=some x->l=tE Ks x
 |[],[],_,_=>rfl
 |K::Ks,⟨K',y⟩::l,x,h=>by
  have h':(if h:K'.beq K=true then(match pn Ks l with|some r=>some ((iQ h y,r):K.T×Mg Ks)|none=>none)else none)=some x:=h
  split at h'
  ·split at h'
   ·rename_i hk _ r hr
    cases h';show _=(⟨K,iQ hk y⟩:KV)::tE Ks r;rw[← qB Ks l hr,rA hk y]
   ·cases h'
  ·cases h'
 |[],_::_,_,h=>by cases h
 |_::_,[],_,h=>by cases h
def Sh.enc:(s:Sh)->s.V->Slot
 | .un,_=>.un
 | .nils,_=>.nils
 | .v K,x=>.v K x
 | .rp K,x=>.rp K x
 | .al id p,i=>.al id 0 (PS.enc p i)
 | .pt id p,i=>.pt id 0 (PS.enc p i)
 | .fv f Fs cs,x=>.fv f (tE Fs x.1) (tC cs x.2)
 | .clo Ks Kr,f=>.clo Ks Kr f
def zT {Ks Ls:List Kd}{Kr Lr:Kd}(h:(Ob Ls Ks&&Lr.beq Kr)=true)(f:Mg Ls->Option Lr.T):Mg Ks->Option Kr.T:=by
 rw[Jm]at h;rw[← NQ h.1,← Ka h.2];exact f
theorem yE {Ks Ls:List Kd}{Kr Lr:Kd}(h:(Ob Ls Ks&&Lr.beq Kr)=true)(f:Mg Ls->Option Lr.T):Slot.clo Ls Lr f=Slot.clo Ks Kr (zT h f):=by
 have h':=h;rw[Jm]at h';have e1:=NQ h'.1;have e2:=Ka h'.2;subst e1;subst e2
 rfl
theorem Be {Ks Ls:List Kd}{Kr Lr:Kd}(h:(Ob Ls Ks&&Lr.beq Kr)=true)(f:Mg Ls->Option Lr.T):Arg.fn Ls Lr f=Arg.fn Ks Kr (zT h f):=by
 have h':=h;rw[Jm]at h';have e1:=NQ h'.1;have e2:=Ka h'.2;subst e1;subst e2
 rfl
def Sh.dec:(s:Sh)->Slot->Option s.V
 | .un,.un=>some ()
 | .nils,.nils=>some ()
 | .v K,.v K' x=>if h:K'.beq K=true then some (iQ h x)else none
 | .rp K,.rp K' x=>if h:K'.beq K=true then some (iQ h x)else none
 | .al id p,.al id' n q=>if(KA id' id&&KA n 0)=true then PS.dec p q else none
 | .pt id p,.pt id' n q=>if(KA id' id&&KA n 0)=true then PS.dec p q else none
 | .fv f Fs cs,.fv f' l r=>if KA f' f=true then(match pn Fs l,tD cs r with|some x,some y=>some ((x,y):Mg Fs×Et cs)|_,_=>none)else none
 | .clo Ks Kr,.clo Ls Lr f=>if h:(Ob Ls Ks&&Lr.beq Kr)=true then some (zT h f)else none
 |_,_=>none
theorem Sh.dec_enc {s:Sh}{t:Slot}{x:s.V}(h:s.dec t=some x):t=s.enc x:=by
 have two:∀{id id' n:Nat} {p:List PS} {q:bI} {x:PS.Is p},(if(KA id' id&&KA n 0)=true then PS.dec p q else none)=some x->id'=id/\n=0/\q=PS.enc p x:=by
  intro id id' n p q x h
  split at h
  ·rename_i hb
   rw[Jm]at hb;exact⟨JM hb.1,JM hb.2,PS.dec_enc _ _ h⟩
  ·cases h
 unfold Sh.dec at h
 split at h
 ·rfl
 ·rfl
 ·split at h
  ·rename_i K K' y hk
   cases h;have:=rA hk y;have e:=Ka hk;subst e
   rfl
  ·cases h
 ·split at h
  ·rename_i K K' y hk
   cases h;have e:=Ka hk;subst e
   rfl
  ·cases h
 ·obtain⟨h1,h2,h3⟩:=two h
  subst h1 h2 h3
  rfl
 ·obtain⟨h1,h2,h3⟩:=two h
  subst h1 h2 h3
  rfl
 ·split at h
  ·rename_i hb
   split at h
   ·rename_i y z hy hz
    cases h;rw[JM hb,qB _ _ hy,yD _ _ hz]
    rfl
   ·cases h
  ·cases h
 ·split at h
  ·rename_i hb
   cases h;exact yE hb _
  ·cases h
 ·cases h
@[reducible] def H2:List (Nat × Sh) → Type
 |[]=>Unit
 |(_,s)::l=>s.V×H2 l
def wj:(l:List (Nat×Sh))->H2 l->List (Nat×Slot)
 |[],_=>[]
 |(t,s)::l,x=>(t,s.enc x.1)::wj l x.2
def zU:(l:List (Nat×Sh))->List (Nat×Slot)->Option (H2 l)
 |[],[]=>some ()
 |(t,s)::l,(u,z)::r=>if KA u t=true then(match s.dec z,zU l r with|some x,some y=>some ((x,y):s.V×H2 l)|_,_=>none)else none
 |_,_=>none
theorem Cv:∀(l:List (Nat×Sh)) (r:List (Nat×Slot)) {x:H2 l},zU l r=some x->r=wj l x
 |[],[],_,_=>rfl
 |(t,s)::l,(u,z)::r,x,h=>by
  have h':(if KA u t=true then(match s.dec z,zU l r with|some x,some y=>some ((x,y):s.V×H2 l)|_,_=>none)else none)=some x:=h
  split at h'
  ·rename_i hb
   split at h'
   ·rename_i a b ha hb2
    cases h';show _=(t,s.enc a)::wj l b;rw[← Cv l r hb2,← Sh.dec_enc ha,JM hb]
   ·cases h'
  ·cases h'
 |[],_::_,_,h=>by cases h
 |(_,_)::_,[],_,h=>by cases h
structure OS where
 id:Nat
 K:Kd
 m:Md
 box:Bool
 par:Bool
 qu:Option (List PS)
@[reducible] def OS.V (o:OS):Type:=match o.qu with
 |none=>o.K.T
 |some _=>o.K.T×Int
@[reducible] def H3:List OS → Type
 |[]=>Unit
 |o::l=>o.V×H3 l
def yF:List PS->bI
 |[]=>[]
 | .idx::l=>.idx 0::yF l
 | .inn::l=>.inn::yF l
 | .fst::l=>.fst::yF l
 | .snd::l=>.snd::yF l
def OS.enc:(o:OS)->o.V->Obj
 |⟨_,K,m,box,par,none⟩,x=>⟨K,m,x,box,par,[],none⟩
 |⟨_,K,m,box,par,some q⟩,x=>⟨K,m,x.1,box,par,[],some (I3 (yF q) x.2)⟩
def zV (l:List (Option bI)):Bool:=match l with|[]=>true|_=>false
def Ic (l:Option bI):Bool:=match l with|none=>true|_=>false
def FO (b:Obj)(q:List PS):Option Int:=match b.hl with
 |some h=>(match E3 h with|some (q',off)=>if GH q' (yF q)=true then some off else none|none=>none)
 |none=>none
def OS.dec:(o:OS)->Obj->Option o.V
 |⟨_,K,m,box,par,none⟩,b=>if h:b.K.beq K=true then(if(b.m.beq m&&(b.box==box)&&(b.par==par)&&zV b.log&&Ic b.hl)=true then some (iQ h b.x)else none)else none
 |⟨_,K,m,box,par,some q⟩,b=>if h:b.K.beq K=true then(if(b.m.beq m&&(b.box==box)&&(b.par==par)&&zV b.log)=true then(match FO b q with|some off=>some ((iQ h b.x,off):K.T×Int)|none=>none)else none)else none
theorem ov:∀{h q:bI} {off:Int},E3 h=some (q,off)->h=I3 q off
 |[],_,_,h=>by cases h
 |[.idx i,.fst],q,off,h=>by cases h;rfl
 |[.idx i],_,_,h=>by cases h
 |[.inn],_,_,h=>by cases h
 |[.fst],_,_,h=>by cases h
 |[.snd],_,_,h=>by cases h
 | .inn::s::p,q,off,h=>by
  have h':(match E3 (s::p)with|some (q,i)=>some (Step.inn::q,i)|none=>none)=some (q,off):=h
  split at h'
  ·rename_i q' i' hr;cases h';rw[ov hr];rfl
  ·cases h'
 | .fst::s::p,q,off,h=>by
  have h':(match E3 (s::p)with|some (q,i)=>some (Step.fst::q,i)|none=>none)=some (q,off):=h
  split at h'
  ·rename_i q' i' hr;cases h';rw[ov hr];rfl
  ·cases h'
 | .snd::s::p,q,off,h=>by
  have h':(match E3 (s::p)with|some (q,i)=>some (Step.snd::q,i)|none=>none)=some (q,off):=h
  split at h'
  ·rename_i q' i' hr;cases h';rw[ov hr];rfl
  ·cases h'
 | .idx j::s::s2::p,q,off,h=>by
  have h':(match E3 (s::s2::p)with|some (q,i)=>some (Step.idx j::q,i)|none=>none)=some (q,off):=by
   cases s<;>exact h
  split at h'
  ·rename_i q' i' hr;cases h';rw[ov hr];rfl
  ·cases h'
 |[.idx j,.inn],q,off,h=>by cases h
 |[.idx j,.snd],q,off,h=>by cases h
 |[.idx j,.idx _],q,off,h=>by cases h
theorem OS.dec_enc:∀{o:OS} {b:Obj} {x:o.V},o.dec b=some x->b=o.enc x
 |⟨id,oK,om,obox,opar,none⟩,b,x,h=>by
  have h':(if h:b.K.beq oK=true then(if(b.m.beq om&&(b.box==obox)&&(b.par==opar)&&zV b.log&&Ic b.hl)=true then some (iQ h b.x)else none)else none)=some x:=h
  split at h'
  ·rename_i hk
   split at h'
   ·rename_i hb
    cases h';simp only[Jm]at hb;obtain⟨⟨⟨⟨h2,h3⟩,h4⟩,h5⟩,h6⟩:=hb;obtain⟨K,m,z,box,par,log,hl⟩:=b;have e:=Ka hk;have e2:=Lh h2;have e3:=eq_of_beq h3;have e4:=eq_of_beq h4;dsimp only at e e2 e3 e4;subst e e2 e3 e4;cases log with
    |cons _ _=>cases h5
    |nil=>
     cases hl with
     |some _=>cases h6
     |none=>rfl
   ·cases h'
  ·cases h'
 |⟨id,oK,om,obox,opar,some q⟩,b,x,h=>by
  have h':(if h:b.K.beq oK=true then(if(b.m.beq om&&(b.box==obox)&&(b.par==opar)&&zV b.log)=true then(match FO b q with|some off=>some ((iQ h b.x,off):oK.T×Int)|none=>none)else none)else none)=some x:=h
  split at h'
  ·rename_i hk
   split at h'
   ·rename_i hb
    split at h'
    ·rename_i off ho
     cases h';simp only[Jm]at hb;obtain⟨⟨⟨h2,h3⟩,h4⟩,h5⟩:=hb;obtain⟨K,m,z,box,par,log,hl⟩:=b;have e:=Ka hk;have e2:=Lh h2;have e3:=eq_of_beq h3;have e4:=eq_of_beq h4;dsimp only at e e2 e3 e4;subst e e2 e3 e4;cases log with
     |cons _ _=>cases h5
     |nil=>
      cases hl with
      |none=>cases ho
      |some hh=>
       have ho':(match E3 hh with|some (q',off)=>if GH q' (yF q)=true then some off else none|none=>none)=some off:=ho
       split at ho'
       ·rename_i q' off' hq
        split at ho'
        ·rename_i he
         cases ho';rw[ov hq,(qR he).1]
         rfl
        ·cases ho'
       ·cases ho'
    ·cases h'
   ·cases h'
  ·cases h'
def wl:(l:List OS)->H3 l->List (Nat×Option Obj)
 |[],_=>[]
 |o::l,x=>(o.id,some (o.enc x.1))::wl l x.2
def zW:(l:List OS)->List (Nat×Option Obj)->Option (H3 l)
 |[],[]=>some ()
 |o::l,(u,some b)::r=>if KA u o.id=true then(match o.dec b,zW l r with|some x,some y=>some ((x,y):o.V×H3 l)|_,_=>none)else none
 |_,_=>none
theorem Cw:∀(l:List OS) (r:List (Nat×Option Obj)) {x:H3 l},zW l r=some x->r=wl l x
 |[],[],_,_=>rfl
 |o::l,(u,some b)::r,x,h=>by
  have h':(if KA u o.id=true then(match o.dec b,zW l r with|some x,some y=>some ((x,y):o.V×H3 l)|_,_=>none)else none)=some x:=h
  split at h'
  ·rename_i hb
   split at h'
   ·rename_i z y hz hy
    cases h';show _=(o.id,some (o.enc z))::wl l y;rw[← Cw l r hy,← OS.dec_enc hz,JM hb]
   ·cases h'
  ·cases h'
 |[],_::_,_,h=>by cases h
 |_::_,[],_,h=>by cases h
 |_::_,(_,none)::_,_,h=>by cases h
structure ES where
 s:List (Nat×Sh)
 o:List OS
@[reducible] def ES.V (S:ES):Type:=H2 S.s × H3 S.o
def ES.enc (S:ES)(x:S.V):Env:=⟨wj S.s x.1,wl S.o x.2⟩
def ES.dec (S:ES)(e:Env):Option S.V:=match zU S.s e.slots,zW S.o e.objs with|some a,some b=>some (a,b)|_,_=>none
theorem ES.dec_enc {S:ES}{e:Env}{x:S.V}(h:S.dec e=some x):e=S.enc x:=by
 unfold ES.dec at h
 split at h
 ·rename_i a b ha hb
  cases h;obtain⟨es,eo⟩:=e;show _=(⟨wj S.s a,wl S.o b⟩:Env);rw[← Cv _ _ ha,← Cw _ _ hb]
 ·cases h
def ES.on {α:Type}(S:ES)(e:Env)(k:S.V->Option α):Option α:=match S.dec e with|some x=>k x|none=>none
theorem ES.on_inv {α:Type}{S:ES}{e:Env}{k:S.V->Option α}{out:α}(h:S.on e k=some out):∃x,e=S.enc x/\k x=some out:=by
 unfold ES.on at h
 split at h
 ·rename_i x hx
  exact⟨x,ES.dec_enc hx,h⟩
 ·cases h
inductive ASh where
 |ro (K:Kd)
 |rp (K:Kd)
 |mp (K:Kd) (m:Md)
 |ms (K:Kd) (m:Md)
 |mv (K:Kd) (m:Md)
 |fn (Ks:List Kd) (Kr:Kd)
 |fc (f:Nat) (Fs Ks:List Kd)
def ASh.am:ASh->AM
 | .ro _=>.ro
 | .rp _=>.rp
 | .mp _ _=>.mp
 | .ms _ _=>.ms
 | .mv _ _=>.mv
 | .fn Ks Kr=>.fn Ks Kr
 | .fc f Fs Ks=>.fc f Fs Ks
@[reducible] def ASh.V:ASh → Type
 | .ro K=>K.T
 | .rp K=>K.T
 | .mp K _=>K.T
 | .ms K _=>K.T
 | .mv K _=>K.T
 | .fn Ks Kr=>Mg Ks->Option Kr.T
 | .fc _ Fs Ks=>Mg Fs×Mg Ks
def ASh.enc:(s:ASh)->s.V->Arg
 | .ro K,x=>.ro K x
 | .rp K,x=>.rp K x
 | .mp K m,x=>.mp K m x
 | .ms K m,x=>.ms K m x
 | .mv K m,x=>.mv K m x
 | .fn Ks Kr,x=>.fn Ks Kr x
 | .fc f Fs Ks,x=>.fc f (tE Fs x.1) (tE Ks x.2)
def ASh.dec:(s:ASh)->Arg->Option s.V
 | .ro K,.ro K' x=>if h:K'.beq K=true then some (iQ h x)else none
 | .rp K,.rp K' x=>if h:K'.beq K=true then some (iQ h x)else none
 | .mp K m,.mp K' m' x=>if h:K'.beq K=true then(if m'.beq m=true then some (iQ h x)else none)else none
 | .ms K m,.ms K' m' x=>if h:K'.beq K=true then(if m'.beq m=true then some (iQ h x)else none)else none
 | .mv K m,.mv K' m' x=>if h:K'.beq K=true then(if m'.beq m=true then some (iQ h x)else none)else none
 | .fn Ks Kr,.fn Ls Lr f=>if h:(Ob Ls Ks&&Lr.beq Kr)=true then some (zT h f)else none
 | .fc f Fs Ks,.fc g l r=>if KA g f=true then(match pn Fs l,pn Ks r with|some x,some y=>some ((x,y):Mg Fs×Mg Ks)|_,_=>none)else none
 |_,_=>none
theorem ASh.dec_enc {s:ASh}{a:Arg}{x:s.V}(h:s.dec a=some x):a=s.enc x:=by
 unfold ASh.dec at h
 split at h
 ·split at h
  ·rename_i K K' y hk
   cases h;have e:=Ka hk;subst e
   rfl
  ·cases h
 ·split at h
  ·rename_i K K' y hk
   cases h;have e:=Ka hk;subst e
   rfl
  ·cases h
 ·split at h
  ·rename_i K m K' m' y hk
   split at h
   ·rename_i hm
    cases h;have e:=Ka hk;have e2:=Lh hm;subst e e2
    rfl
   ·cases h
  ·cases h
 ·split at h
  ·rename_i K m K' m' y hk
   split at h
   ·rename_i hm
    cases h;have e:=Ka hk;have e2:=Lh hm;subst e e2
    rfl
   ·cases h
  ·cases h
 ·split at h
  ·rename_i K m K' m' y hk
   split at h
   ·rename_i hm
    cases h;have e:=Ka hk;have e2:=Lh hm;subst e e2
    rfl
   ·cases h
  ·cases h
 ·split at h
  ·rename_i hb
   cases h;exact Be hb _
  ·cases h
 ·split at h
  ·rename_i hb
   split at h
   ·rename_i y z hy hz
    cases h;rw[JM hb,qB _ _ hy,qB _ _ hz]
    rfl
   ·cases h
  ·cases h
 ·cases h
@[reducible] def jB:List ASh → Type
 |[]=>Unit
 |s::l=>s.V×jB l
def eG:(l:List ASh)->jB l->List Arg
 |[],_=>[]
 |s::l,x=>s.enc x.1::eG l x.2
def wn:(l:List ASh)->List Arg->Option (jB l)
 |[],[]=>some ()
 |s::l,a::r=>match s.dec a,wn l r with|some x,some y=>some ((x,y):s.V×jB l)|_,_=>none
 |_,_=>none
theorem Cx:∀(l:List ASh) (r:List Arg) {x:jB l},wn l r=some x->r=eG l x
 |[],[],_,_=>rfl
 |s::l,a::r,x,h=>by
  have h':(match s.dec a,wn l r with|some x,some y=>some ((x,y):s.V×jB l)|_,_=>none)=some x:=h
  split at h'
  ·rename_i y z hy hz
   cases h';show _=s.enc y::eG l z;rw[← Cx l r hz,← ASh.dec_enc hy]
  ·cases h'
 |[],_::_,_,h=>by cases h
 |_::_,[],_,h=>by cases h
inductive RSh where
 |ro (K:Kd)
 |own (K:Kd) (m:Md)
 |out (K:Kd)
 |bx (K:Kd) (m:Md)
@[reducible] def RSh.K:RSh → Kd
 | .ro K=>K
 | .own K _=>K
 | .out K=>K
 | .bx K _=>K
@[reducible] def jL:List RSh → Type
 |[]=>Unit
 |[s]=>s.K.T
 |s::s2::l=>s.K.T×jL (s2::l)
def H4 (s:RSh)(x:s.K.T)(r:oS):oS:=match s,x with
 | .ro K,x=>⟨.ro K x::r.rets,r.outs⟩
 | .own K m,x=>⟨.own K m x::r.rets,r.outs⟩
 | .out K,x=>⟨r.rets,⟨K,x⟩::r.outs⟩
 | .bx K m,x=>⟨.bx K m x::r.rets,r.outs⟩
def rB:(l:List RSh)->jL l->oS
 |[],_=>⟨[],[]⟩
 |[s],x=>H4 s x ⟨[],[]⟩
 |s::s2::l,x=>H4 s x.1 (rB (s2::l) x.2)
def Bf {α:Type}(s:RSh)(r:oS)(k:s.K.T->oS->Option α):Option α:=match s,k with
 | .ro K,k=>match r with
  |⟨.ro K' x::l,o⟩=>if h:K'.beq K=true then k (iQ h x) ⟨l,o⟩else none
  |_=>none
 | .own K m,k=>match r with
  |⟨.own K' m' x::l,o⟩=>if h:K'.beq K=true then(if m'.beq m=true then k (iQ h x) ⟨l,o⟩else none)else none
  |_=>none
 | .out K,k=>match r with
  |⟨l,⟨K',x⟩::o⟩=>if h:K'.beq K=true then(if l.isEmpty=true then k (iQ h x) ⟨l,o⟩else none)else none
  |_=>none
 | .bx K m,k=>match r with
  |⟨.bx K' m' x::l,o⟩=>if h:K'.beq K=true then(if m'.beq m=true then k (iQ h x) ⟨l,o⟩else none)else none
  |_=>none
theorem wq {α:Type}{s:RSh}{r:oS}{k:s.K.T->oS->Option α}{out:α}(h:Bf s r k=some out):∃x r2,r=H4 s x r2/\k x r2=some out:=by
 unfold Bf at h
 split at h
 ·split at h
  ·split at h
   ·rename_i K k0 K' x l o hk
    refine⟨_,_,?_,h⟩;have e:=Ka hk;subst e
    rfl
   ·cases h
  ·cases h
 ·split at h
  ·split at h
   ·rename_i K m k0 K' m' x l o hk
    split at h
    ·rename_i hm
     refine⟨_,_,?_,h⟩;have e:=Ka hk;have e2:=Lh hm;subst e e2
     rfl
    ·cases h
   ·cases h
  ·cases h
 ·split at h
  ·split at h
   ·rename_i K k0 l K' x o hk
    split at h
    ·refine⟨_,_,?_,h⟩
     have e:=Ka hk;subst e
     rfl
    ·cases h
   ·cases h
  ·cases h
 ·split at h
  ·split at h
   ·rename_i K m k0 K' m' x l o hk
    split at h
    ·rename_i hm
     refine⟨_,_,?_,h⟩;have e:=Ka hk;have e2:=Lh hm;subst e e2
     rfl
    ·cases h
   ·cases h
  ·cases h
def po {α:Type}(r:oS)(x:α):Option α:=match r with|⟨[],[]⟩=>some x|_=>none
def ip:(l:List RSh)->oS->Option (jL l)
 |[],r=>po r ()
 |[s],r=>Bf s r λx r=>po r x
 |s::s2::l,r=>Bf s r λx r=>match ip (s2::l) r with|some y=>some ((x,y):s.K.T×jL (s2::l))|none=>none
theorem rC {α:Type}{r:oS}{x y:α}(h:po r x=some y):r=⟨[],[]⟩/\x=y:=by
 unfold po at h
 split at h
 ·cases h;exact⟨rfl,rfl⟩
 ·cases h
theorem Cy:∀(l:List RSh) (r:oS) {x:jL l},ip l r=some x->r=rB l x
 |[],r,x,h=>(rC (show po r ()=some x from h)).1
 |[s],r,x,h=>by
  obtain⟨y,r2,h1,h2⟩:=wq (show Bf s r (λx r=>po r x)=some x from h);obtain⟨h3,h4⟩:=rC h2;rw[h1,h3,h4]
  rfl
 |s::s2::l,r,x,h=>by
  obtain⟨y,r2,h1,h2⟩:=wq (show Bf s r (λx r=>match ip (s2::l) r with|some y=>some ((x,y):s.K.T×jL (s2::l))|none=>none)=some x from h)
  split at h2
  ·rename_i z hz
   cases h2;rw[h1,Cy (s2::l) r2 hz]
   rfl
  ·cases h2
structure ij where
 a:List ASh
 r:List RSh
 F:jB a->Option (jL r)
def yG:List (Nat×ij)->Nat->List ij
 |[],_=>[]
 |(i,x)::l,n=>if KA i n=true then x::yG l n else yG l n
theorem oy:∀{l:List (Nat×ij)} {n:Nat} {e:ij},e∈yG l n->(n,e)∈l
 |(i,x)::l,n,e,h=>by
  have h':e∈(if KA i n=true then x::yG l n else yG l n):=h
  split at h'
  ·rename_i hb
   rcases List.mem_cons.1 h' with rfl|h'
   ·rw[JM hb]
    exact JA
   ·exact JE _ (oy h')
  ·exact JE _ (oy h')
 |[],n,e,h=>by cases h
def yH {Ω:Type}:List ij->List Arg->(oS->Option Ω)->Option Ω
 |[],_,_=>none
 |e::l,args,K=>match wn e.a args with
  |some v=>(e.F v).bind λr=>K (rB e.r r)
  |none=>yH l args K
def mkM (tb:List (Nat×ij)):zz:=λf args {_} K=>yH (yG tb f) args K
def jD (P:Program)(ty:List (Nat×Kd))(tb:List (Nat×ij)):fS:=⟨P,ty,λf=>(yG tb f).map λe=>e.a.map ASh.am,mkM tb⟩
structure aq (P:Program) (f:Nat) (e:ij):Prop where
 body:∃fn,P.funcs[f]? =some fn/\fn.name≠ "runtime.NumGoroutine" /\fn.body.isNone=false
 ans:∀v r,e.F v=some r->IH P f (eG e.a v) (rB e.r r)
theorem wu {Ω:Type}:∀(l:List ij) (args:List Arg) (K:oS->Option Ω),yH l args K=(yH l args some).bind K
 |[],_,_=>rfl
 |e::l,args,K=>by
  unfold yH;cases wn e.a args with
  |none=>exact wu l args K
  |some v=>
   dsimp only;cases e.F v<;>rfl
theorem zX {P:Program}{f:Nat}{Ω:Type}:∀{l:List ij} {args:List Arg} {K:oS->Option Ω} {out:Ω},(∀e,e∈l->aq P f e)->yH l args K=some out->∃res,K res=some out/\IH P f args res
 |[],_,_,_,_,h=>by cases h
 |e::l,args,K,out,hl,h=>by
  unfold yH at h
  split at h
  ·rename_i v hv
   cases hr:e.F v with
   |none=>rw[hr]at h;cases h
   |some r=>
    rw[hr]at h;refine⟨rB e.r r,h,?_⟩;rw[Cx _ _ hv];exact(hl e JA).ans v r hr
  ·exact zX (λe he=>hl e (JE _ he)) h
theorem fJ {P:Program}{ty:List (Nat×Kd)}{tb:List (Nat×ij)}(h:∀q,q∈tb->aq P q.1 q.2):lS (jD P ty tb) where
 uni:=λf args Ω K=>wu _ _ _
 body:=by
  intro f ams hs;obtain⟨e,he,_⟩:=List.mem_map.1 hs;exact(h _ (oy he)).body
 ans:=λf args Ω K out hm=>zX (λe he=>h _ (oy he)) hm
theorem H5 {c:fS}(hc:cf c)(hM:lS c)(hmix:c.P.follows .mixedOrders=true){f:Nat}{e:ij}{d:rx}{an:An}{fn:Func}(hf:c.P.funcs[f]? =some fn)(hb:fn.body=some d.code)(hn:(fn.name== "runtime.NumGoroutine")=false)
  (hnt:fn.ntmps=d.nt) (hres:fn.results.toList=d.res.map (·.1)) (T:(v:jB e.a)->sO (jL e.r))
  (hU:∀v q,q∈io d.code an->cQ c d.nt (T v) (jK c d (eG e.a v) (ip e.r)) q.1 q.2)
  (h:∀v,tA c d an (T v) (eG e.a v) (ip e.r)=e.F v):aq c.P f e where
 body:=⟨fn,hf,(by intro h1;rw[h1]at hn;exact bJ hn (by simp)),by rw[hb];rfl⟩
 ans:=by
  intro v r hr;rw[← h v]at hr;exact H1 hc hM hmix hf hb hnt hres (hU v) (λq hq=>Cy _ _ hq) hr
def Code.l:Code->Code
 | .seq a _=>a
 | .block _ a=>a
 | .loop a=>a
 | .cond _ a _=>a
 |c=>c
def Code.r:Code->Code
 | .seq _ b=>b
 | .cond _ _ b=>b
 |c=>c
universe u
theorem bD {α:Type u}{p:α->Prop}:∀q,q∈([]:List α)->p q:=λ_ h=>by cases h
theorem mem_cons {α:Type u}{p:α->Prop}{a:α}{l:List α}(h:p a)(h2:∀q,q∈l->p q):∀q,q∈a::l->p q:=λq hq=>by
 cases hq with
 |head=>exact h
 |tail _ hq=>exact h2 q hq
theorem rD {p:Nat×Code->Prop}{x:Code}{a:An}{l:List (Nat×Code)}(h:io x a=l)(h2:∀q,q∈l->p q):∀q,q∈io x a->p q:=by rw[h];exact h2
theorem Bg {P:Program}{ty:List (Nat×Kd)}{tb:List (Nat×ij)}(h:TysOk P ty):cf (jD P ty tb):=⟨h⟩
theorem gq {P:Program}{f:Nat}{e:ij}(fn:Func)(hf:P.funcs[f]? =some fn)(hb:fn.body.isNone=false)(hn:(fn.name== "runtime.NumGoroutine")=false)(h:∀v,e.F v=none):aq P f e where
 body:=⟨fn,hf,(by intro h1;rw[h1]at hn;exact bJ hn (by simp)),hb⟩
 ans:=by intro v r hr;rw[h v]at hr;cases hr
def Kd.pv:(K:Kd)->K.T->Value
 | .int k,n=>.int k n
 | .bool,b=>.bool b
 | .str,s=>.string s
 |_,_=>undef
def Kd.plain:Kd->Bool
 | .int _=>true
 | .bool=>true
 | .str=>true
 |_=>false
theorem RO.pv {S:Nat->Prop}{w:World}{K:Kd}{x:K.T}{cs:List Value}{v:Value}(hK:K.plain=true)(h:RO S w K x cs)(hv:VRep K cs v):v=K.pv x:=by
 cases K with
 |int k=>rw[show cs=[.int k x]from h]at hv;exact hv.1
 |bool=>rw[show cs=[.bool x]from h]at hv;exact hv.1
 |str=>rw[show cs=[.string x]from h]at hv;exact hv.1
 |_=>cases hK
@[reducible] def wv (Ks:List Kd):List ASh:=Ks.map ASh.ro
@[reducible] def Bh (Ks:List Kd):List RSh:=Ks.map RSh.ro
def zY:(Ks:List Kd)->jB (wv Ks)->List Value
 |[],_=>[]
 |K::Ks,x=>K.pv x.1::zY Ks x.2
theorem zZ {w2:World}{g g2:Gh}:∀(Ks:List Kd) (v:jB (wv Ks)) (j:Nat),fp w2 g g2 j (eG (wv Ks) v) []
 |[],_,_=>trivial
 |_::Ks,v,j=>zZ Ks v.2 (j+1)
def Rep0 (K:Kd)(x:K.T)(v:Value):Prop:=∃cs,(∀(S:Nat->Prop) (w:World),RO S w K x cs)/\VRep K cs v
theorem Rep0.int {k:IntKind}{n:Int}:Rep0 (.int k) n (.int k n):=⟨_,λ_ _=>rfl,rfl,rfl⟩
theorem Rep0.bool {b:Bool}:Rep0 .bool b (.bool b):=⟨_,λ_ _=>rfl,rfl,rfl⟩
theorem Rep0.str {s:ByteArray}:Rep0 .str s (.string s):=⟨_,λ_ _=>rfl,rfl,rfl⟩
theorem Rep0.noErr:Rep0 .err false .nilIface:=⟨_,λ_ _=>⟨_,rfl,.inl ⟨rfl,rfl⟩⟩,rfl,rfl⟩
theorem Rep0.anErr {t:TypeId}{p:Value}:Rep0 .err true (.iface t p):=⟨_,λ_ _=>⟨_,rfl,.inr ⟨rfl,t,p,rfl⟩⟩,rfl,rfl⟩
def Cz:(Rs:List Kd)->jL (Bh Rs)->Value->Prop
 |[K],x,v=>Rep0 K x v
 |[K,L],x,v=>∃a b,v= .tuple #[a,b]/\Rep0 K x.1 a/\Rep0 L x.2 b
 |[K,L,M],x,v=>∃a b c,v= .tuple #[a,b,c]/\Rep0 K x.1 a/\Rep0 L x.2.1 b/\Rep0 M x.2.2 c
 |_,_,_=>False
theorem Ie {w2:World}{g:Gh}{n:Nat}:∀(Rs:List Kd) (r:jL (Bh Rs)) (v:Value),Cz Rs r v->(∀i b,¬g.F (n+i) b)->∃cs,qy w2 {g with cs:=cs} n (rB (Bh Rs) r).rets v
 |[],_,_,h,_=>h.elim
 |[K],x,v,h,hrest=>by
  obtain⟨cs,h1,h2⟩:=h;exact⟨λ_=>cs,hrest 0,h1 _ _,h2⟩
 |[K,L],x,v,h,hrest=>by
  obtain⟨a,b,rfl,⟨c1,p1,p2⟩,c2,q1,q2⟩:=h;refine⟨λi=>if i=n then c1 else c2,_,rfl,rfl,λi rr u hi hu=>?_⟩
  match i,hi,hu with
  |0,hi,hu=>
   cases hi;cases hu;refine⟨hrest 0,?_,?_⟩
   ·simp only[KH,if_true];exact p1 _ _
   ·simp only[KH,if_true];exact p2
  |1,hi,hu=>
   cases hi;cases hu;refine⟨hrest 1,?_,?_⟩
   ·dsimp only;rw[ao (by omega)];exact q1 _ _
   ·dsimp only;rw[ao (by omega)];exact q2
  |i+2,hi,hu=>cases hi
 |[K,L,M],x,v,h,hrest=>by
  obtain⟨a,b,c,rfl,⟨c1,p1,p2⟩,⟨c2,q1,q2⟩,c3,s1,s2⟩:=h;refine⟨λi=>if i=n then c1 else if i=n+1 then c2 else c3,_,rfl,rfl,λi rr u hi hu=>?_⟩
  match i,hi,hu with
  |0,hi,hu=>
   cases hi;obtain rfl:a=u:=by simpa using hu
   refine⟨hrest 0,?_,?_⟩
   ·dsimp only;rw[ab (by omega)];exact p1 _ _
   ·dsimp only;rw[ab (by omega)];exact p2
  |1,hi,hu=>
   cases hi;obtain rfl:b=u:=by simpa using hu
   refine⟨hrest 1,?_,?_⟩
   ·dsimp only;rw[ao (by omega),ab (by omega)];exact q1 _ _
   ·dsimp only;rw[ao (by omega),ab (by omega)];exact q2
  |2,hi,hu=>
   cases hi;obtain rfl:c=u:=by simpa using hu
   refine⟨hrest 2,?_,?_⟩
   ·dsimp only;rw[ao (by omega),ao (by omega)];exact s1 _ _
   ·dsimp only;rw[ao (by omega),ao (by omega)];exact s2
  |i+3,hi,hu=>cases hi
 |_::_::_::_::_,_,_,h,_=>h.elim
def uF (S:Nat->Prop)(w:World):(Ks:List Kd)->jB (wv Ks)->List Value->Prop
 |[],_,vs=>vs=[]
 |K::Ks,x,vs=>∃v r cs,vs=v::r/\RO S w K x.1 cs/\VRep K cs v/\uF S w Ks x.2 r
theorem rE {P:Program}{w:World}{S:Nat->Prop}:∀(Ks:List Kd) (v:jB (wv Ks)) (vals:List Value),vals.length=(eG (wv Ks) v).length->
  (∀(j:Nat) a x,(eG (wv Ks) v)[j]? =some a->vals[j]? =some x->∃F pl cs,pi P S w F pl cs a x)->uF S w Ks v vals
 |[],_,[],_,_=>rfl
 |[],_,_::_,h,_=>by cases h
 |K::Ks,v,[],h,_=>by cases h
 |K::Ks,v,x::vals,hl,h=>by
  obtain⟨F,pl,cs,_,_,cs',h1,h2⟩:=h 0 (.ro K v.1) x rfl rfl;exact⟨x,vals,cs',rfl,h1,h2,rE Ks v.2 vals (Nat.succ.inj hl) (λj a y ha hy=>h (j+1) a y ha (by simpa using hy))⟩
theorem A0 {P:Program}{f:Nat}{Ks Rs:List Kd}{F:jB (wv Ks)->Option (jL (Bh Rs))}(fn:Func)(hf:P.funcs[f]? =some fn)(hb:fn.body.isNone=false)(hn:(fn.name== "runtime.NumGoroutine")=false)
  (h:∀v r,F v=some r->∀(S:Nat->Prop) (w:World) (vals:List Value),(∀b,S b->b<w.heap.size)->GlobOk P S w->uF S w Ks v vals->
   Calls P f vals.toArray w λe w'=>(∃ret,e= .returned ret/\Cz Rs r ret)/\Ext w w' (λ_ _=>False)):
  aq P f ⟨wv Ks,Bh Rs,F⟩ where
 body:=⟨fn,hf,(by intro h1;rw[h1]at hn;exact bJ hn (by simp)),hb⟩
 ans:=by
  intro v r hr w vals g hE;refine(h v r hr g.S w vals hE.Ssz hE.glob (rE (P:=P) Ks v vals hE.len (λj a x ha hx=>⟨_,_,_,hE.arg j a x ha hx⟩))).mono λe w2 ⟨⟨ret,he,hret⟩,hx⟩=>?_
  have hrest:∀i,(∀b,¬g.F ((eG (wv Ks) v).length+i) b):=λi=>(hE.rest _ (Nat.le_add_right _ _)).1
  obtain⟨cs,hcs⟩:=Ie (w2:=w2) Rs r ret hret hrest;refine⟨ret,{g with cs:=cs},he,⟨hx.mono (λ_ _ _ h=>h.elim),λ_ h=>h,λ_ h=>.inl h,λb hb=>JX (hE.Ssz b hb) hx.size,
   λj b hF=>.inl ⟨j,hF⟩,λj b hF=>JX (hE.Fsz j b hF) hx.size,hE.FS,hE.FF,?_,hcs⟩⟩
  have:∀(Rs:List Kd) (r:jL (Bh Rs)),(rB (Bh Rs) r).outs=[]:=by
   intro Rs
   induction Rs with
   |nil=>intro r;rfl
   |cons K Rs ih=>
    intro r;cases Rs with
    |nil=>rfl
    |cons L Rs=>exact ih r.2
  rw[this];exact zZ Ks v 0
theorem q7 {S:Nat->Prop}{w:World}:∀(Ks:List Kd) (v:jB (wv Ks)) (vals:List Value),Ks.all Kd.plain=true->uF S w Ks v vals->vals=zY Ks v
 |[],_,_,_,h=>h
 |K::Ks,v,vals,hK,h=>by
  rw[List.all_cons,Jm]at hK;obtain⟨x,r,cs,rfl,h1,h2,h3⟩:=h;show x::r=K.pv v.1::zY Ks v.2;rw[RO.pv hK.1 h1 h2,q7 Ks v.2 r hK.2 h3]
theorem Ext.below {w w':World}{X:Nat->Nat->Prop}(h:RowKit.Below w.heap.size w w'):Ext w w' X:=
 ⟨h.os,h.tape,h.output,h.size,λb hb _=>h.block b hb,λb o hb _=>⟨zy (h.block b hb),by unfold World.frozen?;rw[h.block b hb]⟩⟩
theorem Ext.grow (w:World)(k:Nat)(os:Array Go.Obj)(X:Nat->Nat->Prop):Ext w (Go.Sort.grow (w.drewN k) os) X:=by
 have hb:∀b,b<w.heap.size->(w.heap++os)[b]? =w.heap[b]?:=λb hb=>by rw[Array.getElem?_append,ab hb]
 have hs:w.heap.size<=(w.heap++os).size:=by rw[OC];omega
 exact Ext.below ⟨rfl,rfl,rfl,hs,hb⟩
theorem uG {P:Program}{f:Nat}{Ks Rs:List Kd}{F:jB (wv Ks)->Option (jL (Bh Rs))}(fn:Func)(hf:P.funcs[f]? =some fn)(hb:fn.body.isNone=false)(hn:(fn.name== "runtime.NumGoroutine")=false)
  (hK:Ks.all Kd.plain=true)
  (h:∀v r,F v=some r->∀(S:Nat->Prop) (w:World),GlobOk P S w->Calls P f (zY Ks v).toArray w λe w'=>(∃ret,e= .returned ret/\Cz Rs r ret)/\Ext w w' (λ_ _=>False)):
  aq P f ⟨wv Ks,Bh Rs,F⟩:=
 A0 fn hf hb hn λv r hr S w vals _ hG hA=>by rw[q7 Ks v vals hK hA];exact h v r hr S w hG
theorem VRep.raw {k:Kd}{cs:List Value}{v:Value}(h:VRep (.raw (.st k)) cs v):VRep (.st k) cs v:=h
open Classical in
abbrev KN (r:List RSh):Type:=Env->Option (jL r)
abbrev KX (r:List RSh):Type:=Nat->Env->Option (jL r)
theorem kq {c:fS}{nt:Nat}{Ω:Type}{T:sO Ω}{kr:Env->Option Ω}(hc:cf c)(hM:lS c)(hmix:c.P.follows .mixedOrders=true){j n:Nat}{x:Code}(a:An)(lv:Lv)(live:List Nat)(S:ES)
  (G:Nat->S.V->(Env->Option Ω)->(Nat->Env->Option Ω)->Option Ω) (hT:∀e kn kx,T j e kn kx=ES.on S e λx=>G n x kn kx) (h0:∀x kn kx,G 0 x kn kx=none)
  (hs:∀m x' kn kx,mq c nt T kr x a lv (meet (some live) λe=>ES.on S e λx=>G m x kn kx) kx (S.enc x')=G (m+1) x' kn kx) {l:List (Nat×Code)} (hl:io x a=l)
  (hU:∀q,q∈l->cQ c nt T kr q.1 q.2):cQ c nt T kr j (.loop x):=
 Bb (n:=n) hc hM hmix a lv live (λm e kn kx=>ES.on S e λx=>G m x kn kx) hT
  (λe kn kx out h=>by obtain⟨x,_,h2⟩:=ES.on_inv h;rw[h0]at h2;cases h2) (λm e kn kx out h=>by obtain⟨x,e1,h2⟩:=ES.on_inv h;rw[e1];exact(hs m x kn kx).trans h2) (rD hl hU)
theorem jr {c:fS}{nt:Nat}{Ω:Type}{T:sO Ω}{kr:Env->Option Ω}(hc:cf c)(hM:lS c)(hmix:c.P.follows .mixedOrders=true){j:Nat}{x:Code}(a:An)(lv:Lv)(live:List Nat)(S:ES)
  (G:S.V->(Env->Option Ω)->(Nat->Env->Option Ω)->Option Ω) (hT:∀e kn kx,T j e kn kx=ES.on S e λx=>G x kn kx)
  (hs:∀x' kn kx,mq c nt T kr x a lv (meet (some live) kn) kx (S.enc x')=G x' kn kx) {l:List (Nat×Code)} (hl:io x a=l)
  (hU:∀q,q∈l->cQ c nt T kr q.1 q.2):cQ c nt T kr j x:=
 Bc hc hM hmix a lv (some live) (λe kn kx out h=>by rw[hT]at h;obtain⟨x,e1,h2⟩:=ES.on_inv h;rw[e1];exact(hs x kn kx).trans h2) (rD hl hU)
def II (fn:Func):Option Code×Nat×List ResultVar×Bool:=(fn.body,fn.ntmps,fn.results.toList,fn.name== "runtime.NumGoroutine")
def IJ (d:rx):Option Code×Nat×List ResultVar×Bool:=(some d.code,d.nt,d.res.map (·.1),false)
theorem iq {c:fS}(hc:cf c)(hM:lS c)(hmix:c.P.follows .mixedOrders=true){f:Nat}{e:ij}{d:rx}(an:An){fn:Func}(hf:c.P.funcs[f]? =some fn)(hq:II fn=IJ d)(T:sO (jL e.r)){l:List (Nat×Code)}(hl:io d.code an=l)
  (hU:∀v q,q∈l->cQ c d.nt T (jK c d (eG e.a v) (ip e.r)) q.1 q.2) (h:∀v,tA c d an T (eG e.a v) (ip e.r)=e.F v):aq c.P f e:=by
 simp only[II,IJ,JH]at hq;exact H5 hc hM hmix hf hq.1 hq.2.2.2 hq.2.1 hq.2.2.1 (λ_=>T) (λv=>rD hl (hU v)) h
theorem Eu {c:fS}(hc:cf c)(hM:lS c)(hmix:c.P.follows .mixedOrders=true){f:Nat}{e:ij}{d:rx}(an:An){fn:Func}(hf:c.P.funcs[f]? =some fn)(hq:II fn=IJ d)(hl:io d.code an=[])
  (h:∀v,tA c d an (λ_ _ _ _=>none) (eG e.a v) (ip e.r)=e.F v):aq c.P f e:=
 iq hc hM hmix an hf hq _ hl (λ_=>bD) h
end Go.Abs
