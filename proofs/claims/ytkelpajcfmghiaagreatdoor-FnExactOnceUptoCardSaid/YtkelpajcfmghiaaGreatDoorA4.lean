/- The abstract interpreter of the elaborated code, and that what it answers is what the machine does: part 4. Conditions: none. -/
import Derived.Below
import Derived.Sort.Grow
import Derived.Deep.Draws
import Derived.Test.YtkelpajcfmghiaaGreatDoorA3
open Array renaming replicate → Nz,size_append → OR
open Bool renaming and_eq_true → Jz
open Go.Abs.Kd renaming Ts → Mu,beqs → Ot,eq_of_beq → Ku,eq_of_beqs → N8
open Go.Abs.Md renaming eq_of_beq → Lx
open Go.Abs.Oper renaming opds → KK
open Go.Result renaming andThen_ok → JF
open Go.Sem renaming run_bind → JP,run_pure → Kc
open List renaming getElem?_cons_succ → NW,getElem?_cons_zero → KH,getElem?_eq_some_iff → Kg,mem_append → KP,mem_append_left → KE,mem_append_right → KC,mem_cons_of_mem → JR,mem_cons_self → JN,mem_singleton → Kb,nodup_append → Pb
open Nat renaming add_sub_cancel_left → N7,add_zero → KY,beq → KQ,eq_of_beq_eq_true → JZ,le_refl → JU,lt_of_lt_of_le → Kl,not_lt_zero → JL,zero_le → JQ
open Option.some renaming injEq → JD
open Prod.mk renaming injEq → JW
set_option linter.unusedVariables false
set_option linter.unusedSimpArgs false
namespace Go.Abs
def EZ (c:fX):Prop:=∀(f:Nat) (args:List Arg) (Ω:Type) (K:pb->Option Ω),c.M f args K=(c.M f args some).bind K
theorem mU {Ω:Type}(nt:Nat)(dst:Option Nat)(s:Slot)(k:bX->Option Ω):cz nt dst s k=(cz nt dst s some).bind k:=by
 unfold cz
 repeat' split
 all_goals rfl
theorem yY {Ω:Type}(nt:Nat)(dst:Option Nat)(fr:Bool)(o:Obj)(b:Bool)(more:List (Nat×Option Obj))(k:bX->Option Ω):dK nt dst fr o b more k=(dK nt dst fr o b more some).bind k:=by
 unfold dK
 repeat' split
 all_goals rfl
theorem lK {Ω Ω':Type}:∀(p q:bK) (x:Option Ω) (f:Ω->Option Ω'),lE p q (x.bind f)=(lE p q x).bind f
 |[],[],_,_=>rfl
 | .inn::p,.inn::q,x,f=>lK p q x f
 | .fst::p,.fst::q,x,f=>lK p q x f
 | .snd::p,.snd::q,x,f=>lK p q x f
 | .idx i::p,.idx j::q,x,f=>by
  unfold lE
  split
  ·exact lK p q x f
  ·rfl
 |[],_::_,_,_=>rfl
 | .inn::_,[],_,_| .fst::_,[],_,_| .snd::_,[],_,_| .idx _::_,[],_,_=>rfl
 | .inn::_,.fst::_,_,_| .inn::_,.snd::_,_,_| .inn::_,.idx _::_,_,_| .fst::_,.inn::_,_,_| .fst::_,.snd::_,_,_| .fst::_,.idx _::_,_,_
 | .snd::_,.inn::_,_,_| .snd::_,.fst::_,_,_| .snd::_,.idx _::_,_,_| .idx _::_,.inn::_,_,_| .idx _::_,.fst::_,_,_| .idx _::_,.snd::_,_,_=>rfl
theorem lL {Ω Ω':Type}:∀(p q:bK) (x:Option Ω) (f:Ω->Option Ω'),mE p q (x.bind f)=(mE p q x).bind f
 |[],q,_,_=>by cases q<;>rfl
 | .inn::p,.inn::q,x,f=>lL p q x f
 | .fst::p,.fst::q,x,f=>lL p q x f
 | .snd::p,.snd::q,x,f=>lL p q x f
 | .idx i::p,.idx j::q,x,f=>by
  unfold mE
  split
  ·exact lL p q x f
  ·rfl
 | .inn::_,[],_,_| .fst::_,[],_,_| .snd::_,[],_,_| .idx _::_,[],_,_=>rfl
 | .inn::_,.fst::_,_,_| .inn::_,.snd::_,_,_| .inn::_,.idx _::_,_,_| .fst::_,.inn::_,_,_| .fst::_,.snd::_,_,_| .fst::_,.idx _::_,_,_
 | .snd::_,.inn::_,_,_| .snd::_,.fst::_,_,_| .snd::_,.idx _::_,_,_| .idx _::_,.inn::_,_,_| .idx _::_,.fst::_,_,_| .idx _::_,.snd::_,_,_=>rfl
theorem CV {Ω Ω':Type}(op:BinOp)(i:IntKind)(a b:Int)(k:KV->Option Ω)(f:Ω->Option Ω'):yq op i a b (λr=>(k r).bind f)=(yq op i a b k).bind f:=by
 unfold yq
 repeat' split
 all_goals rfl
theorem CW {Ω Ω':Type}(op:BinOp)(a b:ByteArray)(k:KV->Option Ω)(f:Ω->Option Ω'):Bj op a b (λr=>(k r).bind f)=(Bj op a b k).bind f:=by
 unfold Bj
 repeat' split
 all_goals rfl
theorem yZ {Ω Ω':Type}(op:BinOp)(i:IntKind)(a b:Int)(k:KV->Option Ω)(f:Ω->Option Ω'):nQ op i a b (λr=>(k r).bind f)=(nQ op i a b k).bind f:=by
 unfold nQ
 repeat' split
 all_goals rfl
theorem CX {Ω Ω':Type}(c:fX)(op:BinOp)(t:Nat)(cst:Bool)(a b:KV)(k:KV->Option Ω)(f:Ω->Option Ω'):Bk c op t cst a b (λr=>(k r).bind f)=(Bk c op t cst a b k).bind f:=by
 unfold Bk
 repeat' split
 all_goals first|rfl|exact CV _ _ _ _ _ _|exact CW _ _ _ _ _|exact yZ _ _ _ _ _ _
theorem z6 {Ω:Type}(nt:Nat)(mds:List (Nat×Md))(dst:Option Nat)(fr:Bool)(outs:List (Nat×Option Obj))(rets:List RV)(k:bX->Option Ω):pf nt mds dst fr outs rets k=(pf nt mds dst fr outs rets some).bind k:=by
 unfold pf
 repeat' split
 all_goals rfl
theorem tU {c:fX}(hU:EZ c){Ω:Type}(nt:Nat)(mds:List (Nat×Md))(dst:Option Nat)(fr:Bool)(f:Nat)(ts:List Nat)(vs:List bF)(k:bX->Option Ω):
  kR c nt mds dst fr f ts vs k=(kR c nt mds dst fr f ts vs some).bind k:=by
 unfold kR
 split
 ·rfl
 ·split
  ·rfl
  ·split
   ·rw[hU f _ Ω,hU f _ bX]
    cases c.M f _ some with
    |none=>rfl
    |some res=>
     simp only[Option.bind_some]
     split
     ·split
      ·rfl
      ·exact z6 _ _ _ _ _ _ _
     ·rfl
   ·rfl
theorem CY {Ω:Type}(nt:Nat)(dst:Option Nat)(Ks:List Kd)(Kr:Kd)(f:Mu Ks->Option Kr.T)(vs:List bF)(k:bX->Option Ω):Bm nt dst Ks Kr f vs k=(Bm nt dst Ks Kr f vs some).bind k:=by
 unfold Bm
 split
 ·rfl
 ·split
  ·rfl
  ·rename_i a ha
   cases f a with
   |none=>rfl
   |some y=>exact mU _ _ _ _
theorem CZ {c:fX}(hU:EZ c){Ω:Type}(nt:Nat)(mds:List (Nat×Md))(o:Oper)(vs:List bF)(fr:Bool)(k:bX->Option Ω):vP c nt mds o vs fr k=(vP c nt mds o vs fr some).bind k:=by
 unfold vP
 split
 all_goals repeat' (first|rfl|exact mU _ _ _ _|exact yY _ _ _ _ _ _ _|exact tU hU _ _ _ _ _ _ _ _|exact CY _ _ _ _ _ _ _|(rw[← CX];congr 1;funext q;exact mU _ _ _ _)|(rw[← lK];rfl)|(rw[← lL];congr 1;exact mU _ _ _ _)|split|(dsimp only;split))
theorem D0 {c:fX}(hU:EZ c){Ω:Type}(nt:Nat)(mds:List (Nat×Md))(o:Oper)(vs:List bF)(fr:Bool)(k:bX->Option Ω):od c nt mds o vs fr k=(od c nt mds o vs fr some).bind k:=by
 unfold od
 split
 all_goals repeat' (first|rfl|exact mU _ _ _ _|exact tU hU _ _ _ _ _ _ _ _|split|(dsimp only;split))
theorem Ah {c:fX}(hU:EZ c){Ω:Type}(nt:Nat)(mds:List (Nat×Md))(o:Oper)(vs:List bF)(fr:Bool)(k:bX->Option Ω):Cw c nt mds o vs fr k=(Cw c nt mds o vs fr some).bind k:=by
 unfold Cw
 split
 ·exact D0 hU nt mds o vs fr k
 ·exact CZ hU nt mds o vs fr k
theorem It {Ω:Type}(l:Option (List Nat))(k:Env->Option Ω)(e:Env):meet l k e=k (match l with|none=>e|some l=>jO e l):=by
 cases l<;>rfl
def vb (j:Nat):Arg->Slot
 | .ro K x=>.v K x
 | .rp K x=>.rp K x
 | .mp _ _ _=>.pt j 0 []
 | .ms _ _ _=>.al j 0 []
 | .mv _ _ _=>.al j 0 []
 | .fn Ks Kr f=>.clo Ks Kr f
 | .fc f fs caps=>.fv f fs (caps.map λq=>.rp q.1 q.2)
def lM:Arg->Option Obj
 | .mp K m x=>some ⟨K,m,x,true,true,[],none⟩
 | .ms K m x=>some ⟨K,m,x,false,true,[],none⟩
 | .mv K m x=>some ⟨K,m,x,false,false,[],none⟩
 |_=>none
def nu:Nat->List Arg->List (Nat×Slot)
 |_,[]=>[]
 |j,a::l=>(j,vb j a)::nu (j+1) l
def mV:Nat->List Arg->List (Nat×Option Obj)
 |_,[]=>[]
 |j,a::l=>match lM a with
  |some o=>(j,some o)::mV (j+1) l
  |none=>mV (j+1) l
def qe (args:List Arg):Env:=⟨nu 0 args,mV 0 args⟩
theorem oE:∀(l:List Arg) (j i:Nat),au (nu j l) i=if j<=i then(l[i - j]?).map (vb i)else none
 |[],j,i=>by simp[nu,au]
 |a::l,j,i=>by
  unfold nu
  by_cases h:j=i
  ·subst h
   rw[aQ,ab (JU _),Nat.sub_self]
   rfl
  ·rw[aX h,oE l (j+1) i]
   by_cases hlt:j<i
   ·rw[ab (by omega),ab (by omega),show i - j=(i - (j+1))+1 by omega,NW]
   ·rw[ao (by omega),ao (by omega)]
theorem mW:∀(l:List Arg) (j i:Nat),au (mV j l) i=if j<=i then(l[i - j]?).bind (λa=>(lM a).map some)else none
 |[],j,i=>by simp[mV,au]
 |a::l,j,i=>by
  have tail:j≠i->au (mV (j+1) l) i=if j<=i then((a::l)[i - j]?).bind (λa=>(lM a).map some)else none:=by
   intro h;rw[mW l (j+1) i]
   by_cases hlt:j<i
   ·rw[ab (by omega),ab (by omega),show i - j=(i - (j+1))+1 by omega,NW]
   ·rw[ao (by omega),ao (by omega)]
  unfold mV
  by_cases h:j=i
  ·subst h
   rw[ab (JU _),Nat.sub_self]
   split
   ·rename_i o ho
    rw[aQ]
    simp[ho]
   ·rename_i ho
    rw[mW l (j+1) j,ao (by omega)]
    simp[ho]
  ·split
   ·rw[aX h];exact tail h
   ·exact tail h
def pz (w:World)(args:List Arg)(g:Gh):Base where
 w0:=w
 S0:=g.S
 Fx:=λb=>∃j,g.F j b
 Rx:=λb o=>∃j a off,args[j]? =some a/\g.pl j=some (b,off)/\off<=o/\o<off+a.size
 hd:=λj=>(g.pl j,g.cs j)
theorem BB {P:Program}{w:World}{args:List Arg}{vals:List Value}{g:Gh}{nt:Nat}(h:tL P w args vals g)(hnt:args.length<=nt):
  Inv P (pz w args g) nt (qe args) {tmps:=vals.toArray++Nz (nt - vals.toArray.size) undef,defers:=[]} w:=by
 have hl:=h.len;have obj:∀i,(qe args).obj i=(args[i]?).bind λa=>(lM a).map some:=by
  intro i;show au (mV 0 args) i=_;rw[mW,ab (JQ _),Nat.sub_zero]
 have get:∀i,(qe args).get i=match args[i]? with|some a=>vb i a|none=>.dead:=by
  intro i;show(match au (nu 0 args) i with|some s=>s|none=>Slot.dead)=_;rw[oE,ab (JQ _),Nat.sub_zero];cases args[i]? <;>rfl
 have argAt:∀i a,args[i]? =some a->∃v,vals[i]? =some v/\px P g.S w (g.F i) (g.pl i) (g.cs i) a v:=by
  intro i a ha;have hi:i<vals.length:=by have:=(Kg.1 ha).1;omega
  exact⟨vals[i],by simp,h.arg i a vals[i] ha (by simp)⟩
 have hX:∀b o,g.S b->¬(pz w args g).X b o:=by
  rintro b o hS (⟨j,hF⟩|⟨j,a,off,_,hp,_,_⟩)
  ·exact h.FS j b hF hS
  ·exact(h.plz j b off hp).2.1 hS
 refine⟨g,⟨h.glob,hX⟩,?_,rfl,Ext.refl _ _,h.Ssz,h.Fsz,λ_ h=>h,λ_ h=>.inl h,λi b hF=>.inl ⟨i,hF⟩,h.FS,h.FF,h.plz,λi hno=>?_,λi o ho=>?_,λi=>?_⟩
 ·simp only[OR,Array.size_replicate,List.size_toArray]
  omega
 ·cases ha:args[i]? with
  |none=>exact h.rest i (by have:=List.getElem?_eq_none_iff.1 ha;omega)
  |some a=>
   obtain⟨v,_,hr⟩:=argAt i a ha;have:lM a=none:=by
    cases ho:lM a with
    |none=>rfl
    |some o=>exact bH (by rw[obj,ha];simp[ho]) (hno o)
   cases a with
   |ro K x=>exact⟨hr.1,hr.2.1⟩
   |rp K x=>exact⟨hr.1,hr.2.1⟩
   |fn Ks Kr f=>exact⟨hr.1,hr.2.1⟩
   |fc f fs caps=>exact⟨hr.1,hr.2.1⟩
   |mp K m x=>simp[lM]at this
   |ms K m x=>simp[lM]at this
   |mv K m x=>simp[lM]at this
 ·rw[obj]at ho
  cases ha:args[i]? with
  |none=>rw[ha]at ho;cases ho
  |some a=>
   rw[ha]at ho;obtain⟨v,_,hr⟩:=argAt i a ha;cases a with
   |ro K x=>cases ho
   |rp K x=>cases ho
   |fn Ks Kr f=>cases ho
   |fc f fs caps=>cases ho
   |mp K m x=>
    cases ho;obtain⟨b,off,hp,rfl,h1,h2⟩:=hr;exact⟨λ_=>⟨h1,h2⟩,(λp hp=>by cases hp),by rw[hp];rfl,λ_=>by
     unfold nH
     split
     ·exact⟨λ_=>rfl,λhn=>by rw[show(pz w args g).hd i=(g.pl i,g.cs i)from rfl,hp]at hn;cases hn⟩
     ·exact⟨rfl,λhb=>by cases hb⟩,(λb' off' hp'=>.inr ⟨rfl,λo' h3 h4=>⟨i,_,off',ha,hp',h3,h4⟩⟩),λq off hq=>lX rfl hq⟩
   |ms K m x=>
    cases ho;obtain⟨hp,h1,h2⟩:=hr;exact⟨λ_=>⟨h1,λb off hq=>by rw[hp]at hq;cases hq⟩,(λp hp=>by cases hp),by rw[hp];rfl,λ_=>by
     unfold nH;rw[ao (by simp)];exact⟨rfl,λ_=>rfl⟩,(λb' off' hp'=>by rw[hp]at hp';cases hp'),λq off hq=>lX rfl hq⟩
   |mv K m x=>
    cases ho;obtain⟨hp,h1,h2⟩:=hr;exact⟨λ_=>⟨h1,λb off hq=>by rw[hp]at hq;cases hq⟩,(λp hp=>by cases hp),by rw[hp];rfl,(λhp=>by cases hp),(λb' off' hp'=>by rw[hp]at hp';cases hp'),λq off hq=>lX rfl hq⟩
 ·rw[get]
  cases ha:args[i]? with
  |none=>trivial
  |some a=>
   obtain⟨v,hv,hr⟩:=argAt i a ha;have hi:i<vals.length:=(Kg.1 hv).1;have ht:(vals.toArray++Nz (nt - vals.toArray.size) undef).getD i undef=v:=by
    rw[Array.getD_eq_getD_getElem?,Array.getElem?_append_left (by simpa using hi)]
    simp[hv]
   show SlotRep P g w (qe args).obj (vb i a) ((vals.toArray++Nz (nt - vals.toArray.size) undef).getD i undef);rw[ht];have hob:(qe args).obj i=(lM a).map some:=by rw[obj,ha];rfl
   cases a with
   |ro K x=>exact hr.2.2
   |rp K x=>exact hr.2.2
   |fn Ks Kr f=>exact hr.2.2
   |fc f fs caps=>
    obtain⟨_,_,fv,cv,e1,h1,h2⟩:=hr;refine⟨fv,cv,e1,h1,?_⟩;have:∀(l:List KV) (vs:List Value),CapsRep g.S w l vs->CapsOk g w (qe args).obj (l.map λq=>.rp q.1 q.2) vs:=by
     intro l
     induction l with
     |nil=>intro vs h;exact h
     |cons q l ih=>intro vs h;obtain⟨v,r,e,k1,k2⟩:=h;exact⟨v,r,e,k1,ih _ k2⟩
    exact this _ _ h2
   |mp K m x=>
    obtain⟨b,off,hp,rfl,h1,h2⟩:=hr;refine⟨⟨by rw[hob];simp[lM],λ_ _=>JQ _⟩,λo ho _ _=>?_⟩;rw[hob]at ho;cases ho;exact⟨b,off,g.cs i,K,m,x,cn _ _ _,by simp only[ck,hp],rfl⟩
   |ms K m x=>
    obtain⟨hp,h1,h2⟩:=hr;refine⟨⟨by rw[hob];simp[lM],λ_ _=>JQ _⟩,λo ho _ _=>?_⟩;rw[hob]at ho;cases ho;exact⟨none,g.cs i,K,m,x,cn _ _ _,by simp only[ck,hp],h2⟩
   |mv K m x=>
    obtain⟨hp,h1,h2⟩:=hr;refine⟨⟨by rw[hob];simp[lM],λ_ _=>JQ _⟩,λo ho _ _=>?_⟩;rw[hob]at ho;cases ho;exact⟨none,g.cs i,K,m,x,cn _ _ _,by simp only[ck,hp],h2⟩
structure rK where
 code:Code
 nt:Nat
 ann:Ip
 res:List (ResultVar×Kd×Md)
def z7 (K:Kd)(m:Md):bF->Option (RV×List Nat×List Nat)
 |(.v K' x,_)=>if(K'.beq K&&m.beq .ro)=true then some (.ro K' x,[],[])else none
 |(.nils,_)=>match K with
  | .sl e=>if m.beq .ro=true then some (.ro (.sl e) [],[],[])else(match m with| .own m'=>some (.own (.sl e) (.own m') [],[],[])|_=>none)
  |_=>none
 |(.al id n [],some o)=>if(bM o&&fB o n []&& !o.par&&o.K.beq K)=true then(if m.beq .ro=true then some (.ro o.K o.x,[id],[])else if o.m.beq m=true then some (.own o.K o.m o.x,[],[id])else none)else none
 |(.pt id n [],some o)=>if(bM o&&gC o n []&& !o.par&&o.K.beq K&&o.m.beq m)=true then some (.bx o.K o.m o.x,[],[id])else none
 |_=>none
def vc (c:fX)(t:Nat)(K:Kd)(m:Md):bF->Option (RV×List Nat×List Nat)
 |(.rp K' x,_)=>if(K'.beq K&&m.beq .ro&&eV c t K')=true then some (.ro K' x,[],[])else none
 |(.pt id n [],some o)=>if(bM o&&gC o n []&& !o.par&&o.K.beq K&&eV c t o.K)=true then(if m.beq .ro=true then some (.ro o.K o.x,[id],[])else if o.m.beq m=true then some (.own o.K o.m o.x,[],[id])else none)else none
 |_=>none
def D1 (c:fX)(e:Env):ResultVar×Kd×Md->Option (RV×List Nat×List Nat)
 |(.tmp t,K,m)=>z7 K m (e.view (e.get t))
 |(.cell a t,K,m)=>vc c t K m (e.view (e.get a))
def rL (c:fX)(e:Env):List (ResultVar×Kd×Md)->Option (List RV×List Nat×List Nat)
 |[]=>some ([],[],[])
 |q::l=>match D1 c e q,rL c e l with
  |some (r,a1,a2),some (rs,b1,b2)=>some (r::rs,a1++b1,a2++b2)
  |_,_=>none
def gV (e:Env):Nat->List Arg->Option (List KV)
 |_,[]=>some []
 |j,.mp K m _::l=>match e.obj j with
  |some (some o)=>if(bM o&&o.par&&o.box&&o.K.beq K&&o.m.beq m)=true then(match gV e (j+1) l with|some r=>some (⟨o.K,o.x⟩::r)|none=>none)else none
  |_=>none
 |j,.ms K m _::l=>match e.obj j with
  |some (some o)=>if(bM o&&o.par&& !o.box&&o.K.beq K&&o.m.beq m)=true then(match gV e (j+1) l with|some r=>some (⟨o.K,o.x⟩::r)|none=>none)
   else if h:o.K.beq (.st K)=true then(if(bM o&&o.par&&o.box&&EB o.K&&o.m.beq m)=true then(match gV e (j+1) l with|some r=>some (⟨K,(Ku h▸o.x:(Kd.st K).T)⟩::r)|none=>none)else none)else none
  |_=>none
 |j,.ro _ _::l=>gV e (j+1) l
 |j,.rp _ _::l=>gV e (j+1) l
 |j,.mv _ _ _::l=>gV e (j+1) l
 |j,.fn _ _ _::l=>gV e (j+1) l
 |j,.fc _ _ _::l=>gV e (j+1) l
def jR {Ω:Type}(c:fX)(d:rK)(args:List Arg)(K:pb->Option Ω)(e:Env):Option Ω:=match rL c e d.res,gV e 0 args with
 |some (rs,fz,ow),some outs=>if nodup (fz++ow)=true then K ⟨rs,outs⟩else none
 |_,_=>none
theorem D2 {Ω:Type}(c:fX)(d:rK)(args:List Arg)(K:pb->Option Ω)(e:Env):jR c d args K e=(jR c d args some e).bind K:=by
 unfold jR
 repeat' split
 all_goals rfl
theorem BC {c:fX}(hc:cg c){B:Base}{nt:Nat}{e:Env}{a:Act}{w:World}{g:Gh}(hg:InvG c.P B nt e a w g){q:ResultVar×Kd×Md}{r:RV}{fz ow:List Nat}(h:D1 c e q=some (r,fz,ow))(FZ:List Nat)(hF:∀i,i∈fz->i∈FZ):
  ∃v cs,((match q.1 with| .tmp t=>pure (a.tmps.getD t undef)| .cell t ty=>(do loadVar ty (← asAddr (a.tmps.getD t undef))):Sem Value)).run c.P w= .ok v w/\
   RetRep (g.freeze FZ).S w (λb=>∃i,i∈ow/\g.has i b) cs r v/\∀i,i∈fz++ow->∃o,e.obj i=some (some o)/\o.par=false:=by
 obtain⟨rv,K,m⟩:=q;have S1:∀b,g.S b->(g.freeze FZ).S b:=λb hb=>.inl hb
 have noF:∀b,¬∃i,i∈([]:List Nat)/\g.has i b:=λb ⟨i,hi,_⟩=>by cases hi
 cases rv with
 |tmp t=>
  have hv:e.view (e.opd (.tmp t))=e.view (e.get t):=rfl;have h:z7 K m (e.view (e.get t))=some (r,fz,ow):=h;generalize hw:e.view (e.get t)=vw at h hv;have hrep:=aI hg hv;refine⟨a.tmps.getD t undef,?_⟩;unfold z7 at h
  split at h
  ·split at h
   ·cases h
    obtain⟨cs,h1,h2⟩:=hrep;exact⟨cs,rfl,⟨noF,h1.mono S1 (λ_ _ _ _ h=>h),h2⟩,λi hi=>by cases hi⟩
   ·cases h
  ·split at h
   ·split at h
    ·cases h
     refine⟨[.slice none 0 0],rfl,⟨noF,⟨none,0,rfl,JU _,λi hi=>bH hi (JL i)⟩,?_⟩,λi hi=>by cases hi⟩;have h1:a.tmps.getD t undef= .slice none 0 0:=hrep;rw[h1];exact⟨rfl,rfl⟩
    ·split at h
     ·cases h
      refine⟨[.slice none 0 0],rfl,⟨⟨none,0,rfl,JU _,λ_=>rfl,(λad had=>by cases had),λ_ _=>False,(λ_ _ h=>h.elim),(λ_ ad had=>by cases had),(λ_ _ _ _ h=>h.elim),λi hi=>bH hi (JL i)⟩,?_⟩,λi hi=>by cases hi⟩;have h1:a.tmps.getD t undef= .slice none 0 0:=hrep;rw[h1];exact⟨rfl,rfl⟩
     ·cases h
   ·cases h
  ·rename_i id n o
   split at h
   ·rename_i hcond
    simp only[Jz]at hcond;obtain⟨r1,r2,r3⟩:=lY hg hv hcond.1.1.1 hcond.1.1.2;have hpar:o.par=false:=by simpa using hcond.1.2
    split at h
    ·cases h
     refine⟨g.cs id,rfl,⟨noF,lJ hg (hF id (by simp)) r1 (bU hcond.1.1.1),r2⟩,λi hi=>?_⟩
     simp at hi
     subst hi;exact⟨o,r1,hpar⟩
    ·split at h
     ·cases h
      refine⟨g.cs id,rfl,⟨r3.mono S1 (λ_ _ _ _ h=>h) (λb hb=>⟨id,by simp,.inr hb⟩) (λ_ _ _=>⟨rfl,rfl⟩),r2⟩,λi hi=>?_⟩
      simp at hi
      subst hi;exact⟨o,r1,hpar⟩
     ·cases h
   ·cases h
  ·rename_i id n o
   split at h
   ·rename_i hcond
    simp only[Jz]at hcond;have hpar:o.par=false:=by simpa using hcond.1.1.2
    have hh:=bU hcond.1.1.1.1;have hob:=gU hv;cases h;obtain⟨b,off,cs',K',m',x',a1,a2,a3⟩:=hrep.2 o hob hcond.1.1.1.2 (.inl hh);simp only[ck,JD,JW]at a2;obtain⟨o1,o2⟩:=(hg.objs id o hob).own hh;rw[a2.1]at o2;refine⟨g.cs id,rfl,⟨b,off,⟨id,by simp,.inl ⟨off,a2.1⟩⟩,a3,o1.mono S1 (λ_ _ _ _ h=>h) (λb' hb'=>⟨⟨id,by simp,.inr hb'⟩,λe1=>(hg.plz id b off a2.1).2.2.1 id (e1▸hb')⟩) (λ_ _ _=>⟨rfl,rfl⟩),o2⟩,λi hi=>?_⟩
    simp at hi
    subst hi;exact⟨o,hob,hpar⟩
   ·cases h
  ·cases h
 |cell t ty=>
  have hv:e.view (e.opd (.tmp t))=e.view (e.get t):=rfl;have h:vc c ty K m (e.view (e.get t))=some (r,fz,ow):=h;generalize hw:e.view (e.get t)=vw at h hv;have hrep:=aI hg hv;have he:a.eval (.tmp t)=a.tmps.getD t undef:=rfl;rw[he]at hrep;unfold vc at h
  split at h
  ·split at h
   ·rename_i hcond
    simp only[Jz]at hcond;cases h;obtain⟨b,off,cs,h1,h2,h3,h4⟩:=hrep;obtain⟨hT,_⟩:=eA hc.ty hcond.2;refine⟨_,cs,?_,⟨noF,h4.mono S1 (λ_ _ _ _ h=>h),h4.vrep hT.np⟩,λi hi=>by cases hi⟩;simp only[h1,asAddr,JP,Kc,JF];exact iA hT h4.length h3
   ·cases h
  ·rename_i id n o
   split at h
   ·rename_i hcond
    simp only[Jz]at hcond;have hpar:o.par=false:=by simpa using hcond.1.1.2
    have hh:=bU hcond.1.1.1.1;have hob:=gU hv;obtain⟨b,off,cs',K',m',x',a1,a2,a3⟩:=hrep.2 o hob hcond.1.1.1.2 (.inl hh);rw[cn]at a1;cases a1;simp only[ck,JD,JW]at a2;obtain⟨o1,o2⟩:=(hg.objs id o hob).own hh;obtain⟨hT,_⟩:=eA hc.ty hcond.2;have hld:(do loadVar ty (← asAddr (a.tmps.getD t undef)):Sem Value).run c.P w= .ok (o.K.val (g.cs id)) w:=by
     simp only[a3,asAddr,JP,Kc,JF];exact iA hT o1.length (o2 b off a2.1).1
    have hro:=lJ hg (ids:=id::FZ) (i:=id) JN hob hh
    split at h
    ·cases h
     refine⟨_,g.cs id,hld,⟨noF,lJ hg (hF id (by simp)) hob hh,hro.vrep hT.np⟩,λi hi=>?_⟩
     simp at hi
     subst hi;exact⟨o,hob,hpar⟩
    ·split at h
     ·cases h
      refine⟨_,g.cs id,hld,⟨o1.mono S1 (λ_ _ _ _ h=>h) (λb hb=>⟨id,by simp,.inr hb⟩) (λ_ _ _=>⟨rfl,rfl⟩),hro.vrep hT.np⟩,λi hi=>?_⟩
      simp at hi
      subst hi;exact⟨o,hob,hpar⟩
     ·cases h
   ·cases h
  ·cases h
def rM (tmps:Array Value):ResultVar->Sem Value
 | .tmp t=>pure (tmps.getD t undef)
 | .cell a t=>do loadVar t (← asAddr (tmps.getD a undef))
structure Hj (c:fX) (w:World) (g:Gh) (FZ:List Nat) (a:Act) (l:List (ResultVar×Kd×Md)) (rs:List RV) (ow:List Nat) (vals:List Value) (csr:Nat->List Value) (owI:Nat->List Nat):Prop where
 len:vals.length=l.length/\rs.length=l.length
 run:∀(i:Nat) (q:ResultVar×Kd×Md) (v:Value),l[i]? =some q->vals[i]? =some v->(rM a.tmps q.1).run c.P w= .ok v w
 rep:∀(i:Nat) (r:RV) (v:Value),rs[i]? =some r->vals[i]? =some v->RetRep (g.freeze FZ).S w (λb=>∃id,id∈owI i/\g.has id b) (csr i) r v
 sub:∀i id,id∈owI i->id∈ow
 one:ow.Nodup->∀i k id,id∈owI i->id∈owI k->i=k
 rest:∀i,l.length<=i->owI i=[]
theorem tV {c:fX}(hc:cg c){B:Base}{nt:Nat}{e:Env}{a:Act}{w:World}{g:Gh}(hg:InvG c.P B nt e a w g)(FZ:List Nat):∀(l:List (ResultVar×Kd×Md)) (rs:List RV) (fz ow:List Nat),rL c e l=some (rs,fz,ow)->(∀i,i∈fz->i∈FZ)->
  (∀i,i∈fz++ow->∃o,e.obj i=some (some o)/\o.par=false)/\∃vals csr owI,Hj c w g FZ a l rs ow vals csr owI
 |[],rs,fz,ow,h,_=>by
  simp only[rL,JD,JW]at h;obtain⟨rfl,rfl,rfl⟩:=h;exact⟨(λi hi=>by cases hi),[],λ_=>[],λ_=>[],⟨⟨rfl,rfl⟩,(λi q v h=>by simp at h),(λi r v h=>by simp at h),(λi id h=>by cases h),(λ_ i k id h=>by cases h),λ_ _=>rfl⟩⟩
 |q::l,rs,fz,ow,h,hF=>by
  unfold rL at h
  split at h
  ·rename_i r a1 a2 rs' b1 b2 h1 h2
   cases h;obtain⟨v,cs,k1,k2,k3⟩:=BC hc hg h1 FZ (λi hi=>hF i (KE _ hi));obtain⟨m1,vals,csr,owI,m2⟩:=tV hc hg FZ l rs' b1 b2 h2 (λi hi=>hF i (KC _ hi));have k1':(rM a.tmps q.1).run c.P w= .ok v w:=by
    obtain⟨rv,K,m⟩:=q;cases rv<;>exact k1
   refine⟨λi hi=>?_,v::vals,wF cs csr,wF a2 owI,⟨⟨by simp[m2.len.1],by simp[m2.len.2]⟩,λi q' v' hq hv=>?_,λi r' v' hr hv=>?_,λi id hi=>?_,λhn i k id hi hk=>?_,λi hi=>?_⟩⟩
   ·rcases KP.1 hi with hi|hi<;>rcases KP.1 hi with hi|hi
    ·exact k3 i (KE _ hi)
    ·exact m1 i (KE _ hi)
    ·exact k3 i (KC _ hi)
    ·exact m1 i (KC _ hi)
   ·cases i with
    |zero=>
     simp only[KH,JD]at hq hv;subst hq;subst hv;exact k1'
    |succ i=>exact m2.run i q' v' (by simpa using hq) (by simpa using hv)
   ·cases i with
    |zero=>
     simp only[KH,JD]at hr hv;subst hr;subst hv;exact k2
    |succ i=>exact m2.rep i r' v' (by simpa using hr) (by simpa using hv)
   ·cases i with
    |zero=>exact KE _ hi
    |succ i=>exact KC _ (m2.sub i id hi)
   ·have hn':=Pb.1 hn
    cases i with
    |zero=>
     cases k with
     |zero=>rfl
     |succ k=>exact bH rfl (hn'.2.2 id hi id (m2.sub k id hk))
    |succ i=>
     cases k with
     |zero=>exact bH rfl (hn'.2.2 id hk id (m2.sub i id hi))
     |succ k=>rw[m2.one hn'.2.1 i k id hi hk]
   ·cases i with
    |zero=>simp at hi
    |succ i=>exact m2.rest i (by simpa using hi)
  ·cases h
theorem tW {P:Program}{B:Base}{nt:Nat}{e:Env}{a:Act}{w2:World}{gc g1 g2:Gh}(hg:InvG P B nt e a w2 g1)(hhd:∀j,B.hd j=(gc.pl j,gc.cs j))(hS:∀b,g1.S b->g2.S b):∀(args:List Arg) (j:Nat) (outs:List KV),gV e j args=some outs->(∀k K m x,args[k]? =some (.ms K m x)->gc.pl (j+k)=none)->
  (∀k,k<args.length->∀o,e.obj (j+k)=some (some o)->o.par=true->g2.F (j+k)=g1.F (j+k)/\g2.cs (j+k)=g1.cs (j+k))->fw w2 gc g2 j args outs
 |[],j,outs,h,_,_=>by
  simp only[gV,JD]at h;subst h
  trivial
 |arg::args,j,outs,h,hms,hk=>by
  have tail:∀outs',gV e (j+1) args=some outs'->fw w2 gc g2 (j+1) args outs':=λouts' h'=>tW hg hhd hS args (j+1) outs' h' (λk K m x hkx=>by
   have:=hms (k+1) K m x (by simpa using hkx)
   rwa [show j+(k+1)=j+1+k by omega]at this) (λk hlt o ho hp=>by
   have:=hk (k+1) (by simp;omega) o (by rwa [show j+(k+1)=j+1+k by omega]) hp
   rwa [show j+(k+1)=j+1+k by omega]at this)
  cases arg with
  |ro K x=>have h':gV e (j+1) args=some outs:=h;cases outs<;>exact tail _ h'
  |rp K x=>have h':gV e (j+1) args=some outs:=h;cases outs<;>exact tail _ h'
  |mv K m x=>have h':gV e (j+1) args=some outs:=h;cases outs<;>exact tail _ h'
  |fn Ks Kr f=>have h':gV e (j+1) args=some outs:=h;cases outs<;>exact tail _ h'
  |fc f fs caps=>have h':gV e (j+1) args=some outs:=h;cases outs<;>exact tail _ h'
  |mp K m x=>
   simp only[gV]at h
   split at h
   ·rename_i o ho
    split at h
    ·rename_i hcond
     simp only[Jz]at hcond
     split at h
     ·rename_i r hr
      cases h;have O:=hg.objs j o ho;obtain⟨o1,o2⟩:=O.own (bU hcond.1.1.1.1);have p0:=O.par hcond.1.1.1.2;obtain⟨f1,f2⟩:=hk 0 (by simp) o (by simpa using ho) hcond.1.1.1.2;rw[KY]at f1 f2;have e1:=Ku hcond.1.2;have e2:=Lx hcond.2;have p1:g1.pl j=gc.pl j\/gc.pl j=none:=by
       unfold nH at p0;rw[hhd]at p0
       split at p0
       ·cases hq:gc.pl j with
        |none=>exact .inr rfl
        |some q=>exact .inl ((p0.1 (by simp[hq])).trans hq)
       ·exact .inl p0.1
      refine⟨?_,tail _ hr⟩;obtain⟨K',m',x',b',p',l',h'⟩:=o
      simp only at e1 e2 o1 o2
      subst e1;subst e2;refine⟨x',rfl,?_,?_⟩
      ·rw[f1,f2]
       exact o1.mono hS (λ_ _ _ _ h=>h) (λ_ h=>h) (λ_ _ _=>⟨rfl,rfl⟩)
      ·rw[f2]
       rcases p1 with p1|p1
       ·rw[← p1]
        exact o2
       ·rw[p1]
        exact λb off hq=>by cases hq
     ·cases h
    ·cases h
   ·cases h
  |ms K m x=>
   simp only[gV]at h
   split at h
   ·rename_i o ho
    split at h
    ·rename_i hcond
     simp only[Jz]at hcond
     split at h
     ·rename_i r hr
      cases h;have O:=hg.objs j o ho;obtain⟨o1,o2⟩:=O.own (bU hcond.1.1.1.1);have p0:=O.par hcond.1.1.1.2;obtain⟨f1,f2⟩:=hk 0 (by simp) o (by simpa using ho) hcond.1.1.1.2;rw[KY]at f1 f2;have e1:=Ku hcond.1.2;have e2:=Lx hcond.2;have hbx:o.box=false:=by simpa using hcond.1.1.2
      unfold nH at p0;rw[hbx,Bool.false_and,ao (by simp)]at p0;have p3:=p0.2 rfl;rw[hhd]at p3;refine⟨?_,tail _ hr⟩;obtain⟨K',m',x',b',p',l',h'⟩:=o
      simp only at e1 e2 o1 o2
      subst e1;subst e2;refine⟨x',rfl,?_⟩;rw[f1];rw[show g1.cs j=gc.cs j from p3]at o1;exact o1.mono hS (λ_ _ _ _ h=>h) (λ_ h=>h) (λ_ _ _=>⟨rfl,rfl⟩)
     ·cases h
    ·split at h
     ·rename_i hKK
      split at h
      ·rename_i hcond
       simp only[Jz]at hcond
       split at h
       ·rename_i r hr
        cases h;have O:=hg.objs j o ho;obtain⟨o1,o2⟩:=O.own (bU hcond.1.1.1.1);have p0:=O.par hcond.1.1.1.2;obtain⟨f1,f2⟩:=hk 0 (by simp) o (by simpa using ho) hcond.1.1.1.2;rw[KY]at f1 f2;have e2:=Lx hcond.2;unfold nH at p0;rw[ab (by rw[hcond.1.1.2,hcond.1.2];rfl),hhd]at p0;have p3:=p0.2 (by have:=hms 0 K m x rfl;simpa using this);refine⟨?_,tail _ hr⟩;have e1:=Ku hKK;obtain⟨K',m',x',b',p',l',h'⟩:=o
        simp only at e1 e2 o1 o2
        subst e1;subst e2;refine⟨x',rfl,?_⟩;rw[f1];rw[show g1.cs j=gc.cs j from p3]at o1;exact(Own.st.1 o1).mono hS (λ_ _ _ _ h=>h) (λ_ h=>h) (λ_ _ _=>⟨rfl,rfl⟩)
       ·cases h
      ·cases h
     ·cases h
   ·cases h
theorem qf {α β:Type}{P:Program}{w:World}(f:α->Sem β):∀(l:List α) (vs:List β),vs.length=l.length->(∀(i:Nat) (x:α) (v:β),l[i]? =some x->vs[i]? =some v->(f x).run P w= .ok v w)->(l.mapM f).run P w= .ok vs w
 |[],vs,hl,_=>by
  have:vs=[]:=List.length_eq_zero_iff.1 hl;subst this
  rfl
 |x::l,vs,hl,h=>by
  cases vs with
  |nil=>simp at hl
  |cons v vs=>
   rw[List.mapM_cons];simp only[JP,h 0 x v rfl rfl,JF,qf f l vs (by simpa using hl) (λi x v h1 h2=>h (i+1) x v (by simpa using h1) (by simpa using h2)),Kc]
theorem Hk {c:fX}(hc:cg c){nt:Nat}{d:rK}{args:List Arg}{w w2:World}{gc:Gh}{vals:List Value}(hE:tL c.P w args vals gc){e:Env}{a:Act}{res:pb}(h:jR c d args some e=some res){fn:Func}(hres:fn.results.toList=d.res.map (·.1))
  (hi:Inv c.P (pz w args gc) nt e a w2):a.defers=[]/\∃v g2,(results fn a.tmps).run c.P w2= .ok v w2/\CI w w2 args gc g2 res v:=by
 obtain⟨g1,hg⟩:=hi;refine⟨hg.defers,?_⟩;unfold jR at h
 split at h
 case h_2=>cases h
 rename_i rs fz ow outs hr ho
 split at h
 case isFalse=>cases h
 rename_i hnd;cases h;have hnd:=kb hnd;obtain⟨hobj,rv,csr,owI,R⟩:=tV hc hg fz d.res rs fz ow hr (λi h=>h);have hnd':=Pb.1 hnd;have hfz:=hg.freeze fz (λi hi=>hobj i (KE _ hi))
 let isOut:Nat->Prop:=λj=>∃o,e.obj j=some (some o)/\o.par=true
 have outNot:∀j,isOut j->∀id,id∈fz++ow->j≠id:=by
  rintro j ⟨o,h1,h2⟩ id hid e1;subst e1;obtain⟨o',h3,h4⟩:=hobj j hid;rw[h1]at h3;cases h3;rw[h2]at h4;cases h4
 let g2:Gh:={S:=(g1.freeze fz).S,F:=λj b=>if j<args.length then isOut j/\g1.F j b else∃id,id∈owI (j - args.length)/\g1.has id b,pl:=λ_=>none,cs:=λj=>if j<args.length then g1.cs j else csr (j - args.length)}
 have F2:∀{j b:Nat},g2.F j b->∃id,g1.has id b/\id∉fz/\(g1.F id b\/∃o,e.obj id=some (some o)/\o.par=false)/\((j<args.length/\id=j/\isOut j)\/(args.length<=j/\id∈owI (j - args.length))):=by
  intro j b hF;have hF:(if j<args.length then isOut j/\g1.F j b else∃id,id∈owI (j - args.length)/\g1.has id b):=hF
  split at hF
  ·rename_i hj
   exact⟨j,.inr hF.2,λhm=>outNot j hF.1 j (KE _ hm) rfl,.inl hF.2,.inl ⟨hj,rfl,hF.1⟩⟩
  ·rename_i hj
   obtain⟨id,h1,h2⟩:=hF;exact⟨id,h2,λhm=>hnd'.2.2 id hm id (R.sub _ id h1) rfl,.inr (hobj id (KC _ (R.sub _ id h1))),.inr ⟨by omega,h1⟩⟩
 have fzF:∀{id b:Nat},g1.has id b->id∉fz->(g1.freeze fz).has id b:=by
  intro id b h1 h2;rcases h1 with⟨off,h1⟩|h1
  ·exact .inl ⟨off,by show(if id∈fz then none else g1.pl id)=_;rw[ao h2];exact h1⟩
  ·exact .inr (by show(if id∈fz then False else g1.F id b);rw[ao h2];exact h1)
 have hasB:∀{id b:Nat},g1.has id b->(g1.F id b\/∃o,e.obj id=some (some o)/\o.par=false)->(∃i,gc.F i b)\/w.heap.size<=b:=by
  rintro id b h1 (h2|⟨o,h2,h3⟩)
  ·exact hg.Fb id b h2
  ·rcases h1 with⟨off,h1⟩|h1
   ·rcases(hg.objs id o h2).plx b off h1 with h4|h4
    ·exact h4
    ·rw[h3]at h4;cases h4.1
   ·exact hg.Fb id b h1
 have hrun:(fn.results.mapM (rM a.tmps)).run c.P w2= .ok rv.toArray w2:=by
  rw[Array.mapM_eq_mapM_toList,Sem.run_map,qf (rM a.tmps) fn.results.toList rv (by rw[hres,List.length_map];exact R.len.1) (λi x v h1 h2=>by
   rw[hres,List.getElem?_map,Option.map_eq_some_iff]at h1;obtain⟨q,h3,rfl⟩:=h1;exact R.run i q v h3 h2)]
  rfl
 have hresults:(results fn a.tmps).run c.P w2= .ok (if h:rv.toArray.size=1 then rv.toArray[0]else .tuple rv.toArray) w2:=by
  have e1:results fn a.tmps=(do let vs ← fn.results.mapM (rM a.tmps);pure (if h:vs.size=1 then vs[0]else .tuple vs)):=by
   unfold results
   congr 1
  rw[e1,JP,hrun,JF,Kc]
 refine⟨_,g2,hresults,?_⟩;have repAt:∀(i:Nat) (r:RV) (v:Value),rs[i]? =some r->rv[i]? =some v->RetRep g2.S w2 (g2.F (args.length+i)) (g2.cs (args.length+i)) r v:=by
  intro i r v h1 h2;have h3:=R.rep i r v h1 h2;have eF:g2.F (args.length+i)=λb=>∃id,id∈owI i/\g1.has id b:=by
   funext b
   show(if args.length+i<args.length then _ else∃id,id∈owI (args.length+i - args.length)/\g1.has id b)=_;rw[ao (by omega),N7]
  have eC:g2.cs (args.length+i)=csr i:=by
   show(if args.length+i<args.length then _ else csr (args.length+i - args.length))=_;rw[ao (by omega),N7]
  rw[eF,eC];exact h3
 refine⟨hg.ext,λb hb=>hfz.S0 b hb,λb hb=>hfz.Sb b hb,hfz.Ssz,λj b hF=>?_,λj b hF=>?_,λj b hF hS=>?_,λi j b hne h1 h2=>?_,?_,?_⟩
 ·obtain⟨id,h1,_,h2,_⟩:=F2 hF
  exact hasB h1 h2
 ·obtain⟨id,h1,_⟩:=F2 hF
  exact(hg.has_lt h1).1
 ·obtain⟨id,h1,h2,_⟩:=F2 hF
  exact(hfz.has_lt (fzF h1 h2)).2 hS
 ·obtain⟨id,k1,_,_,k3⟩:=F2 h1
  obtain⟨id',k4,_,_,k6⟩:=F2 h2;have hid:id=id':=hg.has_one k1 k4;subst hid;rcases k3 with⟨_,e1,o1⟩|⟨e0,e1⟩<;>rcases k6 with⟨_,e2,o2⟩|⟨e3,e2⟩
  ·exact hne (e1.symm.trans e2)
  ·exact outNot i o1 id (KC _ (R.sub _ id e2)) e1.symm
  ·exact outNot j o2 id (KC _ (R.sub _ id e1)) e2.symm
  ·have:=R.one hnd'.2.1 _ _ id e1 e2
   omega
 ·refine tW (g2:=g2) hg (λj=>rfl) (λb hb=>Or.inl hb) args 0 outs ho (λk K m x hkx=>by
   have hlt:k<vals.length:=by have:=(Kg.1 hkx).1;have:=hE.len;omega
   have:=hE.arg k _ vals[k] hkx (by simp);rw[Nat.zero_add];exact this.1) (λk hk o hko hp=>?_)
  rw[Nat.zero_add]at hko⊢;refine⟨?_,?_⟩
  ·funext b
   show(if k<args.length then isOut k/\g1.F k b else _)=_;rw[ab hk];exact propext ⟨λh=>h.2,λh=>⟨⟨o,hko,hp⟩,h⟩⟩
  ·show(if k<args.length then g1.cs k else _)=_
   rw[ab hk]
 ·have hl1:rv.length=rs.length:=by rw[R.len.1,R.len.2]
  match rs,hl1,repAt with
  |[],_,_=>trivial
  |[r],hl,hrep=>
   obtain⟨v,hv⟩:∃v,rv=[v]:=List.length_eq_one_iff.1 hl
   subst hv;exact hrep 0 r v rfl rfl
  |r::r2::rs',hl,hrep=>
   have h2:¬rv.toArray.size=1:=by simp at hl⊢;omega
   rw[dif_neg h2];exact⟨rv.toArray,rfl,by simpa using hl,λi r' u h1 h3=>hrep i r' u h1 (by simpa using h3)⟩
inductive An where
 |nil
 |reg (mds:List (Nat×Md))
 |seq (a b:An)
 |cond (a b:An)
 |block (live:Option (List Nat)) (a:An)
 |cut (j:Nat) (live:List Nat)
def An.l:An->An
 | .seq a _=>a
 | .cond a _=>a
 | .block _ a=>a
 |_=>.nil
def An.r:An->An
 | .seq _ b=>b
 | .cond _ b=>b
 |_=>.nil
def An.live:An->Option (List Nat)
 | .block l _=>l
 |_=>none
def An.mds:An->List (Nat×Md)
 | .reg l=>l
 |_=>[]
abbrev Lv:Type:=List (Nat×List Nat)
def Lv.add (lv:Lv)(id:Nat):Option (List Nat)->Lv
 |none=>lv
 |some l=>(id,l)::lv
abbrev tg (Ω:Type):Type:=Nat->Env->(Env->Option Ω)->(Nat->Env->Option Ω)->Option Ω
def oF {Ω:Type}(c:fX)(nt:Nat)(mds:List (Nat×Md))(ops:List Oper):List Oper->Env->List mB->(List mB->Env->Option Ω)->Option Ω
 |[],e,tr,k=>k tr e
 |o::rest,e,tr,k=>match o.guard with
  |none=>qD c nt mds o e λd=>oF c nt mds ops rest (e.apply d) (q6 mds [] o ((KK o).map λx=>e.view (e.opd x)) d::tr) k
  |some (j,want)=>match vQ ops j with
   |none=>none
   |some t=>match e.get t with
    | .v .bool b=>
     if b=want then(let e1:=e.put t (.v .bool want);qD c nt mds o e1 λd=>oF c nt mds ops rest (e1.apply d) (q6 mds [t] o ((KK o).map λx=>e1.view (e1.opd x)) d::tr) k)
     else if pi nt o.dst=true then oF c nt mds ops rest ((e.put t (.v .bool (!want))).apply (tE o.dst)) (⟨[t],[],o.dst.toList,[],[],[]⟩::tr) k else none
    | .un=>if pi nt o.dst=true then oF c nt mds ops rest (e.apply (tE o.dst)) (⟨[t],[],o.dst.toList,[],[],[]⟩::tr) k else none
    |_=>none
def Eqv (e e':Env):Prop:=(∀i,au e'.slots i=au e.slots i)/\(∀i,au e'.objs i=au e.objs i)
theorem Eqv.get {e e':Env}(h:Eqv e e')(i:Nat):e'.get i=e.get i:=by unfold Env.get;rw[h.1]
theorem Eqv.obj {e e':Env}(h:Eqv e e')(i:Nat):e'.obj i=e.obj i:=h.2 i
theorem Eqv.opd {e e':Env}(h:Eqv e e')(x:Operand):e'.opd x=e.opd x:=by
 unfold Env.opd
 split<;>first|rfl|exact h.get _
theorem Eqv.cap {e e':Env}(h:Eqv e e'):e'.cap=e.cap:=by
 funext c
 cases c with
 |rp K x=>rfl
 |pt id n=>show CapV.pt id n (e'.obj id).join=CapV.pt id n (e.obj id).join;rw[h.obj]
theorem Eqv.view {e e':Env}(h:Eqv e e')(s:Slot):e'.view s=e.view s:=by
 unfold Env.view
 split<;>first|rfl|rw[h.obj]|rw[h.cap]
theorem Eqv.views {e e':Env}(h:Eqv e e')(o:Oper):((KK o).map λx=>e'.view (e'.opd x))=(KK o).map λx=>e.view (e.opd x):=
 List.map_congr_left λx _=>by rw[h.opd,h.view]
theorem Eqv.fresh {e e':Env}(h:Eqv e e')(d:Option Nat):fresh e' d=fresh e d:=by
 cases d with
 |none=>rfl
 |some d=>unfold Abs.fresh;simp only[h.obj]
theorem Eqv.apply {e e':Env}(h:Eqv e e')(d:bX):Eqv (e.apply d) (e'.apply d):=by
 refine⟨λi=>?_,λi=>?_⟩
 ·show au (d.slots++e'.slots) i=au (d.slots++e.slots) i
  rw[eI,eI,h.1]
 ·show au (d.objs++e'.objs) i=au (d.objs++e.objs) i
  rw[eI,eI,h.2]
theorem Eqv.put {e e':Env}(h:Eqv e e'){t:Nat}{b:Bool}(hb:e'.get t= .v .bool b):Eqv e (e'.put t (.v .bool b)):=by
 refine⟨λi=>?_,h.2⟩;show au ((t,.v .bool b)::e'.slots) i=_
 by_cases hi:t=i
 ·subst hi
  rw[aQ,← h.1];unfold Env.get at hb
  split at hb
  ·rename_i s hs
   rw[hs,hb]
  ·cases hb
 ·rw[aX hi]
  exact h.1 i
theorem oG {c:fX}(hM:lZ c){Ω:Type}{nt:Nat}{mds:List (Nat×Md)}{ops:List Oper}{k:List mB->Env->Option Ω}{out:Ω}:∀(rest:List Oper) (e e':Env) (tr:List mB),Eqv e e'->oF c nt mds ops rest e' tr k=some out->
  ∃tr0 e0 e0',Eqv e0 e0'/\k tr0 e0'=some out/\∀(Ω0:Type) (k0:List mB->Env->Option Ω0) (out0:Ω0),k0 tr0 e0=some out0->mF c nt mds ops rest e tr k0=some out0
 |[],e,e',tr,hq,h=>⟨tr,e,e',hq,h,λ_ _ _ h=>h⟩
 |o::rest,e,e',tr,hq,h=>by
  have one:∀(e1:Env) (g:List Nat),Eqv e e1->qD c nt mds o e1 (λd=>oF c nt mds ops rest (e1.apply d) (q6 mds g o ((KK o).map λx=>e1.view (e1.opd x)) d::tr) k)=some out->
    ∃tr0 e0 e0',Eqv e0 e0'/\k tr0 e0'=some out/\∀(Ω0:Type) (k0:List mB->Env->Option Ω0) (out0:Ω0),k0 tr0 e0=some out0->
     qD c nt mds o e (λd=>mF c nt mds ops rest (e.apply d) (q6 mds g o ((KK o).map λx=>e.view (e.opd x)) d::tr) k0)=some out0:=by
   intro e1 g hq1 h1;unfold qD at h1;rw[hq1.views,hq1.fresh,Ah hM.uni]at h1;cases hd:Cw c nt mds o ((KK o).map λx=>e.view (e.opd x)) (Abs.fresh e o.dst) some with
   |none=>rw[hd]at h1;cases h1
   |some d=>
    rw[hd]at h1;obtain⟨tr0,e0,e0',a1,a2,a3⟩:=oG hM rest (e.apply d) (e1.apply d) _ (hq1.apply d) h1;refine⟨tr0,e0,e0',a1,a2,λΩ0 k0 out0 hk=>?_⟩;unfold qD;rw[Ah hM.uni,hd];exact a3 Ω0 k0 out0 hk
  unfold oF at h;unfold mF
  split at h
  ·rename_i hg
   simp only[hg];exact one e' [] hq h
  ·rename_i j want hg
   simp only[hg]
   split at h
   ·cases h
   ·rename_i t ht
    simp only[ht]
    split at h
    ·rename_i b hb
     have hb':e.get t= .v .bool b:=by rw[← hq.get];exact hb
     simp only[hb']
     split at h
     ·rename_i hw
      subst hw;simp only[if_true];exact one (e'.put t (.v .bool b)) [t] (hq.put hb) h
     ·rename_i hw
      simp only[hw,if_false]
      split at h
      ·rename_i hs
       simp only[hs,if_true];have hbw:b= !want:=by cases b<;>cases want<;>first|rfl|exact bH rfl hw
       exact oG hM rest _ _ _ ((hq.put (by rw[hb,hbw])).apply _) h
      ·cases h
    ·rename_i hb
     have hb':e.get t= .un:=by rw[← hq.get];exact hb
     simp only[hb']
     split at h
     ·rename_i hs
      simp only[hs,if_true];exact oG hM rest _ _ _ (hq.apply _) h
     ·cases h
    ·cases h
def mA {Ω:Type}(c:fX)(nt:Nat)(T:tg Ω)(kr:Env->Option Ω):Code->An->Lv->(Env->Option Ω)->(Nat->Env->Option Ω)->Env->Option Ω
 |_,.cut j live,_,kn,kx=>λe=>T j (jO e live) kn kx
 | .skip,_,_,kn,_=>kn
 | .region _ ops false,a,_,kn,_=>λe=>qE c nt a.mds ops.toList ops.toList e kn
 | .region _ ops true,a,_,kn,_=>λe=>oF c nt a.mds ops.toList ops.toList e [] λtr e'=>if vS ops.toList tr=true then kn e' else none
 | .seq x y,a,lv,kn,kx=>mA c nt T kr x a.l lv (mA c nt T kr y a.r lv kn kx) kx
 | .cond o x y,a,lv,kn,kx=>λe=>match e.opd o with
  | .v .bool b=>if b=true then mA c nt T kr x a.l lv kn kx e else mA c nt T kr y a.r lv kn kx e
  |_=>none
 | .block id x,a,lv,kn,kx=>mA c nt T kr x a.l (Lv.add lv id a.live) (meet a.live kn) (λj=>if KQ j id=true then kn else kx j)
 | .exit j,_,lv,_,kx=>meet (au lv j) (kx j)
 | .ret,_,_,_,_=>kr
 |_,_,_,_,_=>λ_=>none
def ir:Code->An->List (Nat×Code)
 |x,.cut j _=>[(j,x)]
 | .seq x y,a=>ir x a.l++ir y a.r
 | .cond _ x y,a=>ir x a.l++ir y a.r
 | .block _ x,a=>ir x a.l
 |_,_=>[]
def cQ {Ω:Type}(c:fX)(nt:Nat)(T:tg Ω)(kr:Env->Option Ω)(j:Nat)(x:Code):Prop:=
 ∀(B:Base) (out:Ω) (kn:Env->Option Ω) (kx:Nat->Env->Option Ω) (Q:Exit->Act->World->Prop),
  Fine c.P B nt kn out (Q .normal)->(∀i,Fine c.P B nt (kx i) out (Q (.exit i)))->Fine c.P B nt kr out (Q .ret)->
  Fine c.P B nt (λe=>T j e kn kx) out (λa w=>x.wp c.P Q a w)
section
variable {B:Base} {c:fX} {nt:Nat} {Ω:Type} {out:Ω} {T:tg Ω} {kr:Env->Option Ω}
theorem vd (hc:cg c)(hM:lZ c)(hmix:c.P.follows .mixedOrders=true)(code:Code):∀(ann:An) (lv:Lv) (kn:Env->Option Ω) (kx:Nat->Env->Option Ω) (Q:Exit->Act->World->Prop),
  (∀q,q∈ir code ann->cQ c nt T kr q.1 q.2)->
  Fine c.P B nt kn out (Q .normal)->(∀j,Fine c.P B nt (kx j) out (Q (.exit j)))->Fine c.P B nt kr out (Q .ret)->Fine c.P B nt (mA c nt T kr code ann lv kn kx) out (λa w=>code.wp c.P Q a w):=by
 have cutCase:∀(x:Code) (j:Nat) (live:List Nat) (kn:Env->Option Ω) (kx:Nat->Env->Option Ω) (Q:Exit->Act->World->Prop),cQ c nt T kr j x->Fine c.P B nt kn out (Q .normal)->(∀j,Fine c.P B nt (kx j) out (Q (.exit j)))->Fine c.P B nt kr out (Q .ret)->
   Fine c.P B nt (λe=>T j (jO e live) kn kx) out (λa w=>x.wp c.P Q a w):=by
  intro x j live kn kx Q hU hn hx hr e h a w hi;exact hU B out kn kx Q hn hx hr (jO e live) h a w (rG hi live)
 induction code with
 |skip=>
  intro ann lv kn kx Q hU hn hx hr;cases ann with
  |cut j live=>exact cutCase _ j live kn kx Q (hU (j,_) (Kb.2 rfl)) hn hx hr
  |_=>exact λe h a w hi=>wp_skip (hn e h a w hi)
 |region id ops draw=>
  intro ann lv kn kx Q hU hn hx hr;have key:∀mds,Fine c.P B nt (match draw with
    |false=>λe=>qE c nt mds ops.toList ops.toList e kn
    |true=>λe=>oF c nt mds ops.toList ops.toList e [] λtr e'=>if vS ops.toList tr=true then kn e' else none) out (λa w=>(Code.region id ops draw).wp c.P Q a w):=by
   intro mds e h a w hi;cases draw with
   |false=>
    obtain⟨e',h1,h2⟩:=v8 (B:=B) hc hM (List.range ops.size) ops.toList e kn Bx h;exact wp_region (h2 a w hi Q λa' w' hi'=>hn e' h1 a' w' hi')
   |true=>
    obtain⟨tr0,e0,e1,hq,hk,hD⟩:=oG hM ops.toList e e [] ⟨λ_=>rfl,λ_=>rfl⟩ h
    split at hk
    case isFalse=>cases hk
    rename_i hind;obtain⟨e',h1,h2⟩:=CU (B:=B) (k:=some) hc hM (hD Env (λtr e'=>if vS ops.toList tr=true then some e' else none) e0 (by rw[ab hind]));cases h1;refine wp_region_any hmix (h2 a _ ?_ Q λa' w' hi'=>hn e1 hk a' w' (hi'.congr hq.1 hq.2));obtain⟨g,hg⟩:=hi;exact⟨_,hg.grow (Ext.drew w _)⟩
  cases ann with
  |cut j live=>exact cutCase _ j live kn kx Q (hU (j,_) (Kb.2 rfl)) hn hx hr
  |reg mds=>cases draw<;>exact key mds
  |_=>cases draw<;>exact key []
 |seq x y ihx ihy=>
  intro ann lv kn kx Q hU hn hx hr;have key:∀(a b:An),(∀q,q∈ir x a++ir y b->cQ c nt T kr q.1 q.2)->Fine c.P B nt (mA c nt T kr x a lv (mA c nt T kr y b lv kn kx) kx) out (λa w=>(Code.seq x y).wp c.P Q a w):=by
   intro a1 b1 hU e h a w hi;have hy:=ihy b1 lv kn kx Q (λq hq=>hU q (KC _ hq)) hn hx hr;exact wp_seq (ihx a1 lv _ kx (Exit.then (y.wp c.P Q) Q) (λq hq=>hU q (KE _ hq)) hy hx hr e h a w hi)
  cases ann with
  |cut j live=>exact cutCase _ j live kn kx Q (hU (j,_) (Kb.2 rfl)) hn hx hr
  |_=>exact key _ _ hU
 |cond o x y ihx ihy=>
  intro ann lv kn kx Q hU hn hx hr;have key:∀(a1 b1:An),(∀q,q∈ir x a1++ir y b1->cQ c nt T kr q.1 q.2)->Fine c.P B nt (λe=>match e.opd o with
    | .v .bool b=>if b=true then mA c nt T kr x a1 lv kn kx e else mA c nt T kr y b1 lv kn kx e
    |_=>none) out (λa w=>(Code.cond o x y).wp c.P Q a w):=by
   intro a1 b1 hU e h a w hi;dsimp only at h
   split at h
   ·rename_i b hb
    have hv:a.eval o= .bool b:=by
     obtain⟨g,hg⟩:=hi;have hr:=Inv.eval hg o;rw[hb]at hr;obtain⟨cs,h2,h3⟩:=hr;rw[show cs=[.bool b]from h2]at h3;exact h3.1
    split at h
    ·rename_i hbt
     subst hbt;exact wp_cond_true hv (ihx a1 lv kn kx Q (λq hq=>hU q (KE _ hq)) hn hx hr e h a w hi)
    ·rename_i hbt
     have:b=false:=by simpa using hbt
     subst this;exact wp_cond_false hv (ihy b1 lv kn kx Q (λq hq=>hU q (KC _ hq)) hn hx hr e h a w hi)
   ·cases h
  cases ann with
  |cut j live=>exact cutCase _ j live kn kx Q (hU (j,_) (Kb.2 rfl)) hn hx hr
  |_=>exact key _ _ hU
 |block id x ih=>
  intro ann lv kn kx Q hU hn hx hr;have key:∀(a1:An) (live:Option (List Nat)),(∀q,q∈ir x a1->cQ c nt T kr q.1 q.2)->
    Fine c.P B nt (mA c nt T kr x a1 (Lv.add lv id live) (meet live kn) (λj=>if KQ j id=true then kn else kx j)) out (λa w=>(Code.block id x).wp c.P Q a w):=by
   intro a1 live hU e h a w hi;refine wp_block (ih a1 (Lv.add lv id live) _ _ (Exit.inBlock id Q) hU (hn.meet _) (λj=>?_) hr e h a w hi);intro e1 h1 a1 w1 hi1;show if j=id then Q .normal a1 w1 else Q (.exit j) a1 w1
   by_cases hj:j=id
   ·subst hj
    rw[ab rfl];have h1:(if KQ j j=true then kn else kx j) e1=some out:=h1;rw[ab (Nat.beq_refl j)]at h1;exact hn e1 h1 a1 w1 hi1
   ·rw[ao hj]
    have h1:(if KQ j id=true then kn else kx j) e1=some out:=h1;rw[ao (λhb=>hj (JZ hb))]at h1;exact hx j e1 h1 a1 w1 hi1
  cases ann with
  |cut j live=>exact cutCase _ j live kn kx Q (hU (j,_) (Kb.2 rfl)) hn hx hr
  |_=>exact key _ _ hU
 |exit i=>
  intro ann lv kn kx Q hU hn hx hr;cases ann with
  |cut j live=>exact cutCase _ j live kn kx Q (hU (j,_) (Kb.2 rfl)) hn hx hr
  |_=>exact λe h a w hi=>wp_exit ((hx i).meet (au lv i) e h a w hi)
 |ret=>
  intro ann lv kn kx Q hU hn hx hr;cases ann with
  |cut j live=>exact cutCase _ j live kn kx Q (hU (j,_) (Kb.2 rfl)) hn hx hr
  |_=>exact λe h a w hi=>wp_ret (hr e h a w hi)
 |_=>
  intro ann lv kn kx Q hU hn hx hr;cases ann with
  |cut j live=>exact cutCase _ j live kn kx Q (hU (j,_) (Kb.2 rfl)) hn hx hr
  |_=>exact λe h=>by cases h
theorem BD (hc:cg c)(hM:lZ c)(hmix:c.P.follows .mixedOrders=true){j n:Nat}{x:Code}(a:An)(lv:Lv)(live:List Nat)
  (L:Nat->Env->(Env->Option Ω)->(Nat->Env->Option Ω)->Option Ω) (hT:∀e kn kx,T j e kn kx=L n e kn kx) (h0:∀e kn kx out,L 0 e kn kx=some out->False)
  (hs:∀m e kn kx out,L (m+1) e kn kx=some out->mA c nt T kr x a lv (meet (some live) λe=>L m e kn kx) kx e=some out)
  (hU:∀q,q∈ir x a->cQ c nt T kr q.1 q.2):cQ c nt T kr j (.loop x):=by
 intro B out kn kx Q hn hx hr;have hl:∀m,Fine c.P B nt (λe=>L m e kn kx) out (λa w=>Code.rounds c.P x Q m a w):=by
  intro m
  induction m with
  |zero=>intro e h;exact(h0 _ _ _ _ h).elim
  |succ m ih=>
   intro e h a w hi;rw[rounds_succ];exact vd hc hM hmix x _ lv _ kx (Exit.then (Code.rounds c.P x Q m) Q) hU (ih.meet (some live)) hx hr e (hs m e kn kx out h) a w hi
 intro e h a w hi;have h:T j e kn kx=some out:=h;rw[hT]at h;exact wp_loop_rounds n (hl n e h a w hi)
theorem BE (hc:cg c)(hM:lZ c)(hmix:c.P.follows .mixedOrders=true){j:Nat}{x:Code}(a:An)(lv:Lv)(live:Option (List Nat))
  (hs:∀e kn kx out,T j e kn kx=some out->mA c nt T kr x a lv (meet live kn) kx e=some out)
  (hU:∀q,q∈ir x a->cQ c nt T kr q.1 q.2):cQ c nt T kr j x:=by
 intro B out kn kx Q hn hx hr e h a w hi;exact vd hc hM hmix x _ lv _ kx Q hU (hn.meet live) hx hr e (hs e kn kx out h) a w hi
end
def tX {Ω:Type}(c:fX)(d:rK)(an:An)(T:tg Ω)(args:List Arg)(K:pb->Option Ω):Option Ω:=
 if Nat.ble args.length d.nt=true then mA c d.nt T (jR c d args K) d.code an [] (jR c d args K) (λ_ _=>none) (qe args)else none
theorem Hl {c:fX}(hc:cg c)(hM:lZ c)(hmix:c.P.follows .mixedOrders=true){f:Nat}{d:rK}{an:An}{fn:Func}(hf:c.P.funcs[f]? =some fn)(hb:fn.body=some d.code)(hnt:fn.ntmps=d.nt)(hres:fn.results.toList=d.res.map (·.1))
  {args:List Arg} {Ω:Type} {K:pb->Option Ω} {out:Ω} {res:pb} {T:tg Ω} (hU:∀q,q∈ir d.code an->cQ c d.nt T (jR c d args K) q.1 q.2) (hK:∀r,K r=some out->r=res)
  (h:tX c d an T args K=some out):IR c.P f args res:=by
 intro w vals gc hE;unfold tX at h
 split at h
 ·rename_i hle
  refine calls_of_wp hf hb ?_;rw[hnt];have hend:Fine c.P (pz w args gc) d.nt (jR c d args K) out (λa w2=>a.defers=[]/\∃v,(results fn a.tmps).run c.P w2= .ok v w2/\∃v' g2,(Ending.returned v)= .returned v'/\CI w w2 args gc g2 res v'):=by
   intro e he a w2 hi;rw[D2]at he;cases h1:jR c d args some e with
   |none=>rw[h1]at he;cases he
   |some r=>
    rw[h1]at he;have:=hK r he;subst this;obtain⟨h1,v,g2,h2,h3⟩:=Hk hc hE h1 hres hi;exact⟨h1,v,h2,v,g2,rfl,h3⟩
  exact vd (B:=pz w args gc) hc hM hmix d.code an [] _ _ (bodyPost c.P fn λe w2=>∃v g2,e= .returned v/\CI w w2 args gc g2 res v) hU hend (λj e he=>by cases he) hend (qe args) h _ w (BB hE (Nat.le_of_ble_eq_true hle))
 ·cases h
def iV {K K':Kd}(h:K'.beq K=true)(x:K'.T):K.T:=Ku h▸x
theorem rN {K K':Kd}(h:K'.beq K=true)(x:K'.T):(⟨K',x⟩:KV)=⟨K,iV h x⟩:=by
 have e:=Ku h;subst e
 rfl
inductive PS where
 |inn
 |fst
 |snd
 |idx
@[reducible] def PS.Is:List PS → Type
 |[]=>Unit
 | .idx::l=>Int×PS.Is l
 |_::l=>PS.Is l
def PS.enc:(l:List PS)->PS.Is l->bK
 |[],_=>[]
 | .idx::l,i=>.idx i.1::PS.enc l i.2
 | .inn::l,i=>.inn::PS.enc l i
 | .fst::l,i=>.fst::PS.enc l i
 | .snd::l,i=>.snd::PS.enc l i
def PS.dec:(l:List PS)->bK->Option (PS.Is l)
 |[],[]=>some ()
 | .idx::l,.idx i::p=>match PS.dec l p with|some r=>some ((i,r):Int×PS.Is l)|none=>none
 | .inn::l,.inn::p=>PS.dec l p
 | .fst::l,.fst::p=>PS.dec l p
 | .snd::l,.snd::p=>PS.dec l p
 |_,_=>none
theorem PS.dec_enc:∀(l:List PS) (p:bK) {i:PS.Is l},PS.dec l p=some i->p=PS.enc l i
 |[],[],_,_=>rfl
 | .idx::l,.idx j::p,i,h=>by
  have h':(match PS.dec l p with|some r=>some ((j,r):Int×PS.Is l)|none=>none)=some i:=h
  split at h'
  ·rename_i r hr
   cases h';show _=Step.idx j::PS.enc l r;rw[← PS.dec_enc l p hr]
  ·cases h'
 | .inn::l,.inn::p,i,h=>by show _=Step.inn::PS.enc l i;rw[← PS.dec_enc l p (show PS.dec l p=some i from h)]
 | .fst::l,.fst::p,i,h=>by show _=Step.fst::PS.enc l i;rw[← PS.dec_enc l p (show PS.dec l p=some i from h)]
 | .snd::l,.snd::p,i,h=>by show _=Step.snd::PS.enc l i;rw[← PS.dec_enc l p (show PS.dec l p=some i from h)]
 |[],_::_,_,h=>by cases h
 | .idx::_,[],_,h| .idx::_,.inn::_,_,h| .idx::_,.fst::_,_,h| .idx::_,.snd::_,_,h=>by cases h
 | .inn::_,[],_,h| .inn::_,.idx _::_,_,h| .inn::_,.fst::_,_,h| .inn::_,.snd::_,_,h=>by cases h
 | .fst::_,[],_,h| .fst::_,.idx _::_,_,h| .fst::_,.inn::_,_,h| .fst::_,.snd::_,_,h=>by cases h
 | .snd::_,[],_,h| .snd::_,.idx _::_,_,h| .snd::_,.inn::_,_,h| .snd::_,.fst::_,_,h=>by cases h
inductive Iu where
 |rp (K:Kd)
 |pt (id:Nat)
@[reducible] def F5:List Iu → Type
 |[]=>Unit
 | .rp K::l=>K.T×F5 l
 | .pt _::l=>F5 l
def tY:(l:List Iu)->F5 l->List Cap
 |[],_=>[]
 | .rp K::l,x=>.rp K x.1::tY l x.2
 | .pt id::l,x=>.pt id 0::tY l x
def tZ:(l:List Iu)->List Cap->Option (F5 l)
 |[],[]=>some ()
 | .rp K::l,.rp K' x::r=>if h:K'.beq K=true then(match tZ l r with|some y=>some ((iV h x,y):K.T×F5 l)|none=>none)else none
 | .pt id::l,.pt id' n::r=>if(KQ id' id&&KQ n 0)=true then tZ l r else none
 |_,_=>none
theorem z8:∀(l:List Iu) (r:List Cap) {x:F5 l},tZ l r=some x->r=tY l x
 |[],[],_,_=>rfl
 | .rp K::l,.rp K' y::r,x,h=>by
  have h':(if h:K'.beq K=true then(match tZ l r with|some z=>some ((iV h y,z):K.T×F5 l)|none=>none)else none)=some x:=h
  split at h'
  ·rename_i hk
   split at h'
   ·rename_i z hz
    cases h';show _=Cap.rp K (iV hk y)::tY l z;rw[← z8 l r hz];have e:=Ku hk;subst e
    rfl
   ·cases h'
  ·cases h'
 | .pt id::l,.pt id' n::r,x,h=>by
  have h':(if(KQ id' id&&KQ n 0)=true then tZ l r else none)=some x:=h
  split at h'
  ·rename_i hb
   rw[Jz]at hb;show _=Cap.pt id 0::tY l x;rw[← z8 l r h',JZ hb.1,JZ hb.2]
  ·cases h'
 |[],_::_,_,h=>by cases h
 | .rp _::_,[],_,h=>by cases h
 | .rp _::_,.pt _ _::_,_,h=>by cases h
 | .pt _::_,[],_,h=>by cases h
 | .pt _::_,.rp _ _::_,_,h=>by cases h
inductive Sh where
 |un
 |nils
 |v (K:Kd)
 |rp (K:Kd)
 |al (id:Nat) (p:List PS)
 |pt (id:Nat) (p:List PS)
 |fv (f:Nat) (Fs:List Kd) (cs:List Iu)
 |clo (Ks:List Kd) (Kr:Kd)
@[reducible] def Sh.V:Sh → Type
 | .un=>Unit
 | .nils=>Unit
 | .v K=>K.T
 | .rp K=>K.T
 | .al _ p=>PS.Is p
 | .pt _ p=>PS.Is p
 | .fv _ Fs cs=>Mu Fs×F5 cs
 | .clo Ks Kr=>Mu Ks->Option Kr.T
def ua:(Ks:List Kd)->Mu Ks->List KV
 |[],_=>[]
 |K::Ks,x=>⟨K,x.1⟩::ua Ks x.2
def pA:(Ks:List Kd)->List KV->Option (Mu Ks)
 |[],[]=>some ()
 |K::Ks,⟨K',x⟩::l=>if h:K'.beq K=true then(match pA Ks l with|some r=>some ((iV h x,r):K.T×Mu Ks)|none=>none)else none
 |_,_=>none
theorem qR:∀(Ks:List Kd) (l:List KV) {x:Mu Ks},pA Ks l=some x->l=ua Ks x
 |[],[],_,_=>rfl
 |K::Ks,⟨K',y⟩::l,x,h=>by
  have h':(if h:K'.beq K=true then(match pA Ks l with|some r=>some ((iV h y,r):K.T×Mu Ks)|none=>none)else none)=some x:=h
  split at h'
  ·split at h'
   ·rename_i hk _ r hr
    cases h';show _=(⟨K,iV hk y⟩:KV)::ua Ks r;rw[← qR Ks l hr,rN hk y]
   ·cases h'
  ·cases h'
 |[],_::_,_,h=>by cases h
 |_::_,[],_,h=>by cases h
def Sh.enc:(s:Sh)->s.V->Slot
 | .un,_=>.un
 | .nils,_=>.nils
 | .v K,x=>.v K x
 | .rp K,x=>.rp K x
 | .al id p,i=>.al id 0 (PS.enc p i)
 | .pt id p,i=>.pt id 0 (PS.enc p i)
 | .fv f Fs cs,x=>.fv f (ua Fs x.1) (tY cs x.2)
 | .clo Ks Kr,f=>.clo Ks Kr f
def Ai {Ks Ls:List Kd}{Kr Lr:Kd}(h:(Ot Ls Ks&&Lr.beq Kr)=true)(f:Mu Ls->Option Lr.T):Mu Ks->Option Kr.T:=by
 rw[Jz]at h;rw[← N8 h.1,← Ku h.2];exact f
theorem za {Ks Ls:List Kd}{Kr Lr:Kd}(h:(Ot Ls Ks&&Lr.beq Kr)=true)(f:Mu Ls->Option Lr.T):Slot.clo Ls Lr f=Slot.clo Ks Kr (Ai h f):=by
 have h':=h;rw[Jz]at h';have e1:=N8 h'.1;have e2:=Ku h'.2;subst e1;subst e2
 rfl
theorem BF {Ks Ls:List Kd}{Kr Lr:Kd}(h:(Ot Ls Ks&&Lr.beq Kr)=true)(f:Mu Ls->Option Lr.T):Arg.fn Ls Lr f=Arg.fn Ks Kr (Ai h f):=by
 have h':=h;rw[Jz]at h';have e1:=N8 h'.1;have e2:=Ku h'.2;subst e1;subst e2
 rfl
def Sh.dec:(s:Sh)->Slot->Option s.V
 | .un,.un=>some ()
 | .nils,.nils=>some ()
 | .v K,.v K' x=>if h:K'.beq K=true then some (iV h x)else none
 | .rp K,.rp K' x=>if h:K'.beq K=true then some (iV h x)else none
 | .al id p,.al id' n q=>if(KQ id' id&&KQ n 0)=true then PS.dec p q else none
 | .pt id p,.pt id' n q=>if(KQ id' id&&KQ n 0)=true then PS.dec p q else none
 | .fv f Fs cs,.fv f' l r=>if KQ f' f=true then(match pA Fs l,tZ cs r with|some x,some y=>some ((x,y):Mu Fs×F5 cs)|_,_=>none)else none
 | .clo Ks Kr,.clo Ls Lr f=>if h:(Ot Ls Ks&&Lr.beq Kr)=true then some (Ai h f)else none
 |_,_=>none
theorem Sh.dec_enc {s:Sh}{t:Slot}{x:s.V}(h:s.dec t=some x):t=s.enc x:=by
 have two:∀{id id' n:Nat} {p:List PS} {q:bK} {x:PS.Is p},(if(KQ id' id&&KQ n 0)=true then PS.dec p q else none)=some x->id'=id/\n=0/\q=PS.enc p x:=by
  intro id id' n p q x h
  split at h
  ·rename_i hb
   rw[Jz]at hb;exact⟨JZ hb.1,JZ hb.2,PS.dec_enc _ _ h⟩
  ·cases h
 unfold Sh.dec at h
 split at h
 ·rfl
 ·rfl
 ·split at h
  ·rename_i K K' y hk
   cases h;have:=rN hk y;have e:=Ku hk;subst e
   rfl
  ·cases h
 ·split at h
  ·rename_i K K' y hk
   cases h;have e:=Ku hk;subst e
   rfl
  ·cases h
 ·obtain⟨h1,h2,h3⟩:=two h
  subst h1 h2 h3
  rfl
 ·obtain⟨h1,h2,h3⟩:=two h
  subst h1 h2 h3
  rfl
 ·split at h
  ·rename_i hb
   split at h
   ·rename_i y z hy hz
    cases h;rw[JZ hb,qR _ _ hy,z8 _ _ hz]
    rfl
   ·cases h
  ·cases h
 ·split at h
  ·rename_i hb
   cases h;exact za hb _
  ·cases h
 ·cases h
@[reducible] def Hm:List (Nat × Sh) → Type
 |[]=>Unit
 |(_,s)::l=>s.V×Hm l
def wQ:(l:List (Nat×Sh))->Hm l->List (Nat×Slot)
 |[],_=>[]
 |(t,s)::l,x=>(t,s.enc x.1)::wQ l x.2
def Aj:(l:List (Nat×Sh))->List (Nat×Slot)->Option (Hm l)
 |[],[]=>some ()
 |(t,s)::l,(u,z)::r=>if KQ u t=true then(match s.dec z,Aj l r with|some x,some y=>some ((x,y):s.V×Hm l)|_,_=>none)else none
 |_,_=>none
theorem D3:∀(l:List (Nat×Sh)) (r:List (Nat×Slot)) {x:Hm l},Aj l r=some x->r=wQ l x
 |[],[],_,_=>rfl
 |(t,s)::l,(u,z)::r,x,h=>by
  have h':(if KQ u t=true then(match s.dec z,Aj l r with|some x,some y=>some ((x,y):s.V×Hm l)|_,_=>none)else none)=some x:=h
  split at h'
  ·rename_i hb
   split at h'
   ·rename_i a b ha hb2
    cases h';show _=(t,s.enc a)::wQ l b;rw[← D3 l r hb2,← Sh.dec_enc ha,JZ hb]
   ·cases h'
  ·cases h'
 |[],_::_,_,h=>by cases h
 |(_,_)::_,[],_,h=>by cases h
structure OS where
 id:Nat
 K:Kd
 m:Md
 box:Bool
 par:Bool
 qu:Option (List PS)
@[reducible] def OS.V (o:OS):Type:=match o.qu with
 |none=>o.K.T
 |some _=>o.K.T×Int
@[reducible] def Hn:List OS → Type
 |[]=>Unit
 |o::l=>o.V×Hn l
def zb:List PS->bK
 |[]=>[]
 | .idx::l=>.idx 0::zb l
 | .inn::l=>.inn::zb l
 | .fst::l=>.fst::zb l
 | .snd::l=>.snd::zb l
def OS.enc:(o:OS)->o.V->Obj
 |⟨_,K,m,box,par,none⟩,x=>⟨K,m,x,box,par,[],none⟩
 |⟨_,K,m,box,par,some q⟩,x=>⟨K,m,x.1,box,par,[],some (Il (zb q) x.2)⟩
def Ak (l:List (Option bK)):Bool:=match l with|[]=>true|_=>false
def Iv (l:Option bK):Bool:=match l with|none=>true|_=>false
def Gf (b:Obj)(q:List PS):Option Int:=match b.hl with
 |some h=>(match EC h with|some (q',off)=>if H3 q' (zb q)=true then some off else none|none=>none)
 |none=>none
def OS.dec:(o:OS)->Obj->Option o.V
 |⟨_,K,m,box,par,none⟩,b=>if h:b.K.beq K=true then(if(b.m.beq m&&(b.box==box)&&(b.par==par)&&Ak b.log&&Iv b.hl)=true then some (iV h b.x)else none)else none
 |⟨_,K,m,box,par,some q⟩,b=>if h:b.K.beq K=true then(if(b.m.beq m&&(b.box==box)&&(b.par==par)&&Ak b.log)=true then(match Gf b q with|some off=>some ((iV h b.x,off):K.T×Int)|none=>none)else none)else none
theorem oH:∀{h q:bK} {off:Int},EC h=some (q,off)->h=Il q off
 |[],_,_,h=>by cases h
 |[.idx i,.fst],q,off,h=>by cases h;rfl
 |[.idx i],_,_,h=>by cases h
 |[.inn],_,_,h=>by cases h
 |[.fst],_,_,h=>by cases h
 |[.snd],_,_,h=>by cases h
 | .inn::s::p,q,off,h=>by
  have h':(match EC (s::p)with|some (q,i)=>some (Step.inn::q,i)|none=>none)=some (q,off):=h
  split at h'
  ·rename_i q' i' hr;cases h';rw[oH hr];rfl
  ·cases h'
 | .fst::s::p,q,off,h=>by
  have h':(match EC (s::p)with|some (q,i)=>some (Step.fst::q,i)|none=>none)=some (q,off):=h
  split at h'
  ·rename_i q' i' hr;cases h';rw[oH hr];rfl
  ·cases h'
 | .snd::s::p,q,off,h=>by
  have h':(match EC (s::p)with|some (q,i)=>some (Step.snd::q,i)|none=>none)=some (q,off):=h
  split at h'
  ·rename_i q' i' hr;cases h';rw[oH hr];rfl
  ·cases h'
 | .idx j::s::s2::p,q,off,h=>by
  have h':(match EC (s::s2::p)with|some (q,i)=>some (Step.idx j::q,i)|none=>none)=some (q,off):=by
   cases s<;>exact h
  split at h'
  ·rename_i q' i' hr;cases h';rw[oH hr];rfl
  ·cases h'
 |[.idx j,.inn],q,off,h=>by cases h
 |[.idx j,.snd],q,off,h=>by cases h
 |[.idx j,.idx _],q,off,h=>by cases h
theorem OS.dec_enc:∀{o:OS} {b:Obj} {x:o.V},o.dec b=some x->b=o.enc x
 |⟨id,oK,om,obox,opar,none⟩,b,x,h=>by
  have h':(if h:b.K.beq oK=true then(if(b.m.beq om&&(b.box==obox)&&(b.par==opar)&&Ak b.log&&Iv b.hl)=true then some (iV h b.x)else none)else none)=some x:=h
  split at h'
  ·rename_i hk
   split at h'
   ·rename_i hb
    cases h';simp only[Jz]at hb;obtain⟨⟨⟨⟨h2,h3⟩,h4⟩,h5⟩,h6⟩:=hb;obtain⟨K,m,z,box,par,log,hl⟩:=b;have e:=Ku hk;have e2:=Lx h2;have e3:=eq_of_beq h3;have e4:=eq_of_beq h4;dsimp only at e e2 e3 e4;subst e e2 e3 e4;cases log with
    |cons _ _=>cases h5
    |nil=>
     cases hl with
     |some _=>cases h6
     |none=>rfl
   ·cases h'
  ·cases h'
 |⟨id,oK,om,obox,opar,some q⟩,b,x,h=>by
  have h':(if h:b.K.beq oK=true then(if(b.m.beq om&&(b.box==obox)&&(b.par==opar)&&Ak b.log)=true then(match Gf b q with|some off=>some ((iV h b.x,off):oK.T×Int)|none=>none)else none)else none)=some x:=h
  split at h'
  ·rename_i hk
   split at h'
   ·rename_i hb
    split at h'
    ·rename_i off ho
     cases h';simp only[Jz]at hb;obtain⟨⟨⟨h2,h3⟩,h4⟩,h5⟩:=hb;obtain⟨K,m,z,box,par,log,hl⟩:=b;have e:=Ku hk;have e2:=Lx h2;have e3:=eq_of_beq h3;have e4:=eq_of_beq h4;dsimp only at e e2 e3 e4;subst e e2 e3 e4;cases log with
     |cons _ _=>cases h5
     |nil=>
      cases hl with
      |none=>cases ho
      |some hh=>
       have ho':(match EC hh with|some (q',off)=>if H3 q' (zb q)=true then some off else none|none=>none)=some off:=ho
       split at ho'
       ·rename_i q' off' hq
        split at ho'
        ·rename_i he
         cases ho';rw[oH hq,(rh he).1]
         rfl
        ·cases ho'
       ·cases ho'
    ·cases h'
   ·cases h'
  ·cases h'
def wU:(l:List OS)->Hn l->List (Nat×Option Obj)
 |[],_=>[]
 |o::l,x=>(o.id,some (o.enc x.1))::wU l x.2
def Al:(l:List OS)->List (Nat×Option Obj)->Option (Hn l)
 |[],[]=>some ()
 |o::l,(u,some b)::r=>if KQ u o.id=true then(match o.dec b,Al l r with|some x,some y=>some ((x,y):o.V×Hn l)|_,_=>none)else none
 |_,_=>none
theorem D4:∀(l:List OS) (r:List (Nat×Option Obj)) {x:Hn l},Al l r=some x->r=wU l x
 |[],[],_,_=>rfl
 |o::l,(u,some b)::r,x,h=>by
  have h':(if KQ u o.id=true then(match o.dec b,Al l r with|some x,some y=>some ((x,y):o.V×Hn l)|_,_=>none)else none)=some x:=h
  split at h'
  ·rename_i hb
   split at h'
   ·rename_i z y hz hy
    cases h';show _=(o.id,some (o.enc z))::wU l y;rw[← D4 l r hy,← OS.dec_enc hz,JZ hb]
   ·cases h'
  ·cases h'
 |[],_::_,_,h=>by cases h
 |_::_,[],_,h=>by cases h
 |_::_,(_,none)::_,_,h=>by cases h
structure ES where
 s:List (Nat×Sh)
 o:List OS
@[reducible] def ES.V (S:ES):Type:=Hm S.s × Hn S.o
def ES.enc (S:ES)(x:S.V):Env:=⟨wQ S.s x.1,wU S.o x.2⟩
def ES.dec (S:ES)(e:Env):Option S.V:=match Aj S.s e.slots,Al S.o e.objs with|some a,some b=>some (a,b)|_,_=>none
theorem ES.dec_enc {S:ES}{e:Env}{x:S.V}(h:S.dec e=some x):e=S.enc x:=by
 unfold ES.dec at h
 split at h
 ·rename_i a b ha hb
  cases h;obtain⟨es,eo⟩:=e;show _=(⟨wQ S.s a,wU S.o b⟩:Env);rw[← D3 _ _ ha,← D4 _ _ hb]
 ·cases h
def ES.on {α:Type}(S:ES)(e:Env)(k:S.V->Option α):Option α:=match S.dec e with|some x=>k x|none=>none
theorem ES.on_inv {α:Type}{S:ES}{e:Env}{k:S.V->Option α}{out:α}(h:S.on e k=some out):∃x,e=S.enc x/\k x=some out:=by
 unfold ES.on at h
 split at h
 ·rename_i x hx
  exact⟨x,ES.dec_enc hx,h⟩
 ·cases h
inductive ASh where
 |ro (K:Kd)
 |rp (K:Kd)
 |mp (K:Kd) (m:Md)
 |ms (K:Kd) (m:Md)
 |mv (K:Kd) (m:Md)
 |fn (Ks:List Kd) (Kr:Kd)
 |fc (f:Nat) (Fs Ks:List Kd)
def ASh.am:ASh->AM
 | .ro _=>.ro
 | .rp _=>.rp
 | .mp _ _=>.mp
 | .ms _ _=>.ms
 | .mv _ _=>.mv
 | .fn Ks Kr=>.fn Ks Kr
 | .fc f Fs Ks=>.fc f Fs Ks
@[reducible] def ASh.V:ASh → Type
 | .ro K=>K.T
 | .rp K=>K.T
 | .mp K _=>K.T
 | .ms K _=>K.T
 | .mv K _=>K.T
 | .fn Ks Kr=>Mu Ks->Option Kr.T
 | .fc _ Fs Ks=>Mu Fs×Mu Ks
def ASh.enc:(s:ASh)->s.V->Arg
 | .ro K,x=>.ro K x
 | .rp K,x=>.rp K x
 | .mp K m,x=>.mp K m x
 | .ms K m,x=>.ms K m x
 | .mv K m,x=>.mv K m x
 | .fn Ks Kr,x=>.fn Ks Kr x
 | .fc f Fs Ks,x=>.fc f (ua Fs x.1) (ua Ks x.2)
def ASh.dec:(s:ASh)->Arg->Option s.V
 | .ro K,.ro K' x=>if h:K'.beq K=true then some (iV h x)else none
 | .rp K,.rp K' x=>if h:K'.beq K=true then some (iV h x)else none
 | .mp K m,.mp K' m' x=>if h:K'.beq K=true then(if m'.beq m=true then some (iV h x)else none)else none
 | .ms K m,.ms K' m' x=>if h:K'.beq K=true then(if m'.beq m=true then some (iV h x)else none)else none
 | .mv K m,.mv K' m' x=>if h:K'.beq K=true then(if m'.beq m=true then some (iV h x)else none)else none
 | .fn Ks Kr,.fn Ls Lr f=>if h:(Ot Ls Ks&&Lr.beq Kr)=true then some (Ai h f)else none
 | .fc f Fs Ks,.fc g l r=>if KQ g f=true then(match pA Fs l,pA Ks r with|some x,some y=>some ((x,y):Mu Fs×Mu Ks)|_,_=>none)else none
 |_,_=>none
theorem ASh.dec_enc {s:ASh}{a:Arg}{x:s.V}(h:s.dec a=some x):a=s.enc x:=by
 unfold ASh.dec at h
 split at h
 ·split at h
  ·rename_i K K' y hk
   cases h;have e:=Ku hk;subst e
   rfl
  ·cases h
 ·split at h
  ·rename_i K K' y hk
   cases h;have e:=Ku hk;subst e
   rfl
  ·cases h
 ·split at h
  ·rename_i K m K' m' y hk
   split at h
   ·rename_i hm
    cases h;have e:=Ku hk;have e2:=Lx hm;subst e e2
    rfl
   ·cases h
  ·cases h
 ·split at h
  ·rename_i K m K' m' y hk
   split at h
   ·rename_i hm
    cases h;have e:=Ku hk;have e2:=Lx hm;subst e e2
    rfl
   ·cases h
  ·cases h
 ·split at h
  ·rename_i K m K' m' y hk
   split at h
   ·rename_i hm
    cases h;have e:=Ku hk;have e2:=Lx hm;subst e e2
    rfl
   ·cases h
  ·cases h
 ·split at h
  ·rename_i hb
   cases h;exact BF hb _
  ·cases h
 ·split at h
  ·rename_i hb
   split at h
   ·rename_i y z hy hz
    cases h;rw[JZ hb,qR _ _ hy,qR _ _ hz]
    rfl
   ·cases h
  ·cases h
 ·cases h
@[reducible] def jH:List ASh → Type
 |[]=>Unit
 |s::l=>s.V×jH l
def eJ:(l:List ASh)->jH l->List Arg
 |[],_=>[]
 |s::l,x=>s.enc x.1::eJ l x.2
def wV:(l:List ASh)->List Arg->Option (jH l)
 |[],[]=>some ()
 |s::l,a::r=>match s.dec a,wV l r with|some x,some y=>some ((x,y):s.V×jH l)|_,_=>none
 |_,_=>none
theorem D5:∀(l:List ASh) (r:List Arg) {x:jH l},wV l r=some x->r=eJ l x
 |[],[],_,_=>rfl
 |s::l,a::r,x,h=>by
  have h':(match s.dec a,wV l r with|some x,some y=>some ((x,y):s.V×jH l)|_,_=>none)=some x:=h
  split at h'
  ·rename_i y z hy hz
   cases h';show _=s.enc y::eJ l z;rw[← D5 l r hz,← ASh.dec_enc hy]
  ·cases h'
 |[],_::_,_,h=>by cases h
 |_::_,[],_,h=>by cases h
inductive RSh where
 |ro (K:Kd)
 |own (K:Kd) (m:Md)
 |out (K:Kd)
 |bx (K:Kd) (m:Md)
@[reducible] def RSh.K:RSh → Kd
 | .ro K=>K
 | .own K _=>K
 | .out K=>K
 | .bx K _=>K
@[reducible] def jS:List RSh → Type
 |[]=>Unit
 |[s]=>s.K.T
 |s::s2::l=>s.K.T×jS (s2::l)
def Ho (s:RSh)(x:s.K.T)(r:pb):pb:=match s,x with
 | .ro K,x=>⟨.ro K x::r.rets,r.outs⟩
 | .own K m,x=>⟨.own K m x::r.rets,r.outs⟩
 | .out K,x=>⟨r.rets,⟨K,x⟩::r.outs⟩
 | .bx K m,x=>⟨.bx K m x::r.rets,r.outs⟩
def rO:(l:List RSh)->jS l->pb
 |[],_=>⟨[],[]⟩
 |[s],x=>Ho s x ⟨[],[]⟩
 |s::s2::l,x=>Ho s x.1 (rO (s2::l) x.2)
def BG {α:Type}(s:RSh)(r:pb)(k:s.K.T->pb->Option α):Option α:=match s,k with
 | .ro K,k=>match r with
  |⟨.ro K' x::l,o⟩=>if h:K'.beq K=true then k (iV h x) ⟨l,o⟩else none
  |_=>none
 | .own K m,k=>match r with
  |⟨.own K' m' x::l,o⟩=>if h:K'.beq K=true then(if m'.beq m=true then k (iV h x) ⟨l,o⟩else none)else none
  |_=>none
 | .out K,k=>match r with
  |⟨l,⟨K',x⟩::o⟩=>if h:K'.beq K=true then(if l.isEmpty=true then k (iV h x) ⟨l,o⟩else none)else none
  |_=>none
 | .bx K m,k=>match r with
  |⟨.bx K' m' x::l,o⟩=>if h:K'.beq K=true then(if m'.beq m=true then k (iV h x) ⟨l,o⟩else none)else none
  |_=>none
theorem wW {α:Type}{s:RSh}{r:pb}{k:s.K.T->pb->Option α}{out:α}(h:BG s r k=some out):∃x r2,r=Ho s x r2/\k x r2=some out:=by
 unfold BG at h
 split at h
 ·split at h
  ·split at h
   ·rename_i K k0 K' x l o hk
    refine⟨_,_,?_,h⟩;have e:=Ku hk;subst e
    rfl
   ·cases h
  ·cases h
 ·split at h
  ·split at h
   ·rename_i K m k0 K' m' x l o hk
    split at h
    ·rename_i hm
     refine⟨_,_,?_,h⟩;have e:=Ku hk;have e2:=Lx hm;subst e e2
     rfl
    ·cases h
   ·cases h
  ·cases h
 ·split at h
  ·split at h
   ·rename_i K k0 l K' x o hk
    split at h
    ·refine⟨_,_,?_,h⟩
     have e:=Ku hk;subst e
     rfl
    ·cases h
   ·cases h
  ·cases h
 ·split at h
  ·split at h
   ·rename_i K m k0 K' m' x l o hk
    split at h
    ·rename_i hm
     refine⟨_,_,?_,h⟩;have e:=Ku hk;have e2:=Lx hm;subst e e2
     rfl
    ·cases h
   ·cases h
  ·cases h
def pB {α:Type}(r:pb)(x:α):Option α:=match r with|⟨[],[]⟩=>some x|_=>none
def iu:(l:List RSh)->pb->Option (jS l)
 |[],r=>pB r ()
 |[s],r=>BG s r λx r=>pB r x
 |s::s2::l,r=>BG s r λx r=>match iu (s2::l) r with|some y=>some ((x,y):s.K.T×jS (s2::l))|none=>none
theorem rP {α:Type}{r:pb}{x y:α}(h:pB r x=some y):r=⟨[],[]⟩/\x=y:=by
 unfold pB at h
 split at h
 ·cases h;exact⟨rfl,rfl⟩
 ·cases h
theorem D6:∀(l:List RSh) (r:pb) {x:jS l},iu l r=some x->r=rO l x
 |[],r,x,h=>(rP (show pB r ()=some x from h)).1
 |[s],r,x,h=>by
  obtain⟨y,r2,h1,h2⟩:=wW (show BG s r (λx r=>pB r x)=some x from h);obtain⟨h3,h4⟩:=rP h2;rw[h1,h3,h4]
  rfl
 |s::s2::l,r,x,h=>by
  obtain⟨y,r2,h1,h2⟩:=wW (show BG s r (λx r=>match iu (s2::l) r with|some y=>some ((x,y):s.K.T×jS (s2::l))|none=>none)=some x from h)
  split at h2
  ·rename_i z hz
   cases h2;rw[h1,D6 (s2::l) r2 hz]
   rfl
  ·cases h2
structure ip where
 a:List ASh
 r:List RSh
 F:jH a->Option (jS r)
def zd:List (Nat×ip)->Nat->List ip
 |[],_=>[]
 |(i,x)::l,n=>if KQ i n=true then x::zd l n else zd l n
theorem oI:∀{l:List (Nat×ip)} {n:Nat} {e:ip},e∈zd l n->(n,e)∈l
 |(i,x)::l,n,e,h=>by
  have h':e∈(if KQ i n=true then x::zd l n else zd l n):=h
  split at h'
  ·rename_i hb
   rcases List.mem_cons.1 h' with rfl|h'
   ·rw[JZ hb]
    exact JN
   ·exact JR _ (oI h')
  ·exact JR _ (oI h')
 |[],n,e,h=>by cases h
def ze {Ω:Type}:List ip->List Arg->(pb->Option Ω)->Option Ω
 |[],_,_=>none
 |e::l,args,K=>match wV e.a args with
  |some v=>(e.F v).bind λr=>K (rO e.r r)
  |none=>ze l args K
def mkM (tb:List (Nat×ip)):zU:=λf args {_} K=>ze (zd tb f) args K
def jJ (P:Program)(ty:List (Nat×Kd))(tb:List (Nat×ip)):fX:=⟨P,ty,λf=>(zd tb f).map λe=>e.a.map ASh.am,mkM tb⟩
structure aq (P:Program) (f:Nat) (e:ip):Prop where
 body:∃fn,P.funcs[f]? =some fn/\fn.name≠ "runtime.NumGoroutine" /\fn.body.isNone=false
 ans:∀v r,e.F v=some r->IR P f (eJ e.a v) (rO e.r r)
theorem wX {Ω:Type}:∀(l:List ip) (args:List Arg) (K:pb->Option Ω),ze l args K=(ze l args some).bind K
 |[],_,_=>rfl
 |e::l,args,K=>by
  unfold ze;cases wV e.a args with
  |none=>exact wX l args K
  |some v=>
   dsimp only;cases e.F v<;>rfl
theorem Am {P:Program}{f:Nat}{Ω:Type}:∀{l:List ip} {args:List Arg} {K:pb->Option Ω} {out:Ω},(∀e,e∈l->aq P f e)->ze l args K=some out->∃res,K res=some out/\IR P f args res
 |[],_,_,_,_,h=>by cases h
 |e::l,args,K,out,hl,h=>by
  unfold ze at h
  split at h
  ·rename_i v hv
   cases hr:e.F v with
   |none=>rw[hr]at h;cases h
   |some r=>
    rw[hr]at h;refine⟨rO e.r r,h,?_⟩;rw[D5 _ _ hv];exact(hl e JN).ans v r hr
  ·exact Am (λe he=>hl e (JR _ he)) h
theorem fN {P:Program}{ty:List (Nat×Kd)}{tb:List (Nat×ip)}(h:∀q,q∈tb->aq P q.1 q.2):lZ (jJ P ty tb) where
 uni:=λf args Ω K=>wX _ _ _
 body:=by
  intro f ams hs;obtain⟨e,he,_⟩:=List.mem_map.1 hs;exact(h _ (oI he)).body
 ans:=λf args Ω K out hm=>Am (λe he=>h _ (oI he)) hm
theorem Hp {c:fX}(hc:cg c)(hM:lZ c)(hmix:c.P.follows .mixedOrders=true){f:Nat}{e:ip}{d:rK}{an:An}{fn:Func}(hf:c.P.funcs[f]? =some fn)(hb:fn.body=some d.code)(hn:(fn.name== "runtime.NumGoroutine")=false)
  (hnt:fn.ntmps=d.nt) (hres:fn.results.toList=d.res.map (·.1)) (T:(v:jH e.a)->tg (jS e.r))
  (hU:∀v q,q∈ir d.code an->cQ c d.nt (T v) (jR c d (eJ e.a v) (iu e.r)) q.1 q.2)
  (h:∀v,tX c d an (T v) (eJ e.a v) (iu e.r)=e.F v):aq c.P f e where
 body:=⟨fn,hf,(by intro h1;rw[h1]at hn;exact bH hn (by simp)),by rw[hb];rfl⟩
 ans:=by
  intro v r hr;rw[← h v]at hr;exact Hl hc hM hmix hf hb hnt hres (hU v) (λq hq=>D6 _ _ hq) hr
def Code.l:Code->Code
 | .seq a _=>a
 | .block _ a=>a
 | .loop a=>a
 | .cond _ a _=>a
 |c=>c
def Code.r:Code->Code
 | .seq _ b=>b
 | .cond _ _ b=>b
 |c=>c
universe u
theorem bD {α:Type u}{p:α->Prop}:∀q,q∈([]:List α)->p q:=λ_ h=>by cases h
theorem mem_cons {α:Type u}{p:α->Prop}{a:α}{l:List α}(h:p a)(h2:∀q,q∈l->p q):∀q,q∈a::l->p q:=λq hq=>by
 cases hq with
 |head=>exact h
 |tail _ hq=>exact h2 q hq
theorem rQ {p:Nat×Code->Prop}{x:Code}{a:An}{l:List (Nat×Code)}(h:ir x a=l)(h2:∀q,q∈l->p q):∀q,q∈ir x a->p q:=by rw[h];exact h2
theorem BH {P:Program}{ty:List (Nat×Kd)}{tb:List (Nat×ip)}(h:TysOk P ty):cg (jJ P ty tb):=⟨h⟩
theorem gw {P:Program}{f:Nat}{e:ip}(fn:Func)(hf:P.funcs[f]? =some fn)(hb:fn.body.isNone=false)(hn:(fn.name== "runtime.NumGoroutine")=false)(h:∀v,e.F v=none):aq P f e where
 body:=⟨fn,hf,(by intro h1;rw[h1]at hn;exact bH hn (by simp)),hb⟩
 ans:=by intro v r hr;rw[h v]at hr;cases hr
def Kd.pv:(K:Kd)->K.T->Value
 | .int k,n=>.int k n
 | .bool,b=>.bool b
 | .str,s=>.string s
 |_,_=>undef
def Kd.plain:Kd->Bool
 | .int _=>true
 | .bool=>true
 | .str=>true
 |_=>false
theorem RO.pv {S:Nat->Prop}{w:World}{K:Kd}{x:K.T}{cs:List Value}{v:Value}(hK:K.plain=true)(h:RO S w K x cs)(hv:VRep K cs v):v=K.pv x:=by
 cases K with
 |int k=>rw[show cs=[.int k x]from h]at hv;exact hv.1
 |bool=>rw[show cs=[.bool x]from h]at hv;exact hv.1
 |str=>rw[show cs=[.string x]from h]at hv;exact hv.1
 |_=>cases hK
@[reducible] def wY (Ks:List Kd):List ASh:=Ks.map ASh.ro
@[reducible] def BI (Ks:List Kd):List RSh:=Ks.map RSh.ro
def Ao:(Ks:List Kd)->jH (wY Ks)->List Value
 |[],_=>[]
 |K::Ks,x=>K.pv x.1::Ao Ks x.2
theorem Ap {w2:World}{g g2:Gh}:∀(Ks:List Kd) (v:jH (wY Ks)) (j:Nat),fw w2 g g2 j (eJ (wY Ks) v) []
 |[],_,_=>trivial
 |_::Ks,v,j=>Ap Ks v.2 (j+1)
def Rep0 (K:Kd)(x:K.T)(v:Value):Prop:=∃cs,(∀(S:Nat->Prop) (w:World),RO S w K x cs)/\VRep K cs v
theorem Rep0.int {k:IntKind}{n:Int}:Rep0 (.int k) n (.int k n):=⟨_,λ_ _=>rfl,rfl,rfl⟩
theorem Rep0.bool {b:Bool}:Rep0 .bool b (.bool b):=⟨_,λ_ _=>rfl,rfl,rfl⟩
theorem Rep0.str {s:ByteArray}:Rep0 .str s (.string s):=⟨_,λ_ _=>rfl,rfl,rfl⟩
theorem Rep0.noErr:Rep0 .err false .nilIface:=⟨_,λ_ _=>⟨_,rfl,.inl ⟨rfl,rfl⟩⟩,rfl,rfl⟩
theorem Rep0.anErr {t:TypeId}{p:Value}:Rep0 .err true (.iface t p):=⟨_,λ_ _=>⟨_,rfl,.inr ⟨rfl,t,p,rfl⟩⟩,rfl,rfl⟩
def D7:(Rs:List Kd)->jS (BI Rs)->Value->Prop
 |[K],x,v=>Rep0 K x v
 |[K,L],x,v=>∃a b,v= .tuple #[a,b]/\Rep0 K x.1 a/\Rep0 L x.2 b
 |[K,L,M],x,v=>∃a b c,v= .tuple #[a,b,c]/\Rep0 K x.1 a/\Rep0 L x.2.1 b/\Rep0 M x.2.2 c
 |_,_,_=>False
theorem Iw {w2:World}{g:Gh}{n:Nat}:∀(Rs:List Kd) (r:jS (BI Rs)) (v:Value),D7 Rs r v->(∀i b,¬g.F (n+i) b)->∃cs,qO w2 {g with cs:=cs} n (rO (BI Rs) r).rets v
 |[],_,_,h,_=>h.elim
 |[K],x,v,h,hrest=>by
  obtain⟨cs,h1,h2⟩:=h;exact⟨λ_=>cs,hrest 0,h1 _ _,h2⟩
 |[K,L],x,v,h,hrest=>by
  obtain⟨a,b,rfl,⟨c1,p1,p2⟩,c2,q1,q2⟩:=h;refine⟨λi=>if i=n then c1 else c2,_,rfl,rfl,λi rr u hi hu=>?_⟩
  match i,hi,hu with
  |0,hi,hu=>
   cases hi;cases hu;refine⟨hrest 0,?_,?_⟩
   ·simp only[KY,if_true];exact p1 _ _
   ·simp only[KY,if_true];exact p2
  |1,hi,hu=>
   cases hi;cases hu;refine⟨hrest 1,?_,?_⟩
   ·dsimp only;rw[ao (by omega)];exact q1 _ _
   ·dsimp only;rw[ao (by omega)];exact q2
  |i+2,hi,hu=>cases hi
 |[K,L,M],x,v,h,hrest=>by
  obtain⟨a,b,c,rfl,⟨c1,p1,p2⟩,⟨c2,q1,q2⟩,c3,s1,s2⟩:=h;refine⟨λi=>if i=n then c1 else if i=n+1 then c2 else c3,_,rfl,rfl,λi rr u hi hu=>?_⟩
  match i,hi,hu with
  |0,hi,hu=>
   cases hi;obtain rfl:a=u:=by simpa using hu
   refine⟨hrest 0,?_,?_⟩
   ·dsimp only;rw[ab (by omega)];exact p1 _ _
   ·dsimp only;rw[ab (by omega)];exact p2
  |1,hi,hu=>
   cases hi;obtain rfl:b=u:=by simpa using hu
   refine⟨hrest 1,?_,?_⟩
   ·dsimp only;rw[ao (by omega),ab (by omega)];exact q1 _ _
   ·dsimp only;rw[ao (by omega),ab (by omega)];exact q2
  |2,hi,hu=>
   cases hi;obtain rfl:c=u:=by simpa using hu
   refine⟨hrest 2,?_,?_⟩
   ·dsimp only;rw[ao (by omega),ao (by omega)];exact s1 _ _
   ·dsimp only;rw[ao (by omega),ao (by omega)];exact s2
  |i+3,hi,hu=>cases hi
 |_::_::_::_::_,_,_,h,_=>h.elim
def ve (S:Nat->Prop)(w:World):(Ks:List Kd)->jH (wY Ks)->List Value->Prop
 |[],_,vs=>vs=[]
 |K::Ks,x,vs=>∃v r cs,vs=v::r/\RO S w K x.1 cs/\VRep K cs v/\ve S w Ks x.2 r
theorem rR {P:Program}{w:World}{S:Nat->Prop}:∀(Ks:List Kd) (v:jH (wY Ks)) (vals:List Value),vals.length=(eJ (wY Ks) v).length->
  (∀(j:Nat) a x,(eJ (wY Ks) v)[j]? =some a->vals[j]? =some x->∃F pl cs,px P S w F pl cs a x)->ve S w Ks v vals
 |[],_,[],_,_=>rfl
 |[],_,_::_,h,_=>by cases h
 |K::Ks,v,[],h,_=>by cases h
 |K::Ks,v,x::vals,hl,h=>by
  obtain⟨F,pl,cs,_,_,cs',h1,h2⟩:=h 0 (.ro K v.1) x rfl rfl;exact⟨x,vals,cs',rfl,h1,h2,rR Ks v.2 vals (Nat.succ.inj hl) (λj a y ha hy=>h (j+1) a y ha (by simpa using hy))⟩
theorem Aq {P:Program}{f:Nat}{Ks Rs:List Kd}{F:jH (wY Ks)->Option (jS (BI Rs))}(fn:Func)(hf:P.funcs[f]? =some fn)(hb:fn.body.isNone=false)(hn:(fn.name== "runtime.NumGoroutine")=false)
  (h:∀v r,F v=some r->∀(S:Nat->Prop) (w:World) (vals:List Value),(∀b,S b->b<w.heap.size)->GlobOk P S w->ve S w Ks v vals->
   Calls P f vals.toArray w λe w'=>(∃ret,e= .returned ret/\D7 Rs r ret)/\Ext w w' (λ_ _=>False)):
  aq P f ⟨wY Ks,BI Rs,F⟩ where
 body:=⟨fn,hf,(by intro h1;rw[h1]at hn;exact bH hn (by simp)),hb⟩
 ans:=by
  intro v r hr w vals g hE;refine(h v r hr g.S w vals hE.Ssz hE.glob (rR (P:=P) Ks v vals hE.len (λj a x ha hx=>⟨_,_,_,hE.arg j a x ha hx⟩))).mono λe w2 ⟨⟨ret,he,hret⟩,hx⟩=>?_
  have hrest:∀i,(∀b,¬g.F ((eJ (wY Ks) v).length+i) b):=λi=>(hE.rest _ (Nat.le_add_right _ _)).1
  obtain⟨cs,hcs⟩:=Iw (w2:=w2) Rs r ret hret hrest;refine⟨ret,{g with cs:=cs},he,⟨hx.mono (λ_ _ _ h=>h.elim),λ_ h=>h,λ_ h=>.inl h,λb hb=>Kl (hE.Ssz b hb) hx.size,
   λj b hF=>.inl ⟨j,hF⟩,λj b hF=>Kl (hE.Fsz j b hF) hx.size,hE.FS,hE.FF,?_,hcs⟩⟩
  have:∀(Rs:List Kd) (r:jS (BI Rs)),(rO (BI Rs) r).outs=[]:=by
   intro Rs
   induction Rs with
   |nil=>intro r;rfl
   |cons K Rs ih=>
    intro r;cases Rs with
    |nil=>rfl
    |cons L Rs=>exact ih r.2
  rw[this];exact Ap Ks v 0
theorem qg {S:Nat->Prop}{w:World}:∀(Ks:List Kd) (v:jH (wY Ks)) (vals:List Value),Ks.all Kd.plain=true->ve S w Ks v vals->vals=Ao Ks v
 |[],_,_,_,h=>h
 |K::Ks,v,vals,hK,h=>by
  rw[List.all_cons,Jz]at hK;obtain⟨x,r,cs,rfl,h1,h2,h3⟩:=h;show x::r=K.pv v.1::Ao Ks v.2;rw[RO.pv hK.1 h1 h2,qg Ks v.2 r hK.2 h3]
theorem Ext.below {w w':World}{X:Nat->Nat->Prop}(h:RowKit.Below w.heap.size w w'):Ext w w' X:=
 ⟨h.os,h.tape,h.output,h.size,λb hb _=>h.block b hb,λb o hb _=>⟨zT (h.block b hb),by unfold World.frozen?;rw[h.block b hb]⟩⟩
theorem Ext.grow (w:World)(k:Nat)(os:Array Go.Obj)(X:Nat->Nat->Prop):Ext w (Go.Sort.grow (w.drewN k) os) X:=by
 have hb:∀b,b<w.heap.size->(w.heap++os)[b]? =w.heap[b]?:=λb hb=>by rw[Array.getElem?_append,ab hb]
 have hs:w.heap.size<=(w.heap++os).size:=by rw[OR];omega
 exact Ext.below ⟨rfl,rfl,rfl,hs,hb⟩
theorem vf {P:Program}{f:Nat}{Ks Rs:List Kd}{F:jH (wY Ks)->Option (jS (BI Rs))}(fn:Func)(hf:P.funcs[f]? =some fn)(hb:fn.body.isNone=false)(hn:(fn.name== "runtime.NumGoroutine")=false)
  (hK:Ks.all Kd.plain=true)
  (h:∀v r,F v=some r->∀(S:Nat->Prop) (w:World),GlobOk P S w->Calls P f (Ao Ks v).toArray w λe w'=>(∃ret,e= .returned ret/\D7 Rs r ret)/\Ext w w' (λ_ _=>False)):
  aq P f ⟨wY Ks,BI Rs,F⟩:=
 Aq fn hf hb hn λv r hr S w vals _ hG hA=>by rw[qg Ks v vals hK hA];exact h v r hr S w hG
theorem VRep.raw {k:Kd}{cs:List Value}{v:Value}(h:VRep (.raw (.st k)) cs v):VRep (.st k) cs v:=h
open Classical in
abbrev KN (r:List RSh):Type:=Env->Option (jS r)
abbrev KX (r:List RSh):Type:=Nat->Env->Option (jS r)
theorem kz {c:fX}{nt:Nat}{Ω:Type}{T:tg Ω}{kr:Env->Option Ω}(hc:cg c)(hM:lZ c)(hmix:c.P.follows .mixedOrders=true){j n:Nat}{x:Code}(a:An)(lv:Lv)(live:List Nat)(S:ES)
  (G:Nat->S.V->(Env->Option Ω)->(Nat->Env->Option Ω)->Option Ω) (hT:∀e kn kx,T j e kn kx=ES.on S e λx=>G n x kn kx) (h0:∀x kn kx,G 0 x kn kx=none)
  (hs:∀m x' kn kx,mA c nt T kr x a lv (meet (some live) λe=>ES.on S e λx=>G m x kn kx) kx (S.enc x')=G (m+1) x' kn kx) {l:List (Nat×Code)} (hl:ir x a=l)
  (hU:∀q,q∈l->cQ c nt T kr q.1 q.2):cQ c nt T kr j (.loop x):=
 BD (n:=n) hc hM hmix a lv live (λm e kn kx=>ES.on S e λx=>G m x kn kx) hT
  (λe kn kx out h=>by obtain⟨x,_,h2⟩:=ES.on_inv h;rw[h0]at h2;cases h2) (λm e kn kx out h=>by obtain⟨x,e1,h2⟩:=ES.on_inv h;rw[e1];exact(hs m x kn kx).trans h2) (rQ hl hU)
theorem jz {c:fX}{nt:Nat}{Ω:Type}{T:tg Ω}{kr:Env->Option Ω}(hc:cg c)(hM:lZ c)(hmix:c.P.follows .mixedOrders=true){j:Nat}{x:Code}(a:An)(lv:Lv)(live:List Nat)(S:ES)
  (G:S.V->(Env->Option Ω)->(Nat->Env->Option Ω)->Option Ω) (hT:∀e kn kx,T j e kn kx=ES.on S e λx=>G x kn kx)
  (hs:∀x' kn kx,mA c nt T kr x a lv (meet (some live) kn) kx (S.enc x')=G x' kn kx) {l:List (Nat×Code)} (hl:ir x a=l)
  (hU:∀q,q∈l->cQ c nt T kr q.1 q.2):cQ c nt T kr j x:=
 BE hc hM hmix a lv (some live) (λe kn kx out h=>by rw[hT]at h;obtain⟨x,e1,h2⟩:=ES.on_inv h;rw[e1];exact(hs x kn kx).trans h2) (rQ hl hU)
def IS (fn:Func):Option Code×Nat×List ResultVar×Bool:=(fn.body,fn.ntmps,fn.results.toList,fn.name== "runtime.NumGoroutine")
def IT (d:rK):Option Code×Nat×List ResultVar×Bool:=(some d.code,d.nt,d.res.map (·.1),false)
theorem iv {c:fX}(hc:cg c)(hM:lZ c)(hmix:c.P.follows .mixedOrders=true){f:Nat}{e:ip}{d:rK}(an:An){fn:Func}(hf:c.P.funcs[f]? =some fn)(hq:IS fn=IT d)(T:tg (jS e.r)){l:List (Nat×Code)}(hl:ir d.code an=l)
  (hU:∀v q,q∈l->cQ c d.nt T (jR c d (eJ e.a v) (iu e.r)) q.1 q.2) (h:∀v,tX c d an T (eJ e.a v) (iu e.r)=e.F v):aq c.P f e:=by
 simp only[IS,IT,JW]at hq;exact Hp hc hM hmix hf hq.1 hq.2.2.2 hq.2.1 hq.2.2.1 (λ_=>T) (λv=>rQ hl (hU v)) h
theorem F6 {c:fX}(hc:cg c)(hM:lZ c)(hmix:c.P.follows .mixedOrders=true){f:Nat}{e:ip}{d:rK}(an:An){fn:Func}(hf:c.P.funcs[f]? =some fn)(hq:IS fn=IT d)(hl:ir d.code an=[])
  (h:∀v,tX c d an (λ_ _ _ _=>none) (eJ e.a v) (iu e.r)=e.F v):aq c.P f e:=
 iv hc hM hmix an hf hq _ hl (λ_=>bD) h
end Go.Abs
