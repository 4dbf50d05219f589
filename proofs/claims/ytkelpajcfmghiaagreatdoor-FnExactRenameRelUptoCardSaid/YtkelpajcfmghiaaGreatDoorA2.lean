/- The abstract interpreter of the elaborated code, and that what it answers is what the machine does: part 2. Conditions: none. -/
import Derived.Laws.MakeOwn
import Derived.Laws.Append
import Derived.Deep.AppendSrc
import Derived.Deep.Upon
import Derived.Deep.DeepAppendWide
import Derived.Test.YtkelpajcfmghiaaGreatDoorA1
open Array renaming ext' → MJ,getElem?_setIfInBounds → Nj,toList_append → LU,toList_map → Mp
open Bool renaming and_eq_true → Jm,not_eq_true' → LM
open Classical renaming byContradiction → LL
open Go.Abs.Env renaming cap → N2,mk → KE,views → Mo
open Go.Abs.Ext renaming alloc → LZ,refl → Ns,setCells → N1
open Go.Abs.Kd renaming eq_of_beq → Ka
open Go.Abs.Md renaming eq_of_beq → Lh,fits → Le
open Go.Abs.Oper renaming opds → Kw
open Go.Abs.Own renaming ro → MP,toRO → Mx
open Go.Addr renaming add_lit → M5
open Go.Builtin renaming append_ → OE,zeroCells → Mj
open Go.Instr renaming buildSlice → M6,fill → Oh,slice → MK
open Go.Result renaming andThen_ok → Js
open Go.Sem renaming run_bind → JC,run_pure → JP
open Go.Src renaming ofNil → NS,ofSlice → MQ
open Go.Value.slice renaming injEq → NB
open Go.World renaming cell?_alloc_at → N0,cell?_setCells_in → Mq,frozen?_setCells → NH,size_alloc → Lk
open List renaming all_cons → Kh,append_nil → Kv,drop_drop → Lo,drop_left → Kx,drop_zero → JN,ext_getElem? → M4,getD → Ji,getElem?_cons_zero → Kq,getElem?_drop → Lq,getElem?_eq_getElem → KL,getElem?_eq_some_iff → JU,getElem?_take → Lm,getElem_append_left → LX,getElem_append_right → Mr,isEmpty_iff → Nc,length → Je,length_append → Jk,length_cons → Jj,length_drop → LH,length_eq_zero_iff → Kb,length_take → KU,map_cons → Jy,mem_cons → JJ,mem_cons_of_mem → JE,mem_cons_self → JA,mem_map → KG,mem_singleton → JQ,nodup_cons → LA,replicate → JZ,size_toArray → OW,take → Mh,take_append_drop → KP,take_left → KM,take_of_length_le → JI
open List.cons renaming injEq → Ky
open Nat renaming add_assoc → L5,add_comm → NZ,add_mul → Ku,add_zero → KH,eq_of_beq_eq_true → JM,le_of_ble_eq_true → JV,le_refl → JG,lt_of_lt_of_le → JX,lt_or_gt_of_ne → Mk,mul_le_mul_right → JW,not_lt_zero → Jx,one_mul → KQ,zero_add → KT,zero_le → JF,zero_mul → Mi
open Option renaming map_none → OV,map_some → KR
open Option.some renaming injEq → Jq
open Prod.mk renaming injEq → JH
open Sigma.mk renaming injEq → Mz
set_option linter.unusedVariables false
set_option linter.unusedSimpArgs false
namespace Go.Abs
section
variable {c:fS} {B:Base} {nt:Nat} {o:Oper} {Ω:Type} {k:bW->Option Ω} {out:Ω} {fr:Bool}
structure Ee (lo hi:Option Operand) (bs:List bF) (len:Nat) (l h:Int):Prop where
 low:∀{P:Program} {B:Base} {nt:Nat} {e:Env} {a:Act} {w:World} {g:Gh},InvG P B nt e a w g->(lo.toList++hi.toList).map (λx=>e.view (e.opd x))=bs->
  (lo.map a.eval=none/\l=0\/∃ik,lo.map a.eval=some (.int ik l))/\(hi.map a.eval=none/\h=(len:Int)\/∃ik,hi.map a.eval=some (.int ik h))
theorem mD {e:Env}{x:Operand}{lo hi:Option Operand}{t:Nat}{v:bF}{bs:List bF}(ho:o.op= .slice t x lo hi none)(h:e.views o=v::bs):
  e.view (e.opd x)=v/\(lo.toList++hi.toList).map (λx=>e.view (e.opd x))=bs:=by
 have:o.op.operands= #[x]++lo.toArray++hi.toArray++(Option.none:Option Operand).toArray:=by rw[ho];rfl
 simp only[Mo,Kw,this]at h;cases lo<;>cases hi<;>simp at h⊢<;>exact h
theorem nJ {P:Program}{a:Act}{w:World}{x:Operand}{lo hi:Option Operand}{t:Nat}{d:TypeDesc}(ho:o.op= .slice t x lo hi none)(hu:P.underlying t=some d)(hd:∀n e,d≠ .array n e):
  (execOp a.eval o).run P w=((MK t (a.eval x) (lo.map a.eval) (hi.map a.eval) none).run P w).andThen λv w'=>.ok (.value v) w':=by
 have:(Instr.sliceAt t (a.eval x) (lo.map a.eval) (hi.map a.eval) none).run P w=(MK t (a.eval x) (lo.map a.eval) (hi.map a.eval) none).run P w:=by
  unfold Instr.sliceAt;rw[JC,run_underlying hu,Js]
  cases d<;>first|rfl|exact bJ rfl (hd _ _)
 simp only[execOp,ho,OV,JC,this]
 rfl
theorem ul {x:Operand}{lo hi:Option Operand}{t:Nat}{s:ByteArray}{v:bF}{bs:List bF}{l h:Int}(hc:cf c)(ho:o.op= .slice t x lo hi none)(ht:eS c t .str=true)
  (hv:E8 v=some ⟨.str,s⟩) (hb:Ee lo hi bs s.size l h) (h0:0<=l/\l<=h/\h<=(s.size:Int)) (hk:cz nt o.dst (.v .str (s.extract l.toNat h.toNat)) k=some out):cc c B nt o (v::bs) fr k out:=by
 obtain⟨hT,_⟩:=ey hc.ty ht;have hu:=hT.str rfl;refine ba hk λe he a w g hg=>⟨.string (s.extract l.toNat h.toNat),?_,nI _ _ _ _ _⟩
 obtain⟨v1,v2⟩:=mD ho he.1;obtain⟨cs,r1,r2⟩:=ui hg v1 hv;rw[show cs=[.string s]from r1]at r2;have e1:a.eval x= .string s:=r2.1;obtain⟨b1,b2⟩:=hb.low hg v2;rw[nJ ho hu (by intros;simp),e1];unfold MK;simp only[JC,run_underlying hu,Js,Option.isSome_none,Bool.false_eq_true,if_false,JP,ra false s.size s.size _ _ l h b1 b2 h0.1 h0.2.1 h0.2.2 (JG _)]
theorem o8 {P:Program}{ty:List (Nat×Kd)}{t:Nat}{e:Kd}(hty:TysOk P ty)(ht:TyOk P ty t (.sl e)){w:World}{A:Option Addr}{len cap:Nat}{lo hi:Option Value}{l h:Int}
  (b1:lo=none/\l=0\/∃ik,lo=some (.int ik l)) (b2:hi=none/\h=(len:Int)\/∃ik,hi=some (.int ik h)) (h0:0<=l/\l<=h/\h<=(len:Int)) (hcap:len<=cap):
  (MK t (.slice A len cap) lo hi none).run P w= .ok (.slice (if cap=l.toNat then A else A.map (·.add (l.toNat*e.size))) (h.toNat - l.toNat) (cap - l.toNat)) w:=by
 obtain⟨t',hu,hl⟩:=ht.sl e rfl;have hs:=(hty.get hl).size w;unfold MK;simp only[JC,run_underlying hu,Js,ra true len cap lo hi l h b1 b2 h0.1 h0.2.1 h0.2.2 hcap,hs,JP]
theorem vB {x:Operand}{lo hi:Option Operand}{t:Nat}{e:Kd}{xs:List e.T}{q:Option Obj}{bs:List bF}{l h:Int}(hc:cf c)(ho:o.op= .slice t x lo hi none)(ht:eS c t (.sl e)=true)
  (hb:Ee lo hi bs xs.length l h) (h0:0<=l/\l<=h/\h<=(xs.length:Int)) (hk:cz nt o.dst (.v (.sl e) ((Mh h.toNat xs).drop l.toNat)) k=some out):cc c B nt o ((.v (.sl e) xs,q)::bs) fr k out:=by
 obtain⟨hT,_⟩:=ey hc.ty ht;obtain⟨t',hu,hl'⟩:=hT.sl e rfl;refine ba hk λe0 he a w g hg=>?_
 obtain⟨v1,v2⟩:=mD ho he.1;obtain⟨cs,hro,hv⟩:=aH hg v1;obtain⟨A,cap,rfl,hl,hel⟩:=hro;have e1:a.eval x= .slice A xs.length cap:=hv.1;obtain⟨b1,b2⟩:=hb.low hg v2;have len:((Mh h.toNat xs).drop l.toNat).length=h.toNat - l.toNat:=by simp;omega
 refine⟨.slice (if cap=l.toNat then A else A.map (·.add (l.toNat*e.size))) (h.toNat - l.toNat) (cap - l.toNat),?_,[.slice (if cap=l.toNat then A else A.map (·.add (l.toNat*e.size))) (h.toNat - l.toNat) (cap - l.toNat)],?_,rfl,rfl⟩
 ·rw[nJ ho hu (by intros;simp),e1,o8 hc.ty hT b1 b2 h0 hl]
  rfl
 ·refine⟨_,_,by rw[len],by rw[len];omega,λi hi=>?_⟩
  rw[len]at hi;have hi2:l.toNat+i<xs.length:=by omega
  obtain⟨b,off,vs,hA,hb',hcs,hro2⟩:=hel (l.toNat+i) hi2;have hne:cap≠l.toNat:=by omega
  refine⟨b,off+l.toNat*e.size,vs,?_,hb',?_,?_⟩
  ·rw[ao hne,hA];simp only[KR,fU]
  ·have:off+l.toNat*e.size+i*e.size=off+(l.toNat+i)*e.size:=by rw[Ku];omega
   rw[this];exact hcs
  ·have:((Mh h.toNat xs).drop l.toNat)[i]'(by rw[len];exact hi)=xs[l.toNat+i]:=by simp
   rw[this];exact hro2
theorem eE {α:Type}:∀(l r:List (Nat×α)) (n:Nat),au (l++r) n=match au l n with|some x=>some x|none=>au r n
 |[],_,_=>rfl
 |(i,x)::l,r,n=>by
  simp only[List.cons_append,au]
  split
  ·rfl
  ·exact eE l r n
theorem aQ {α:Type}(n:Nat)(x:α)(l:List (Nat×α)):au ((n,x)::l) n=some x:=by
 simp[au]
theorem aX {α:Type}{i n:Nat}(h:i≠n)(x:α)(l:List (Nat×α)):au ((i,x)::l) n=au l n:=by
 simp[au,h]
theorem kD:∀(mv:List Nat) (n:Nat),au (gi mv) n=if n∈mv then some none else none
 |[],_=>by simp[gi,au]
 |i::l,n=>by
  by_cases h:i=n
  ·subst h;simp[gi,au]
  ·have ih:=kD l n
   simp only[gi]at ih;simp only[gi,Jy];rw[aX h,ih];have:(n∈i::l)↔n∈l:=by simp[show n≠i from λe=>h e.symm]
   simp[this]
def Gh.new (g:Gh)(d:Nat)(mv:List Nat)(Fd:Nat->Prop)(pl:Place)(cs:List Value):Gh where
 S:=g.S
 F:=λi b=>if i=d then Fd b else if i∈mv then False else g.F i b
 pl:=λi=>if i=d then pl else if i∈mv then none else g.pl i
 cs:=λi=>if i=d then cs else g.cs i
theorem InvG.create {P:Program}{nt:Nat}{e:Env}{a:Act}{w w':World}{g:Gh}(h:InvG P B nt e a w g)(hx:Ext w w' (λ_ _=>False)){d:Nat}(hd:e.obj d=none)(mv:List Nat)
  (hmv:∀i,i∈mv->∃o,e.obj i=some (some o)) (ob:Obj) (Fd:Nat->Prop) (pl:Place) (cs:List Value)
  (hFd:∀b,Fd b->(w.heap.size<=b/\b<w'.heap.size)\/∃i,i∈mv/\g.F i b)
  (hpl:∀b off,pl=some (b,off)->w.heap.size<=b/\b<w'.heap.size/\¬Fd b)
  (hok:Own g.S w' ob.K ob.m ob.x cs Fd/\PlOk w' pl cs) (hbox:ob.box=pl.isSome) (hhl:ob.hl=none) (hpar:ob.par=false):
  InvG P B nt ⟨e.slots,(d,some ob)::gi mv++e.objs⟩ a w' (g.new d mv Fd pl cs):=by
 have hdm:d∉mv:=λhm=>by obtain⟨o,ho⟩:=hmv d hm;rw[hd]at ho;cases ho
 have hobj:∀i,(KE e.slots ((d,some ob)::gi mv++e.objs)).obj i=if i=d then some (some ob)else if i∈mv then some none else e.obj i:=by
  intro i;show au ((d,some ob)::(gi mv++e.objs)) i=_
  by_cases hi:i=d
  ·subst hi;rw[aQ,ab rfl]
  ·rw[aX (λe=>hi e.symm),ao hi,eE,kD]
   by_cases hm:i∈mv
   ·rw[ab hm,ab hm]
   ·rw[ao hm,ao hm];rfl
 have hFlt:∀i b,g.F i b->b<w.heap.size:=h.Fsz
 have Fnew:∀i b,(g.new d mv Fd pl cs).F i b->(i=d/\Fd b)\/(i≠d/\i∉mv/\g.F i b):=by
  intro i b hF;simp only[Gh.new]at hF
  split at hF
  ·exact .inl ⟨by assumption,hF⟩
  ·split at hF
   ·exact hF.elim
   ·exact .inr ⟨by assumption,by assumption,hF⟩
 have plnew:∀i b off,(g.new d mv Fd pl cs).pl i=some (b,off)->(i=d/\pl=some (b,off))\/(i≠d/\i∉mv/\g.pl i=some (b,off)):=by
  intro i b off hF;simp only[Gh.new]at hF
  split at hF
  ·exact .inl ⟨by assumption,hF⟩
  ·split at hF
   ·cases hF
   ·exact .inr ⟨by assumption,by assumption,hF⟩
 have base_le:B.w0.heap.size<=w.heap.size:=h.ext.size;have old:∀i b,g.F i b->B.Fx b\/B.w0.heap.size<=b:=h.Fb
 refine h.change (λi=>i=d\/i∈mv) rfl (h.ext.step hx (λ_ _ _ h=>h.elim)) (λ_ h=>h) (λb o v _ hv=>hx.same (λh=>h) hv)
  (λb hb=>JX (h.Ssz b hb) hx.size) ?_ h.Sb ?_ ?_ ?_ ?_ ?_ ?_ ?_ ?_ ?_
 ·intro i b hF
  rcases Fnew i b hF with⟨_,hF⟩|⟨_,_,hF⟩
  ·rcases hFd b hF with⟨_,h2⟩|⟨j,_,h2⟩
   ·exact h2
   ·exact JX (hFlt j b h2) hx.size
  ·exact JX (hFlt i b hF) hx.size
 ·intro i b hF
  rcases Fnew i b hF with⟨_,hF⟩|⟨_,_,hF⟩
  ·rcases hFd b hF with⟨h1,_⟩|⟨j,_,h2⟩
   ·exact .inr (by omega)
   ·exact old j b h2
  ·exact old i b hF
 ·intro i b hF hS
  have hS':g.S b:=hS;rcases Fnew i b hF with⟨_,hF⟩|⟨_,_,hF⟩
  ·rcases hFd b hF with⟨h1,_⟩|⟨j,_,h2⟩
   ·have:=h.Ssz b hS';omega
   ·exact h.FS j b h2 hS'
  ·exact h.FS i b hF hS'
 ·intro i j b hne hF hF'
  rcases Fnew i b hF with⟨h1,hF⟩|⟨h1,h2,hF⟩<;>rcases Fnew j b hF' with⟨h3,hF'⟩|⟨h3,h4,hF'⟩
  ·exact hne (h1.trans h3.symm)
  ·rcases hFd b hF with⟨h5,_⟩|⟨l,h5,h6⟩
   ·have:=hFlt j b hF';omega
   ·exact h.FF l j b (λe=>h4 (e▸h5)) h6 hF'
  ·rcases hFd b hF' with⟨h5,_⟩|⟨l,h5,h6⟩
   ·have:=hFlt i b hF;omega
   ·exact h.FF l i b (λe=>h2 (e▸h5)) h6 hF
  ·exact h.FF i j b hne hF hF'
 ·intro i b off hp
  rcases plnew i b off hp with⟨h1,hp⟩|⟨h1,h2,hp⟩
  ·obtain⟨h3,h4,h5⟩:=hpl b off hp
   refine⟨h4,λhS=>by have:=h.Ssz b hS;omega,λj hF=>?_,λj off' hp'=>?_⟩
   ·rcases Fnew j b hF with⟨_,hF⟩|⟨_,_,hF⟩
    ·exact h5 hF
    ·have:=hFlt j b hF;omega
   ·rcases plnew j b off' hp' with⟨h6,_⟩|⟨_,_,h6⟩
    ·exact h1.trans h6.symm
    ·have:=(h.plz j b off' h6).1;omega
  ·obtain⟨h3,h4,h5,h6⟩:=h.plz i b off hp
   refine⟨JX h3 hx.size,h4,λj hF=>?_,λj off' hp'=>?_⟩
   ·rcases Fnew j b hF with⟨_,hF⟩|⟨_,_,hF⟩
    ·rcases hFd b hF with⟨h7,_⟩|⟨l,_,h7⟩
     ·omega
     ·exact h5 l h7
    ·exact h5 j hF
   ·rcases plnew j b off' hp' with⟨_,h7⟩|⟨_,_,h7⟩
    ·have:=(hpl b off' h7).1;omega
    ·exact h6 j off' h7
 ·intro i hi
  have hi1:i≠d:=λe=>hi (.inl e)
  have hi2:i∉mv:=λe=>hi (.inr e)
  refine⟨by rw[hobj,ao hi1,ao hi2],?_,?_,?_,λb o hF=>hx.cell b o (hFlt i b hF) (λh=>h),λb off hp o=>hx.cell b o (h.plz i b off hp).1 (λh=>h)⟩
  ·funext b;simp[Gh.new,hi1,hi2]
  ·simp[Gh.new,hi1,hi2]
  ·simp[Gh.new,hi1]
 ·intro i hi hno
  rcases hi with rfl|hi
  ·exact bJ (by rw[hobj,ab rfl]) (hno ob)
  ·have:i≠d:=λe=>hdm (e▸hi)
   exact⟨λb hF=>by simp[Gh.new,this,hi]at hF,by simp[Gh.new,this,hi]⟩
 ·intro i o' hi ho'
  rw[hobj]at ho';rcases hi with rfl|hi
  ·rw[ab rfl]at ho'
   cases ho';refine⟨λ_=>?_,(λp hp=>by rw[hhl]at hp;cases hp),?_,(λhp=>by rw[hpar]at hp;cases hp),(λb off hp=>?_),λq off hq=>lQ hhl hq⟩
   ·simp only[Gh.new,ab]
    exact hok
   ·simp[Gh.new,hbox]
   ·simp only[Gh.new,ab]at hp
    have:=(hpl b off hp).1;exact .inl (by omega)
  ·have:i≠d:=λe=>hdm (e▸hi)
   rw[ao this,ab hi]at ho';cases ho'
 ·intro i hi n p v hs
  rcases hi with rfl|hi
  ·exact bJ hd hs.1.1
  ·have:i≠d:=λe=>hdm (e▸hi)
   have e1:(KE e.slots ((d,some ob)::gi mv++e.objs)).obj i=some none:=by rw[hobj,ao this,ab hi]
   exact⟨⟨by rw[e1];simp,(λo ho=>by rw[e1]at ho;cases ho)⟩,(λo ho=>by rw[e1]at ho;cases ho)⟩
 ·intro i hi n p v hs
  rcases hi with rfl|hi
  ·exact bJ hd hs.1.1
  ·have:i≠d:=λe=>hdm (e▸hi)
   have e1:(KE e.slots ((d,some ob)::gi mv++e.objs)).obj i=some none:=by rw[hobj,ao this,ab hi]
   exact⟨⟨by rw[e1];simp,(λo ho=>by rw[e1]at ho;cases ho)⟩,(λo ho=>by rw[e1]at ho;cases ho)⟩
theorem jU {vs:List bF}{ob:Obj}{isPt:Bool}{mv:List Nat}(hk:dH nt o.dst fr ob isPt (gi mv) k=some out)(hhl:ob.hl=none)(hpar:ob.par=false)(hlog:ob.log=[])
  (h:∀e:Env,e.views o=vs->∀a w g,InvG c.P B nt e a w g->∃v w' Fd pl cs,(execOp a.eval o).run c.P w= .ok (.value v) w'/\Ext w w' (λ_ _=>False)/\(∀i,i∈mv->∃o,e.obj i=some (some o))/\
   (∀b,Fd b->(w.heap.size<=b/\b<w'.heap.size)\/∃i,i∈mv/\g.F i b)/\(∀b off,pl=some (b,off)->w.heap.size<=b/\b<w'.heap.size/\¬Fd b)/\
   (Own g.S w' ob.K ob.m ob.x cs Fd/\PlOk w' pl cs)/\ob.box=pl.isSome/\
   (if isPt then∃b off,pl=some (b,off)/\v= .pointer (some ⟨b,off,none⟩)else VRep ob.K cs v)):cc c B nt o vs fr k out:=by
 unfold dH at hk
 split at hk
 ·cases hk
 ·rename_i d hd
  split at hk
  ·rename_i hf
   rw[Jm]at hf;have hlt:d<nt:=JV hf.1;refine⟨_,hk,λe he=>jm hd hlt λa w g hg=>?_⟩;have hfr:fresh e o.dst=true:=by rw[he.2];exact hf.2
   have hnone:e.obj d=none:=by
    rw[hd]at hfr;simp only[fresh,Jm]at hfr;simpa using hfr.1.1.1.1
   obtain⟨v,w',Fd,pl,cs,r1,r2,r3,r4,r5,r6,r7,r8⟩:=h e he.1 a w g hg;refine⟨v,w',_,r1,hg.create r2 hnone mv r3 ob Fd pl cs r4 r5 r6 r7 hhl hpar,?_⟩;have e1:(KE e.slots (((d,some ob)::gi mv)++e.objs)).obj d=some (some ob):=by
    show au ((d,some ob)::(gi mv++e.objs)) d=_;exact aQ _ _ _
   have hok1:∀p,fu ob 0 p=true:=λp=>by simp[fu,qK,hlog]
   cases isPt with
   |true=>
    obtain⟨b,off,e2,rfl⟩:=r8;refine⟨⟨by rw[e1];simp,λ_ _=>JF _⟩,λo2 ho2 _ _=>?_⟩;rw[e1]at ho2;cases ho2;exact⟨b,off,cs,ob.K,ob.m,ob.x,cn _ _ _,by simp only[ck,Gh.new,ab,e2],rfl⟩
   |false=>
    refine⟨⟨by rw[e1];simp,λ_ _=>JF _⟩,λo2 ho2 _ _=>?_⟩;rw[e1]at ho2;cases ho2;exact⟨pl,cs,ob.K,ob.m,ob.x,cn _ _ _,by simp only[ck,Gh.new,ab],r8⟩
  ·cases hk
end
def cH (L:List Value)(s i:Nat):List Value:=(L.drop (i*s)).take s
theorem sQ {L:List Value}{s n i:Nat}(hL:L.length=n*s)(hi:i<n):(cH L s i).length=s:=by
 have:(i+1)*s<=n*s:=JW s hi;rw[Ku,KQ]at this;simp only[cH,KU,LH];omega
theorem pW {L R:List Value}{s n i:Nat}(hL:L.length=n*s)(hi:i<n):cH (L++R) s i=cH L s i:=by
 have:(i+1)*s<=n*s:=JW s hi;rw[Ku,KQ]at this;simp only[cH];rw[List.drop_append_of_le_length (by omega),List.take_append_of_le_length (by rw[LH];omega)]
theorem o9 {L R:List Value}{s n i:Nat}(hL:L.length=n*s):cH (L++R) s (n+i)=cH R s i:=by
 simp only[cH];rw[Ku,← hL,← Lo,Kx]
theorem CellsAt.elem {w:World}{b o:Nat}{L:List Value}(h:CellsAt w b o L)(s i:Nat):CellsAt w b (o+i*s) (cH L s i):=h.sub (i*s) s
theorem um {S:Nat->Prop}{w:World}{e:Kd}{m:Md}{xs:List e.T}{L:List Value}{b o cap:Nat}{F:Nat->Prop}(hc:CellsAt w b o L)(hcap:xs.length<=cap)
  (hroom:E7 w b o (cap*e.size)) (hF:F b) (G:Nat->Nat->Prop) (hG:∀i b,G i b->F b) (hG1:∀i,¬G i b) (hG2:∀i j b,i≠j->G i b->¬G j b)
  (he:∀i (h:i<xs.length),Own S w e m xs[i] (cH L e.size i) (G i)):Own S w (.sl e) (.own m) xs [.slice (some ⟨b,o,none⟩) xs.length cap] F:=by
 refine⟨some ⟨b,o,none⟩,cap,rfl,hcap,(λh=>by cases h),λad had=>?_,G,hG,λi ad had=>?_,hG2,λi hi=>⟨b,o,cH L e.size i,rfl,hc.elem e.size i,he i hi⟩⟩
 ·cases had;exact⟨rfl,hF,hroom⟩
 ·cases had;exact hG1 i
theorem yh {w:World}{e:Kd}(Q:(x:e.T)->List Value->Nat->Prop)(hQ:∀x cs i,Q x cs i->cs.length=e.size){A:Option Addr}:∀(xs:List e.T) (k:Nat),
  (∀i (h:i<xs.length),∃b o vs,A=some ⟨b,o,none⟩/\CellsAt w b (o+(k+i)*e.size) vs/\Q xs[i] vs (k+i))->
  ∃L:List Value,L.length=xs.length*e.size/\(∀b o,A=some ⟨b,o,none⟩->CellsAt w b (o+k*e.size) L)/\∀i (h:i<xs.length),Q xs[i] (cH L e.size i) (k+i)
 |[],k,_=>⟨[],by simp,λ_ _ _ j hj=>bJ hj (Jx _),λi h=>bJ h (Jx _)⟩
 |x::xs,k,h=>by
  obtain⟨b0,o0,vs,hA,hc,hq⟩:=h 0 (by simp);obtain⟨L,h1,h2,h3⟩:=yh Q hQ (A:=A) xs (k+1) (λi hi=>by
   have:=h (i+1) (by simpa using hi);simpa[NZ 1 i,L5,Nat.add_left_comm]using this)
  have lv:vs.length=e.size:=hQ _ _ _ hq;refine⟨vs++L,?_,λb o hb=>?_,λi hi=>?_⟩
  ·simp only[Jk,Jj,lv,h1,Ku,KQ];omega
  ·rw[hA]at hb
   cases hb;refine CellsAt.join (by simpa using hc) ?_;have:=h2 b0 o0 hA;rw[lv,show o0+k*e.size+e.size=o0+(k+1)*e.size by rw[Ku];omega];exact this
  ·cases i with
   |zero=>
    have:cH (vs++L) e.size 0=vs:=by simp only[cH,Mi,JN];rw[← lv,KM]
    rw[this];simpa using hq
   |succ i=>
    have h4:=h3 i (by simpa using hi);have:cH (vs++L) e.size (i+1)=cH L e.size i:=by
     rw[NZ i 1];exact o9 (by rw[lv,KQ])
    rw[this];simpa[NZ 1 i,L5,Nat.add_left_comm]using h4
theorem uo {S:Nat->Prop}{w:World}{e:Kd}{m:Md}{xs:List e.T}{cs:List Value}{F:Nat->Prop}(h:Own S w (.sl e) (.own m) xs cs F):
  ∃A cap L,cs=[.slice A xs.length cap]/\xs.length<=cap/\(A=none->cap=0)/\(∀ad,A=some ad->ad.spot=none/\F ad.block/\E7 w ad.block ad.off (cap*e.size))/\
   L.length=xs.length*e.size/\(∀b o,A=some ⟨b,o,none⟩->CellsAt w b o L)/\
   ∃G:Nat->Nat->Prop,(∀i b,G i b->F b)/\(∀i ad,A=some ad->¬G i ad.block)/\(∀i j b,i≠j->G i b->¬G j b)/\
    ∀i (h:i<xs.length),Own S w e m xs[i] (cH L e.size i) (G i):=by
 obtain⟨A,cap,rfl,hl,hn,hr,G,hG,hG1,hG2,he⟩:=h;obtain⟨L,h1,h2,h3⟩:=yh (w:=w) (e:=e) (λx cs i=>Own S w e m x cs (G i)) (λ_ _ _ h=>h.length) (A:=A) xs 0 (λi hi=>by simpa using he i hi);exact⟨A,cap,L,rfl,hl,hn,hr,h1,λb o hA=>by simpa using h2 b o hA,G,hG,hG1,hG2,λi hi=>by simpa using h3 i hi⟩
theorem C6 {S:Nat->Prop}{w:World}{e:Kd}{xs:List e.T}{cs:List Value}(h:RO S w (.sl e) xs cs):
  ∃A cap L,cs=[.slice A xs.length cap]/\xs.length<=cap/\L.length=xs.length*e.size/\(∀b o,A=some ⟨b,o,none⟩->CellsAt w b o L)/\
   (0<xs.length->∃b o,A=some ⟨b,o,none⟩/\S b)/\∀i (h:i<xs.length),RO S w e xs[i] (cH L e.size i):=by
 obtain⟨A,cap,rfl,hl,he⟩:=h;obtain⟨L,h1,h2,h3⟩:=yh (w:=w) (e:=e) (λx cs _=>RO S w e x cs) (λ_ _ _ h=>h.length) (A:=A) xs 0
  (λi hi=>by obtain⟨b,o,vs,r1,_,r2,r3⟩:=he i hi;exact⟨b,o,vs,r1,by simpa using r2,r3⟩)
 exact⟨A,cap,L,rfl,hl,h1,λb o hA=>by simpa using h2 b o hA,λh0=>by obtain⟨b,o,vs,r1,r2,_⟩:=he 0 h0;exact⟨b,o,r1,r2⟩,λi hi=>by simpa using h3 i hi⟩
theorem Md.fits_zero {S:Nat->Prop}{w:World}:∀{K:Kd} {m:Md} (F:Nat->Prop),Le K m=true->Own S w K m K.zero K.zc F
 |K,.ro,F,_=>MP.2 (RO.zero K)
 | .sl e,.own m,F,_=>⟨none,0,rfl,JG _,λ_=>rfl,(λ_ h=>by cases h),λ_ _=>False,(λ_ _ h=>h.elim),(λ_ _ h=>by cases h),(λ_ _ _ _ h=>h.elim),λi h=>bJ h (Jx _)⟩
 | .st k,.own m,F,h=>Md.fits_zero (K:=k) (m:=.own m) F h
 | .st k,.pr m n,F,h=>Md.fits_zero (K:=k) (m:=.pr m n) F h
 | .pair a b,.pr m n,F,h=>by
  have h':(Le a m&&Le b n)=true:=h;rw[Jm]at h';exact⟨a.zc,b.zc,λ_=>False,λ_=>False,rfl,λ_ h=>h.elim,λ_ h=>h.elim,λ_ h=>h.elim,Md.fits_zero _ h'.1,Md.fits_zero _ h'.2⟩
 | .int _,.own _,_,h| .bool,.own _,_,h| .str,.own _,_,h| .err,.own _,_,h| .raw _,.own _,_,h| .pair _ _,.own _,_,h| .int _,.pr _ _,_,h| .bool,.pr _ _,_,h| .str,.pr _ _,_,h| .err,.pr _ _,_,h| .raw _,.pr _ _,_,h| .sl _,.pr _ _,_,h=>by simp[Le]at h
theorem jh (w:World)(cs:Array Value)(t:Nat):CellsAt (w.alloc (.cells cs t)) w.heap.size 0 cs.toList/\E7 (w.alloc (.cells cs t)) w.heap.size 0 cs.size:=by
 refine⟨λj hj=>?_,λj=>⟨λhj=>⟨cs[j],?_⟩,?_⟩⟩
 ·rw[KT,N0 _ _ _ _ rfl];simp[Array.getElem?_eq_getElem (show j<cs.size by simpa using hj)]
 ·rw[KT,N0 _ _ _ _ rfl];simp[hj]
 ·exact World.frozen?_alloc_at _ _ _ _ rfl
theorem PlOk.mk {w:World}{b o:Nat}{cs:List Value}(h1:CellsAt w b o cs)(h2:∀j,j<cs.length->w.frozen? ⟨b,o+j,none⟩=false):PlOk w (some (b,o)) cs:=by
 intro b' o' e;simp only[Jq,JH]at e;obtain⟨rfl,rfl⟩:=e;exact⟨h1,h2⟩
theorem RO.ext {S:Nat->Prop}{w w':World}{X:Nat->Nat->Prop}{K:Kd}{x:K.T}{cs:List Value}(h:RO S w K x cs)(hx:Ext w w' X)(hX:∀b o,S b->¬X b o):RO S w' K x cs:=
 h.mono (λ_ h=>h) (λb o _ hb hv=>hx.same (hX b o hb) hv)
theorem Own.ext {S:Nat->Prop}{w w':World}{K:Kd}{m:Md}{x:K.T}{cs:List Value}{F:Nat->Prop}(h:Own S w K m x cs F)(hx:Ext w w' (λ_ _=>False))(hF:∀b,F b->b<w.heap.size):Own S w' K m x cs F:=
 h.mono (λ_ h=>h) (λ_ _ _ _ hv=>hx.same (λh=>h) hv) (λ_ h=>h) (λb o hb=>hx.cell b o (hF b hb) (λh=>h))
theorem InvG.grow {P:Program}{B:Base}{nt:Nat}{e:Env}{a:Act}{w w':World}{g:Gh}(h:InvG P B nt e a w g)(hx:Ext w w' (λ_ _=>False)):
  InvG P B nt e a w' {g with S:=λb=>g.S b\/(w.heap.size<=b/\b<w'.heap.size)}:=by
 have hb0:B.w0.heap.size<=w.heap.size:=h.ext.size;refine h.change (λ_=>False) rfl (h.ext.step hx (λ_ _ _ h=>h.elim)) (λb hb=>.inl hb) (λb o v _ hv=>hx.same (λh=>h) hv) ?_ (λi b hF=>JX (h.Fsz i b hF) hx.size) ?_ h.Fb ?_ h.FF ?_ ?_
  (λ_ h=>h.elim) (λ_ _ h=>h.elim) (λ_ h=>h.elim) (λ_ h=>h.elim)
 ·rintro b (hb|hb)
  ·exact JX (h.Ssz b hb) hx.size
  ·exact hb.2
 ·rintro b (hb|hb)
  ·exact h.Sb b hb
  ·exact .inr (.inr (by omega))
 ·rintro i b hF (hb|hb)
  ·exact h.FS i b hF hb
  ·have:=h.Fsz i b hF;omega
 ·intro i b off hp
  obtain⟨h1,h2,h3,h4⟩:=h.plz i b off hp;refine⟨JX h1 hx.size,?_,h3,h4⟩;rintro(hb|hb)
  ·exact h2 hb
  ·omega
 ·exact λi _=>⟨rfl,rfl,rfl,rfl,λb o hF=>hx.cell b o (h.Fsz i b hF) (λh=>h),λb off hp o=>hx.cell b o (h.plz i b off hp).1 (λh=>h)⟩
section
variable {c:fS} {B:Base} {nt:Nat} {o:Oper} {Ω:Type} {k:bW->Option Ω} {out:Ω} {fr:Bool}
theorem yi {x:Operand}{e:Kd}{m:Md}{q:Option Obj}(ho:o.op= .assign x)(hk:dH nt o.dst fr ⟨.sl e,.own m,[],false,false,[],none⟩ false [] k=some out):cc c B nt o [(.nils,q)] fr k out:=by
 refine jU (mv:=[]) hk rfl rfl rfl λe0 he a w g hg=>?_
 have h1:a.eval x= .slice none 0 0:=aH hg (cj he (x:=x) (by rw[ho];rfl));refine⟨.slice none 0 0,w,λ_=>False,none,[.slice none 0 0],?_,Ns _ _,(λi h=>by cases h),λb h=>h.elim,(λb off h=>by cases h),⟨?_,(λb off h=>by cases h)⟩,rfl,rfl,rfl⟩
 ·simp only[execOp,ho,h1];rfl
 ·exact Md.fits_zero (K:=.sl e) (m:=.own m) _ rfl
theorem vC {t:Nat}{K:Kd}{m:Md}(hc:cf c)(ho:o.op= .alloc t)(ht:au c.ty t=some K)(hm:Le K m=true)
  (hk:dH nt o.dst fr ⟨K,m,K.zero,true,false,[],none⟩ true [] k=some out):cc c B nt o [] fr k out:=by
 have hT:=hc.ty.get ht;refine jU (mv:=[]) hk rfl rfl rfl λe0 he a w g hg=>?_
 obtain⟨z,hz,hzc,_⟩:=hT.zero w;obtain⟨n1,n2⟩:=jh w z.cells t;rw[hzc]at n1 n2;have hsz:K.zc.length=K.size:=(RO.zero (S:=λ_=>True) (w:=w) K).length;refine⟨.pointer (some ⟨w.heap.size,0,none⟩),w.alloc (.cells z.cells t),λ_=>False,some (w.heap.size,0),K.zc,?_,LZ _ _ _,(λi h=>by cases h),λb h=>h.elim,?_,⟨Md.fits_zero _ hm,?_⟩,rfl,w.heap.size,0,rfl,rfl⟩
 ·have:(Instr.alloc t true (.tuple #[])).run c.P w= .ok (.pointer (some ⟨w.heap.size,0,none⟩)) (w.alloc (.cells z.cells t)):=by
   simp only[Instr.alloc,JC,hz,Js,newVar,newRow,run_newObj,JP]
   rfl
  simp only[execOp,ho,JC,this,Js,JP]
 ·intro b off e1
  simp only[Jq,JH]at e1;obtain⟨rfl,rfl⟩:=e1;exact⟨JG _,by rw[Lk];omega,λh=>h⟩
 ·rw[hzc]
  exact PlOk.mk n1 (λj _=>(n2 j).2)
theorem C7 {t:Nat}{x:Operand}{K:Kd}{z:K.T}{q:Option Obj}(hc:cf c)(ho:o.op= .box t x)(ht:eS c t K=true)
  (hk:dH nt o.dst fr ⟨K,.ro,z,true,false,[],none⟩ true [] k=some out):cc c B nt o [(.v K z,q)] fr k out:=by
 refine jU (mv:=[]) hk rfl rfl rfl λe0 he a w g hg=>?_
 obtain⟨cs,hro,hv⟩:=aH hg (cj he (x:=x) (by rw[ho];rfl));obtain⟨n1,n2⟩:=jh w (a.eval x).cells t;have hx:=LZ w (.cells (a.eval x).cells t) (λ_ _=>False);refine⟨.pointer (some ⟨w.heap.size,0,none⟩),w.alloc (.cells (a.eval x).cells t),λ_=>False,some (w.heap.size,0),cs,?_,hx,(λi h=>by cases h),λb h=>h.elim,?_,⟨MP.2 (hro.ext hx (λ_ _ _ h=>h)),?_⟩,rfl,w.heap.size,0,rfl,rfl⟩
 ·simp only[execOp,ho,Instr.box,JC,newVar,newRow,run_newObj,Js,JP]
  rfl
 ·intro b off e1
  simp only[Jq,JH]at e1;obtain⟨rfl,rfl⟩:=e1;exact⟨JG _,by rw[Lk];omega,λh=>h⟩
 ·rw[hv.2]at n1 n2⊢
  exact PlOk.mk n1 (λj _=>(n2 j).2)
theorem lR {P:Program}{B:Base}{nt:Nat}{e:Env}{a:Act}{w:World}{g:Gh}(h:InvG P B nt e a w g){x:Operand}{id n:Nat}{o:Obj}
  (hv:e.view (e.opd x)=(.al id n [],some o)) (hh:bK o=true) (hk:fu o n []=true):
  e.obj id=some (some o)/\VRep o.K (g.cs id) (a.eval x)/\Own g.S w o.K o.m o.x (g.cs id) (g.F id):=by
 obtain⟨q,cs',K',m',x',F',h1,h2,h3,f⟩:=jT h hv hh hk;simp only[cn,Jq]at h1;simp only[ck,Jq,JH]at h2;cases h1;rw[← h2.2]at h3;exact⟨jn hv,h3,((h.objs id o (jn hv)).own (bS hh)).1⟩
theorem B1 {t id n:Nat}{x:Operand}{ob:Obj}(hc:cf c)(ho:o.op= .box t x)(ht:(eS c t ob.K&&bK ob&&fu ob n []&& !ob.par)=true)
  (hk:dH nt o.dst fr ⟨ob.K,ob.m,ob.x,true,false,[],none⟩ true [(id,none)] k=some out):cc c B nt o [(.al id n [],some ob)] fr k out:=by
 simp only[Jm]at ht;refine jU (mv:=[id]) hk rfl rfl rfl λe0 he a w g hg=>?_
 obtain⟨r1,r2,r3⟩:=lR hg (cj he (x:=x) (by rw[ho];rfl)) ht.1.1.2 ht.1.2;obtain⟨n1,n2⟩:=jh w (a.eval x).cells t;have hx:=LZ w (.cells (a.eval x).cells t) (λ_ _=>False);refine⟨.pointer (some ⟨w.heap.size,0,none⟩),w.alloc (.cells (a.eval x).cells t),g.F id,some (w.heap.size,0),g.cs id,?_,hx,(λi h=>by simp at h;subst h;exact⟨ob,r1⟩),
  λb h=>.inr ⟨id,by simp,h⟩,?_,⟨r3.ext hx (λb hb=>hg.Fsz id b hb),?_⟩,rfl,w.heap.size,0,rfl,rfl⟩
 ·simp only[execOp,ho,Instr.box,JC,newVar,newRow,run_newObj,Js,JP]
  rfl
 ·intro b off e1
  simp only[Jq,JH]at e1;obtain⟨rfl,rfl⟩:=e1;exact⟨JG _,by rw[Lk];omega,λh=>by have:=hg.Fsz id _ h;omega⟩
 ·rw[r2.2]at n1 n2⊢
  exact PlOk.mk n1 (λj _=>(n2 j).2)
theorem vD {z:List Value}{n i:Nat}(hz:0<z.length)(hi:i<n):cH (madeCells z.toArray (n*z.length)).toList z.length i=z:=by
 have hle:(i+1)*z.length<=n*z.length:=JW _ hi;rw[Ku,KQ]at hle;apply List.ext_getElem
 ·rw[sQ (n:=n) (by simp[madeCells]) hi]
 ·intro j h1 h2
  have hj:j<z.length:=h2;simp only[cH,List.getElem_take,List.getElem_drop,madeCells,Mp,Array.toList_range,List.getElem_map,List.getElem_range];have:(i*z.length+j) % z.length=j:=by rw[Nat.mul_comm,Nat.mul_add_mod,Nat.mod_eq_of_lt hj]
  simp[this,hj]
theorem pX {P:Program}{ty:List (Nat×Kd)}{t:Nat}{e:Kd}(hty:TysOk P ty)(ht:TyOk P ty t (.sl e))(w:World){n cp:Int}(ik il:IntKind)(h:0<=n/\n<=cp/\cp<=(aU:Int)):
  ∃t',(Instr.makeSlice t (.int ik n) (.int il cp)).run P w= .ok (.slice (some ⟨w.heap.size,0,none⟩) n.toNat cp.toNat) (w.alloc (.cells (madeCells e.zc.toArray (cp.toNat*e.size)) t')):=by
 obtain⟨t',hu,hl⟩:=ht.sl e rfl;obtain⟨i,z,h1,h2,h3,h4,h5,h6⟩:=(hty.get hl).info;refine⟨t',?_⟩;have hb:(i.bytes:Int)*cp<=281474976710656:=by
  have:(i.bytes:Int)*cp<=4096*(aU:Int):=Int.mul_le_mul (by omega) h.2.2 (by omega) (by omega);have e2:(aU:Int)=4294967296:=rfl;rw[e2]at this;omega
 have:=run_make (P:=P) w t t' i z hu h1 h4 ik il n cp h.1 h.2.1 hb (by have e2:(aU:Int)=4294967296:=rfl;omega);rw[h5,h2]at this;exact this
theorem jI (K:Kd):K.zc.length=K.size:=(RO.zero (S:=λ_=>True) (w:=default) K).length
theorem vE {S:Nat->Prop}{w:World}{e:Kd}{m:Md}{t':Nat}{n cp:Nat}(hm:Le e m=true)(hn:n<=cp):
  Own S (w.alloc (.cells (madeCells e.zc.toArray (cp*e.size)) t')) (.sl e) (.own m) (JZ n e.zero) [.slice (some ⟨w.heap.size,0,none⟩) n cp] (λb=>b=w.heap.size):=by
 obtain⟨n1,n2⟩:=jh w (madeCells e.zc.toArray (cp*e.size)) t';have hz:=jI e;have hsz:(madeCells e.zc.toArray (cp*e.size)).size=cp*e.size:=size_madeCells _ _;rw[hsz]at n2;have hle:n*e.size<=cp*e.size:=JW _ hn;have key:=um (S:=S) (w:=w.alloc (.cells (madeCells e.zc.toArray (cp*e.size)) t')) (e:=e) (m:=m) (xs:=JZ n e.zero) (L:=(madeCells e.zc.toArray (cp*e.size)).toList.take (n*e.size))
  (b:=w.heap.size) (o:=0) (cap:=cp) (F:=λb=>b=w.heap.size) ?_ (by simpa using hn) n2 rfl (λ_ _=>False) (λ_ _ h=>h.elim) (λ_ h=>h) (λ_ _ _ _ h=>h.elim) ?_
 ·simpa using key
 ·have:=n1.sub 0 (n*e.size);simpa using this
 ·intro i hi
  have hi':i<n:=by simpa using hi
  have e1:cH ((madeCells e.zc.toArray (cp*e.size)).toList.take (n*e.size)) e.size i=e.zc:=by
   have h0:=vD (z:=e.zc) (n:=cp) (i:=i) (by rw[hz];exact e.size_pos) (by omega);rw[hz]at h0;have h1:=pW (L:=(madeCells e.zc.toArray (cp*e.size)).toList.take (n*e.size)) (R:=(madeCells e.zc.toArray (cp*e.size)).toList.drop (n*e.size)) (s:=e.size) (n:=n) (i:=i)
    (by rw[KU,Array.length_toList,hsz,Nat.min_eq_left hle]) hi'
   rw[KP]at h1;rw[← h1];exact h0
  rw[e1,List.getElem_replicate];exact Md.fits_zero _ hm
theorem vF {t:Nat}{x y:Operand}{ik il:IntKind}{n cp:Int}{e:Kd}{m:Md}{q1 q2:Option Obj}(hc:cf c)(ho:o.op= .makeSlice t x y)(ht:au c.ty t=some (.sl e))(hm:Le e m=true)
  (h:0<=n/\n<=cp/\cp<=(aU:Int)) (hk:dH nt o.dst fr ⟨.sl e,.own m,JZ n.toNat e.zero,false,false,[],none⟩ false [] k=some out):cc c B nt o [(.v (.int ik) n,q1),(.v (.int il) cp,q2)] fr k out:=by
 have hT:=hc.ty.get ht;refine jU (mv:=[]) hk rfl rfl rfl λe0 he a w g hg=>?_
 obtain⟨v1,v2⟩:=eK he (x:=x) (y:=y) (by rw[ho];rfl);obtain⟨t',hr⟩:=pX hc.ty hT w ik il h;refine⟨.slice (some ⟨w.heap.size,0,none⟩) n.toNat cp.toNat,_,λb=>b=w.heap.size,none,[.slice (some ⟨w.heap.size,0,none⟩) n.toNat cp.toNat],?_,LZ _ _ _,(λi h=>by cases h),
  λb hb=>.inl ⟨by omega,by rw[Lk];omega⟩,(λb off h=>by cases h),⟨vE (t':=t') hm (by omega),(λb off h=>by cases h)⟩,rfl,rfl,rfl⟩
 simp only[execOp,ho,eL (aH hg v1),eL (aH hg v2),JC,hr,Js,JP]
theorem yj {t:Nat}{x y:Operand}{ik il:IntKind}{n cp:Int}{e:Kd}{q1 q2:Option Obj}(hc:cf c)(ho:o.op= .makeSlice t x y)(ht:au c.ty t=some (.sl e))
  (h:0<=n/\n<=cp/\cp<=(aU:Int)) (hk:cz nt o.dst (.v (.sl e) (JZ n.toNat e.zero)) k=some out):cc c B nt o [(.v (.int ik) n,q1),(.v (.int il) cp,q2)] fr k out:=by
 have hT:=hc.ty.get ht;refine mA hk λe0 he a w g hg=>?_
 obtain⟨v1,v2⟩:=eK he.1 (x:=x) (y:=y) (by rw[ho];rfl);obtain⟨t',hr⟩:=pX hc.ty hT w ik il h;have hx:=LZ w (.cells (madeCells e.zc.toArray (cp.toNat*e.size)) t') (λ_ _=>False);refine⟨.slice (some ⟨w.heap.size,0,none⟩) n.toNat cp.toNat,_,_,?_,hg.grow hx,[.slice (some ⟨w.heap.size,0,none⟩) n.toNat cp.toNat],?_,rfl,rfl⟩
 ·simp only[execOp,ho,eL (aH hg v1),eL (aH hg v2),JC,hr,Js,JP]
 ·exact Mx (λb hb=>.inl hb) (λb hb=>.inr ⟨by omega,by rw[Lk];omega⟩) (vE (S:=g.S) (m:=.ro) (by cases e<;>rfl) (by omega))
end
theorem jV:∀{l:List Nat},nodup l=true->l.Nodup
 |[],_=>List.nodup_nil
 |a::l,h=>by
  simp only[nodup,Jm]at h;refine LA.2 ⟨λhm=>?_,jV h.2⟩;have:(l.any (Nat.beq a))=true:=List.any_eq_true.2 ⟨a,hm,by simp⟩;rw[this]at h
  simp at h
theorem C8 (vs:List Value)(off:Nat):∀(j:Nat) (cs:Array Value),off+j+vs.length<=cs.size->
  ((vs.zipIdx j).foldl (λcs q=>cs.setIfInBounds (off+q.2) q.1) cs).size=cs.size/\
  ∀p,((vs.zipIdx j).foldl (λcs q=>cs.setIfInBounds (off+q.2) q.1) cs)[p]? =if off+j<=p/\p<off+j+vs.length then vs[p - (off+j)]? else cs[p]?:=by
 induction vs with
 |nil=>intro j cs _;refine⟨rfl,λp=>?_⟩;rw[ao (by simp only[List.length_nil];omega)];rfl
 |cons v r ih=>
  intro j cs h;simp only[Jj]at h;obtain⟨h1,h2⟩:=ih (j+1) (cs.setIfInBounds (off+j) v) (by simp;omega);simp only[List.zipIdx_cons,List.foldl_cons];refine⟨by rw[h1];simp,λp=>?_⟩;rw[h2 p]
  by_cases hp:off+(j+1)<=p/\p<off+(j+1)+r.length
  ·rw[ab hp,ab (by simp;omega),show p - (off+j)=(p - (off+(j+1)))+1 by omega]
   simp
  ·rw[ao hp]
   by_cases hj:p=off+j
   ·subst hj
    rw[ab (by simp),Nat.sub_self]
    simp[Nj,show off+j<cs.size by omega]
   ·rw[ao (by simp;omega)]
    simp[Ne.symm hj,Nj]
theorem uq (place:Nat->Option (Nat×Nat)):∀(vals:List (Nat×Value)) (cells:Array Value),(vals.map (·.1)).Nodup->
  (∀i v,(i,v)∈vals->∃off,place i=some (off,v.cells.size)/\off+v.cells.size<=cells.size)->
  (∀i j oi si oj sj,i≠j->place i=some (oi,si)->place j=some (oj,sj)->oi+si<=oj\/oj+sj<=oi)->
  ∃r,Oh place cells vals=some r/\r.size=cells.size/\
   (∀i v off,au vals i=some v->place i=some (off,v.cells.size)->(r.toList.drop off).take v.cells.size=v.cells.toList)/\
   (∀p,(∀i v off,au vals i=some v->place i=some (off,v.cells.size)->p<off\/off+v.cells.size<=p)->r[p]? =cells[p]?)
 |[],cells,_,_,_=>⟨cells,rfl,rfl,λ_ _ _ h=>by simp[au]at h,λ_ _=>rfl⟩
 |(i,v)::rest,cells,hk,hp,hd=>by
  obtain⟨off,h1,h2⟩:=hp i v JA;have hk':=LA.1 (show(i::rest.map (·.1)).Nodup from hk);have hfold:v.cells.zipIdx.foldl (λcs (q:Value×Nat)=>cs.setIfInBounds (off+q.2) q.1) cells=((v.cells.toList.zipIdx 0).foldl (λcs q=>cs.setIfInBounds (off+q.2) q.1) cells):=by
   rw[← Array.foldl_toList];simp
  obtain⟨s1,s2⟩:=C8 v.cells.toList off 0 cells (by simpa using h2);rw[← hfold]at s1 s2;obtain⟨r,r1,r2,r3,r4⟩:=uq place rest (v.cells.zipIdx.foldl (λcs (q:Value×Nat)=>cs.setIfInBounds (off+q.2) q.1) cells) hk'.2
   (λj u hu=>by rw[s1];exact hp j u (JE _ hu)) hd
  have notin:∀j u,au rest j=some u->j≠i:=λj u hu e=>hk'.1 (by rw[← e];exact KG.2 ⟨(j,u),o5 hu,rfl⟩)
  have mine:∀p,off<=p->p<off+v.cells.size->r[p]? =v.cells[p - off]?:=by
   intro p hp1 hp2;rw[r4 p (λj u oj hu hpj=>?_),s2 p,ab (by simpa using⟨hp1,hp2⟩)]
   ·simp
   ·rcases hd i j off _ oj _ (λe=>notin j u hu e.symm) h1 hpj with h|h<;>omega
  refine⟨r,?_,by rw[r2,s1],?_,?_⟩
  ·rw[Oh,h1]
   simp only[ne_eq,not_true_eq_false,decide_false,Bool.false_or];rw[ao (by simp;omega)];exact r1
  ·intro j u oj hu hpj
   by_cases hij:i=j
   ·subst hij
    have:u=v:=by simp[au]at hu;exact hu.symm
    subst this;rw[h1]at hpj;simp only[Jq,JH,and_true]at hpj;subst hpj;apply M4;intro p;rw[Lm,Lq]
    split
    ·rename_i hlt
     have:=mine (off+p) (by omega) (by omega);rw[show off+p - off=p by omega]at this;simpa using this
    ·rename_i hge
     rw[List.getElem?_eq_none (by simp;omega)]
   ·rw[aX hij]at hu
    exact r3 j u oj hu hpj
  ·intro p hout
   rw[r4 p (λj u oj hu hpj=>hout j u oj (by rw[aX (λe=>notin j u hu e.symm)];exact hu) hpj),s2 p];have:=hout i v off (aQ _ _ _) h1;rw[ao (by simp;omega)]
def ky (e:Env)(g:Gh)(w:World):ji->Value->Prop
 | .v K x,v=>∃cs,RO g.S w K x cs/\VRep K cs v
 | .nils,v=>v= .slice none 0 0
 | .al id o,v=>e.obj id=some (some o)/\o.hl=none/\o.par=false/\VRep o.K (g.cs id) v/\Own g.S w o.K o.m o.x (g.cs id) (g.F id)
theorem vG {P:Program}{B:Base}{nt:Nat}{e:Env}{a:Act}{w:World}{g:Gh}(h:InvG P B nt e a w g){x:Operand}{v:bF}{p:ji}(hv:e.view (e.opd x)=v)(hp:oT v=some p):
  ky e g w p (a.eval x):=by
 unfold oT at hp
 split at hp
 ·cases hp;exact aH h hv
 ·cases hp;exact aH h hv
 ·rename_i id n o
  split at hp
  ·rename_i hc
   cases hp;simp only[Jm]at hc;obtain⟨r1,r2,r3⟩:=lR h hv hc.1.1 hc.1.2;exact⟨r1,bS hc.1.1,by simpa using hc.2,r2,r3⟩
  ·cases hp
 ·cases hp
theorem pc {P:Program}{B:Base}{nt:Nat}{e:Env}{a:Act}{w:World}{g:Gh}(h:InvG P B nt e a w g):∀{ps:List (Nat×Operand)} {vs:List bF} {pl:List (Nat×ji)},
  ps.map (λq=>e.view (e.opd q.2))=vs->gj ps vs=some pl->pl.map (·.1)=ps.map (·.1)/\
   (∀i p,au pl i=some p->∃v,au (ps.map λq=>(q.1,a.eval q.2)) i=some v/\ky e g w p v)/\(∀i,au pl i=none->au (ps.map λq=>(q.1,a.eval q.2)) i=none)/\
   (∀i p,(i,p)∈pl->∃v,ky e g w p v)
 |[],[],pl,_,hp=>by
  simp only[gj,Jq]at hp;subst hp;exact⟨rfl,λ_ _ h=>by simp[au]at h,λ_ _=>rfl,λ_ _ h=>by cases h⟩
 |(i,x)::ps,v::vs,pl,hv,hp=>by
  simp only[Jy,Ky]at hv;simp only[gj]at hp
  split at hp
  ·rename_i p r h1 h2
   cases hp;obtain⟨r1,r2,r3,r4⟩:=pc h hv.2 h2;have hpr:=vG h hv.1 h1;refine⟨by simp[r1],λj q hj=>?_,λj hj=>?_,λj q hj=>?_⟩
   ·by_cases hij:i=j
    ·subst hij
     rw[aQ]at hj;cases hj;exact⟨a.eval x,by rw[Jy,aQ],hpr⟩
    ·rw[aX hij]at hj
     rw[Jy,aX hij];exact r2 j q hj
   ·by_cases hij:i=j
    ·subst hij;rw[aQ]at hj;cases hj
    ·rw[aX hij]at hj
     rw[Jy,aX hij];exact r3 j hj
   ·rcases JJ.1 hj with hj|hj
    ·cases hj;exact⟨_,hpr⟩
    ·exact r4 j q hj
  ·cases hp
 |[],_::_,_,_,hp=>by simp[gj]at hp
 |_::_,[],_,hv,_=>by simp at hv
def jp (g:Gh)(pl:List (Nat×ji))(n:Nat)(b:Nat):Prop:=∃id o,au pl n=some (.al id o)/\g.F id b
theorem kE {pl:List (Nat×ji)}:∀{n id:Nat} {o:Obj},au pl n=some (.al id o)->id∈ft pl:=by
 induction pl with
 |nil=>intro n id o h;simp[au]at h
 |cons q l ih=>
  intro n id o h;obtain⟨i,p⟩:=q
  by_cases hi:i=n
  ·subst hi
   rw[aQ]at h;cases h
   simp[ft]
  ·rw[aX hi]at h
   have:=ih h;cases p<;>simp[ft,this]
theorem tf {pl:List (Nat×ji)}:(ft pl).Nodup->∀{n n' id:Nat} {o o':Obj},au pl n=some (.al id o)->au pl n'=some (.al id o')->n=n':=by
 induction pl with
 |nil=>intro _ n n' id o o' h;simp[au]at h
 |cons q l ih=>
  intro hnd n n' id o o' h h';obtain⟨i,p⟩:=q;have hl:(ft l).Nodup:=by cases p<;>simp[ft]at hnd<;>first|exact hnd|exact hnd.2
  by_cases hi:i=n<;>by_cases hi':i=n'
  ·exact hi.symm.trans hi'
  ·subst hi
   rw[aQ]at h;rw[aX hi']at h';cases h
   simp[ft]at hnd
   exact bJ (kE h') hnd.1
  ·subst hi'
   rw[aQ]at h';rw[aX hi]at h;cases h'
   simp[ft]at hnd
   exact bJ (kE h) hnd.1
  ·rw[aX hi]at h
   rw[aX hi']at h';exact ih hl h h'
theorem B2 {S:Nat->Prop}{w:World}{F:Nat->Prop}:∀{K:Kd} {m:Md} {y:K.T},zA K=some y->Le K m=true->Own S w K m y [.slice none 0 0] F
 | .sl e,m,y,h,hm=>by
  simp only[zA,Jq]at h;subst h;exact Md.fits_zero (K:=.sl e) F hm
 | .int _,_,_,h,_| .bool,_,_,h,_| .str,_,_,h,_| .err,_,_,h,_| .raw _,_,_,h,_| .st _,_,_,h,_| .pair _ _,_,_,h,_=>by simp[zA]at h
theorem Own.of_flat {S:Nat->Prop}{w:World}{F:Nat->Prop}:∀{K:Kd} {m:Md} {y:K.T} {cs:List Value},K.flat=true->Le K m=true->RO S w K y cs->Own S w K m y cs F
 |K,.ro,y,cs,_,_,h=>MP.2 h
 | .st k,.own m,y,cs,hf,hm,h=>Own.of_flat (K:=k) (m:=.own m) hf hm h
 | .st k,.pr m n,y,cs,hf,hm,h=>Own.of_flat (K:=k) (m:=.pr m n) hf hm h
 | .pair a b,.pr m n,y,cs,hf,hm,h=>by
  have hf':(a.flat&&b.flat)=true:=hf;have hm':(Le a m&&Le b n)=true:=hm;rw[Jm]at hf' hm';obtain⟨c1,c2,rfl,h1,h2⟩:=h;exact⟨c1,c2,λ_=>False,λ_=>False,rfl,λ_ h=>h.elim,λ_ h=>h.elim,λ_ h=>h.elim,Own.of_flat hf'.1 hm'.1 h1,Own.of_flat hf'.2 hm'.2 h2⟩
 | .sl _,.own _,_,_,hf,_,_=>by simp[Kd.flat]at hf
 | .int _,.own _,_,_,_,h,_| .bool,.own _,_,_,_,h,_| .str,.own _,_,_,_,h,_| .err,.own _,_,_,_,h,_| .raw _,.own _,_,_,_,h,_| .pair _ _,.own _,_,_,_,h,_| .int _,.pr _ _,_,_,_,h,_| .bool,.pr _ _,_,_,_,h,_| .str,.pr _ _,_,_,_,h,_| .err,.pr _ _,_,_,_,h,_| .raw _,.pr _ _,_,_,_,h,_
 | .sl _,.pr _ _,_,_,_,h,_=>by simp[Le]at h
theorem jW {e:Env}{g:Gh}{w:World}{K:Kd}{m:Md}{p:Option ji}{y:K.T}{v:Value}(hc:jl K m p=some y)(hp:∀q,p=some q->ky e g w q v):
  (p=none/\Own g.S w K m y K.zc (λ_=>False))\/∃q,p=some q/\Own g.S w K m y v.cells.toList (λb=>∃id o,q= .al id o/\g.F id b):=by
 cases p with
 |none=>
  simp only[jl]at hc
  split at hc
  ·cases hc;exact .inl ⟨rfl,Md.fits_zero _ ‹_›⟩
  ·cases hc
 |some q=>
  refine .inr ⟨q,rfl,?_⟩;have hr:=hp q rfl;cases q with
  |v K' z=>
   simp only[jl]at hc
   split at hc
   ·rename_i hk
    have:=Ka hk;subst this
    split at hc
    ·rename_i hro
     simp only[Jq]at hc;have hc':z=y:=hc;subst hc';obtain⟨cs,h1,h2⟩:=hr;rw[h2.2];simp only[I4,Jm,Bool.or_eq_true]at hro;rcases hro with hro|hro
     ·rw[Lh hro];exact MP.2 h1
     ·exact Own.of_flat hro.1 hro.2 h1
    ·cases hc
   ·cases hc
  |nils=>
   simp only[jl]at hc
   split at hc
   ·have hr':v= .slice none 0 0:=hr
    rw[hr'];exact B2 hc ‹_›
   ·cases hc
  |al id ob=>
   simp only[jl]at hc
   split at hc
   ·rename_i hk
    have hk':=Ka hk
    split at hc
    ·rename_i hm
     have hm':=Lh hm;obtain⟨_,_,_,h4,h5⟩:=hr;rw[h4.2];obtain⟨oK,om,ox,obx,opar,olog,ohl⟩:=ob;dsimp only at hk' hm' hk hc h5;subst hk';subst hm';simp only[Jq]at hc;have hc':ox=y:=hc;subst hc';exact h5.mono (λ_ h=>h) (λ_ _ _ _ h=>h) (λb hb=>⟨id,_,rfl,hb⟩) (λ_ _ _=>⟨rfl,rfl⟩)
    ·cases hc
   ·cases hc
theorem Md.fits_ro (K:Kd):Le K .ro=true:=by cases K<;>rfl
theorem Md.fits_snd {a b:Kd}{m:Md}(h:Le (.pair a b) m=true):Le b m.snd=true:=by
 cases m with
 |ro=>exact Md.fits_ro b
 |own _=>simp[Le]at h
 |pr m n=>
  have h':(Le a m&&Le b n)=true:=h;rw[Jm]at h';exact h'.2
theorem Own.pair_of {S:Nat->Prop}{w:World}{a b:Kd}{m:Md}{x:a.T}{y:b.T}{c1 c2:List Value}{F F1 F2:Nat->Prop}(hm:Le (.pair a b) m=true)
  (h1:∀b,F1 b->F b) (h2:∀b,F2 b->F b) (h3:∀b,F1 b->¬F2 b) (ha:Own S w a m.fst x c1 F1) (hb:Own S w b m.snd y c2 F2):
  Own S w (.pair a b) m ((x,y):a.T×b.T) (c1++c2) F:=by
 cases m with
 |ro=>exact⟨c1,c2,rfl,MP.1 ha,MP.1 hb⟩
 |own _=>simp[Le]at hm
 |pr m n=>exact⟨c1,c2,F1,F2,rfl,h1,h2,h3,ha,hb⟩
theorem zJ {ty:List (Nat×Kd)}{e:Env}{g:Gh}{w:World}{pl:List (Nat×ji)}{R Z:List Value}(hF:∀n n' b,n≠n'->jp g pl n b->¬jp g pl n' b):
  ∀(fs:List Field) (k:Kd) (m:Md) (n off:Nat) (x:k.T),cB ty fs off k=true->Le k m=true->BS k m n pl=some x->R.length=off+k.size->Z.drop off=k.zc->
   (∀i (fd:Field) K,fs[i]? =some fd->au ty fd.type=some K->(∀p,au pl (n+i)=some p->∃v:Value,ky e g w p v/\(R.drop fd.offset).take K.size=v.cells.toList)/\
    (au pl (n+i)=none->(R.drop fd.offset).take K.size=(Z.drop fd.offset).take K.size))->
   Own g.S w k m x (R.drop off) (λb=>∃i,n<=i/\jp g pl i b)
 |[],_,_,_,_,_,h,_,_,_,_,_=>by simp[cB]at h
 |[fd],k,m,n,off,x,h,hm,hb,hR,hZ,hp=>by
  simp only[cB,Jm]at h;obtain⟨⟨h1,h2⟩,h3⟩:=h;have e1:=JM h1;have hnp:=Kd.np_ok h3;have hb':jl k m (au pl n)=some x:=by
   cases k<;>first|exact hb|exact bJ rfl (hnp _ _)
  obtain⟨p1,p2⟩:=hp 0 fd k rfl (fg h2);rw[e1,KH]at p1 p2;have hall:(R.drop off).take k.size=R.drop off:=JI (by rw[LH];omega);rw[hall]at p1 p2;cases hl:au pl n with
  |none=>
   rw[hl]at hb';rcases jW (e:=e) (g:=g) (w:=w) (v:=undef) hb' (λq hq=>by cases hq)with⟨_,ho⟩|⟨q,hq,_⟩
   ·rw[p2 hl,hZ,JI (by rw[jI];omega)]
    exact ho.mono (λ_ h=>h) (λ_ _ _ _ h=>h) (λ_ h=>h.elim) (λ_ _ h=>h.elim)
   ·cases hq
  |some p=>
   obtain⟨v,r1,r2⟩:=p1 p hl;rw[hl]at hb';rcases jW (e:=e) (g:=g) (w:=w) (v:=v) hb' (λq hq=>by cases hq;exact r1)with⟨hq,_⟩|⟨q,hq,ho⟩
   ·cases hq
   ·cases hq
    rw[r2];refine ho.mono (λ_ h=>h) (λ_ _ _ _ h=>h) (λb hb=>?_) (λ_ _ _=>⟨rfl,rfl⟩);obtain⟨id,ob,rfl,hf⟩:=hb;exact⟨n,JG _,id,ob,hl,hf⟩
 |fd::gd::r,k,m,n,off,x,h,hm,hb,hR,hZ,hp=>by
  cases k with
  |pair a b=>
   simp only[cB,Jm]at h;obtain⟨⟨⟨h1,h2⟩,h3⟩,h4⟩:=h;have e1:=JM h1;have hb':(match jl a m.fst (au pl n),BS b m.snd (n+1) pl with|some x,some y=>some ((x,y):a.T×b.T)|_,_=>none)=some x:=hb;simp only[Kd.size]at hR;have hZ':Z.drop off=a.zc++b.zc:=hZ;have hms:Le b m.snd=true:=Md.fits_snd hm;cases hx1:jl a m.fst (au pl n)with
   |none=>rw[hx1]at hb';cases hb'
   |some x1=>
    cases hx2:BS b m.snd (n+1) pl with
    |none=>rw[hx1,hx2]at hb';cases hb'
    |some x2=>
     rw[hx1,hx2]at hb';simp only[Jq]at hb';subst hb';have rest:=zJ (ty:=ty) (e:=e) (w:=w) (R:=R) (Z:=Z) hF (gd::r) b m.snd (n+1) (off+a.size) x2 h4 hms hx2 (by omega)
      (by rw[← Lo,hZ',← jI a,Kx])
      (λi fd' K hi hK=>by
       have:=hp (i+1) fd' K (by simpa using hi) hK
       rwa [show n+(i+1)=n+1+i by omega]at this)
     obtain⟨p1,p2⟩:=hp 0 fd a rfl (fg h2);rw[e1,KH]at p1 p2;have split:R.drop off=(R.drop off).take a.size++R.drop (off+a.size):=by rw[← Lo,KP]
     have first:Own g.S w a m.fst x1 ((R.drop off).take a.size) (jp g pl n):=by
      cases hl:au pl n with
      |none=>
       rw[hl]at hx1;rcases jW (e:=e) (g:=g) (w:=w) (v:=undef) hx1 (λq hq=>by cases hq)with⟨_,ho⟩|⟨q,hq,_⟩
       ·rw[p2 hl,hZ',← jI a,KM]
        exact ho.mono (λ_ h=>h) (λ_ _ _ _ h=>h) (λ_ h=>h.elim) (λ_ _ h=>h.elim)
       ·cases hq
      |some p=>
       obtain⟨v,r1,r2⟩:=p1 p hl;rw[hl]at hx1;rcases jW (e:=e) (g:=g) (w:=w) (v:=v) hx1 (λq hq=>by cases hq;exact r1)with⟨hq,_⟩|⟨q,hq,ho⟩
       ·cases hq
       ·cases hq
        rw[r2];refine ho.mono (λ_ h=>h) (λ_ _ _ _ h=>h) (λb hb=>?_) (λ_ _ _=>⟨rfl,rfl⟩);obtain⟨id,ob,rfl,hf⟩:=hb;exact⟨id,ob,hl,hf⟩
     rw[split];exact Own.pair_of (F:=λb=>∃i,n<=i/\jp g pl i b) (F1:=jp g pl n) (F2:=λb=>∃i,n+1<=i/\jp g pl i b) hm
      (λb hb=>⟨n,JG _,hb⟩) (λb ⟨i,hi,hb⟩=>⟨i,by omega,hb⟩) (λb hb ⟨i,hi,hb2⟩=>hF n i b (by omega) hb hb2) first rest
  |_=>simp[cB]at h
theorem vH {e:Env}{g:Gh}{w:World}{pl:List (Nat×ji)}{R Z:List Value}{K:Kd}{m:Md}{N:Nat}(hR:R.length=N*K.size):
  ∀(k n:Nat) (xs:List K.T),qN K m n pl k=some xs->n+k=N->(∀i,i<N->cH Z K.size i=K.zc)->
   (∀i,i<N->(∀p,au pl i=some p->∃v:Value,ky e g w p v/\cH R K.size i=v.cells.toList)/\(au pl i=none->cH R K.size i=cH Z K.size i))->
   xs.length=k/\∀i (h:i<xs.length),Own g.S w K m xs[i] (cH R K.size (n+i)) (jp g pl (n+i))
 |0,n,xs,h,_,_,_=>by
  simp only[qN,Jq]at h;subst h;exact⟨rfl,λi h=>bJ h (Jx _)⟩
 |k+1,n,xs,h,hn,hZ,hp=>by
  simp only[qN]at h
  split at h
  ·rename_i x l hx hl
   cases h;obtain⟨h1,h2⟩:=vH hR k (n+1) l hl (by omega) hZ hp;refine⟨by simp[h1],λi hi=>?_⟩;cases i with
   |zero=>
    simp only[List.getElem_cons_zero,KH];obtain⟨p1,p2⟩:=hp n (by omega);cases hq:au pl n with
    |none=>
     rw[hq]at hx;rcases jW (e:=e) (g:=g) (w:=w) (v:=undef) hx (λq hq=>by cases hq)with⟨_,ho⟩|⟨q,hq,_⟩
     ·rw[p2 hq,hZ n (by omega)]
      exact ho.mono (λ_ h=>h) (λ_ _ _ _ h=>h) (λ_ h=>h.elim) (λ_ _ h=>h.elim)
     ·cases hq
    |some p=>
     obtain⟨v,r1,r2⟩:=p1 p hq;rw[hq]at hx;rcases jW (e:=e) (g:=g) (w:=w) (v:=v) hx (λq hq=>by cases hq;exact r1)with⟨hq,_⟩|⟨q,hq,ho⟩
     ·cases hq
     ·cases hq
      rw[r2];refine ho.mono (λ_ h=>h) (λ_ _ _ _ h=>h) (λb hb=>?_) (λ_ _ _=>⟨rfl,rfl⟩);obtain⟨id,ob,rfl,hf⟩:=hb;exact⟨id,ob,by assumption,hf⟩
   |succ i=>
    have:=h2 i (by simpa using hi);rw[show n+(i+1)=n+1+i by omega];simpa using this
  ·cases h
theorem pf {e:Env}{g:Gh}{w:World}{p:ji}{v:Value}{K:Kd}{m:Md}{y:K.T}(hr:ky e g w p v)(hc:jl K m (some p)=some y):v.cells.size=K.size:=by
 rcases jW (e:=e) (g:=g) (w:=w) (v:=v) hc (λq hq=>by cases hq;exact hr)with⟨hq,_⟩|⟨q,hq,ho⟩
 ·cases hq
 ·have:=ho.length;simpa using this
theorem vI {pl:List (Nat×ji)}{ty:List (Nat×Kd)}:∀(fs:List Field) (k:Kd) (m:Md) (n off:Nat) (x:k.T),cB ty fs off k=true->BS k m n pl=some x->
  ∀(i:Nat) (fd:Field) (K:Kd),fs[i]? =some fd->au ty fd.type=some K->off<=fd.offset/\fd.offset+K.size<=off+k.size/\(∀p,au pl (n+i)=some p->∃m' y,jl K m' (some p)=some y)
 |[],_,_,_,_,_,h,_,_,_,_,_,_=>by simp[cB]at h
 |[fd0],k,m,n,off,x,h,hb,i,fd,K,hi,hK=>by
  simp only[cB,Jm]at h;obtain⟨⟨h1,h2⟩,h3⟩:=h;have e1:=JM h1;have hnp:=Kd.np_ok h3;have hb':jl k m (au pl n)=some x:=by
   cases k<;>first|exact hb|exact bJ rfl (hnp _ _)
  cases i with
  |zero=>
   simp at hi
   subst hi;rw[fg h2]at hK;cases hK;exact⟨by omega,by omega,λp hp=>⟨m,x,by rw[KH]at hp;rw[hp]at hb';exact hb'⟩⟩
  |succ i=>simp at hi
 |fd0::gd::r,k,m,n,off,x,h,hb,i,fd,K,hi,hK=>by
  cases k with
  |pair a b=>
   simp only[cB,Jm]at h;obtain⟨⟨⟨h1,h2⟩,h3⟩,h4⟩:=h;have e1:=JM h1;have hb':(match jl a m.fst (au pl n),BS b m.snd (n+1) pl with|some x,some y=>some ((x,y):a.T×b.T)|_,_=>none)=some x:=hb;cases hx1:jl a m.fst (au pl n)with
   |none=>rw[hx1]at hb';cases hb'
   |some x1=>
    cases hx2:BS b m.snd (n+1) pl with
    |none=>rw[hx1,hx2]at hb';cases hb'
    |some x2=>
     cases i with
     |zero=>
      simp at hi
      subst hi;rw[fg h2]at hK;cases hK;exact⟨by omega,by simp only[Kd.size];omega,λp hp=>⟨m.fst,x1,by rw[KH]at hp;rw[hp]at hx1;exact hx1⟩⟩
     |succ i=>
      obtain⟨q1,q2,q3⟩:=vI (gd::r) b m.snd (n+1) (off+a.size) x2 h4 hx2 i fd K (by simpa using hi) hK;exact⟨by omega,by simp only[Kd.size];omega,λp hp=>q3 p (by rw[show n+1+i=n+(i+1)by omega];exact hp)⟩
  |_=>simp[cB]at h
theorem vJ {α β:Type}{P:Program}{w:World}(f:α->Sem β)(g:α->β):∀(l:List α),(∀x,x∈l->(f x).run P w= .ok (g x) w)->(l.mapM f).run P w= .ok (l.map g) w
 |[],_=>rfl
 |x::l,h=>by
  rw[List.mapM_cons];simp only[JC,h x JA,Js,vJ f g l (λy hy=>h y (JE _ hy)),JP,Jy]
theorem rb {α β:Type}{P:Program}{w:World}(f:α->Sem β)(g:α->β)(l:Array α)(h:∀x,x∈l.toList->(f x).run P w= .ok (g x) w):(l.mapM f).run P w= .ok (l.map g) w:=by
 rw[Array.mapM_eq_mapM_toList,Sem.run_map,vJ f g l.toList h,Js]
 congr 1
 apply MJ
 simp
theorem C9 {ty:List (Nat×Kd)}:∀(fs:List Field) (k:Kd) (off:Nat),cB ty fs off k=true->fs.length=k.nf
 |[],_,_,h=>by simp[cB]at h
 |[fd0],k,off,h=>by
  simp only[cB,Jm]at h;have:=Kd.np_ok h.2;cases k with
  |pair a b=>exact bJ rfl (this a b)
  |_=>rfl
 |fd0::gd::r,k,off,h=>by
  cases k with
  |pair a b=>
   simp only[cB,Jm]at h;have:=C9 (gd::r) b _ h.2;simp only[Kd.nf,Jj]at this⊢;omega
  |_=>simp[cB]at h
theorem tg {pl:List (Nat×ji)}{n:Nat}(h:kI pl n=true):∀i,i∈pl.map (·.1)->i<n:=by
 intro i hi;obtain⟨q,h1,rfl⟩:=KG.1 hi;have:=List.all_eq_true.1 h q h1;exact JX (Nat.lt_of_succ_le (JV this)) (JG _)
theorem ur {ty:List (Nat×Kd)}:∀(fs:List Field) (k:Kd) (off:Nat),cB ty fs off k=true->∀fd,fd∈fs->∃K,au ty fd.type=some K
 |[],_,_,h,_,_=>by simp[cB]at h
 |[fd0],k,off,h,fd,hm=>by
  simp only[cB,Jm]at h
  simp at hm
  subst hm;exact⟨k,fg h.1.2⟩
 |fd0::gd::r,k,off,h,fd,hm=>by
  cases k with
  |pair a b=>
   simp only[cB,Jm]at h;rcases JJ.1 hm with rfl|hm
   ·exact⟨a,fg h.1.1.2⟩
   ·exact ur (gd::r) b _ h.2 fd hm
  |_=>simp[cB]at h
theorem lz {ty:List (Nat×Kd)}:∀(fs:List Field) (k:Kd) (off:Nat),cB ty fs off k=true->∀(i j:Nat) (fi fj:Field) (Ki Kj:Kd),i<j->fs[i]? =some fi->fs[j]? =some fj->au ty fi.type=some Ki->au ty fj.type=some Kj->
  fi.offset+Ki.size<=fj.offset/\off<=fj.offset
 |[],_,_,h,_,_,_,_,_,_,_,_,_,_,_=>by simp[cB]at h
 |[fd0],k,off,h,i,j,fi,fj,Ki,Kj,hij,hi,hj,_,_=>by
  cases j with
  |zero=>omega
  |succ j=>simp at hj
 |fd0::gd::r,k,off,h,i,j,fi,fj,Ki,Kj,hij,hi,hj,hKi,hKj=>by
  cases k with
  |pair a b=>
   simp only[cB,Jm]at h;obtain⟨⟨⟨h1,h2⟩,h3⟩,h4⟩:=h;have e1:=JM h1;cases j with
   |zero=>omega
   |succ j=>
    have low:off+a.size<=fj.offset:=by
     have:∀(fs:List Field) (k:Kd) (off:Nat),cB ty fs off k=true->∀(j:Nat) (fj:Field),fs[j]? =some fj->off<=fj.offset:=by
      intro fs
      induction fs with
      |nil=>intro k off h;simp[cB]at h
      |cons f0 r ih=>
       intro k off h j fj hj;cases r with
       |nil=>
        simp only[cB,Jm]at h;have:=JM h.1.1;cases j with
        |zero=>simp at hj;subst hj;omega
        |succ j=>simp at hj
       |cons f1 r=>
        cases k with
        |pair a b=>
         simp only[cB,Jm]at h;have:=JM h.1.1.1;cases j with
         |zero=>simp at hj;subst hj;omega
         |succ j=>have:=ih b (off+a.size) h.2 j fj (by simpa using hj);omega
        |_=>simp[cB]at h
     exact this (gd::r) b (off+a.size) h4 j fj (by simpa using hj)
    cases i with
    |zero=>
     simp at hi
     subst hi;rw[fg h2]at hKi;cases hKi;omega
    |succ i=>
     have:=lz (gd::r) b (off+a.size) h4 i j fi fj Ki Kj (by omega) (by simpa using hi) (by simpa using hj) hKi hKj;omega
  |_=>simp[cB]at h
theorem oa {α:Type}:∀{l:List (Nat×α)} {i:Nat} {x:α},(l.map (·.1)).Nodup->(i,x)∈l->au l i=some x
 |[],_,_,_,h=>by cases h
 |(j,y)::l,i,x,hn,h=>by
  have hn':=LA.1 (show(j::l.map (·.1)).Nodup from hn);rcases JJ.1 h with h|h
  ·cases h;exact aQ _ _ _
  ·by_cases hj:j=i
   ·subst hj;exact bJ (KG.2 ⟨(j,x),h,rfl⟩) hn'.1
   ·rw[aX hj];exact oa hn'.2 h
section
variable {c:fS} {B:Base} {nt:Nat} {o:Oper} {Ω:Type} {k:bW->Option Ω} {out:Ω} {fr:Bool}
theorem th {P:Program}{nt:Nat}{ty:List (Nat×Kd)}(hty:TysOk P ty){e:Env}{a:Act}{w:World}{g:Gh}(hg:InvG P B nt e a w g){t:Nat}{K:Kd}{m:Md}{x:K.T}{ps:Array (Nat×Operand)}{vs:List bF}{pl:List (Nat×ji)}
  (ht:au ty t=some (.st K)) (hv:ps.toList.map (λq=>e.view (e.opd q.2))=vs) (hp:gj ps.toList vs=some pl) (hn:nodup (ft pl)=true) (hk:nodup (pl.map (·.1))=true) (hin:kI pl K.nf=true) (hm:Le K m=true) (hb:BS K m 0 pl=some x):
  ∃R:List Value,(Instr.build t (ps.map λq=>(q.1,a.eval q.2))).run P w= .ok (.agg R.toArray) w/\Own g.S w K m x R (λb=>∃i,jp g pl i b):=by
 have hT:=hty.get ht;obtain⟨fs,hu,hfs⟩:=hT.st K rfl;obtain⟨z,hz,hzc,_⟩:=hT.zero w;obtain⟨k1,k2,k3,k4⟩:=pc hg hv hp;have hplaces:(fs.mapM λf=>do pure (f.offset,← sizeOf f.type):Sem (Array (Nat×Nat))).run P w= .ok (fs.map λf=>(f.offset,match au ty f.type with|some K=>K.size|none=>0)) w:=by
  refine rb _ _ fs λf hf=>?_
  obtain⟨K',hK'⟩:=ur fs.toList K 0 hfs f hf;simp only[JC,(hty.get hK').size,Js,JP,hK']
 have hkeys:((ps.toList.map λq=>(q.1,a.eval q.2)).map (·.1)).Nodup:=by
  have:(ps.toList.map λq=>(q.1,a.eval q.2)).map (·.1)=pl.map (·.1):=by rw[k1];simp
  rw[this];exact jV hk
 have hzl:K.zc.length=K.size:=jI K;have hplc:∀(i:Nat) (fd:Field) (K':Kd),fs.toList[i]? =some fd->au ty fd.type=some K'->(fs.map λf=>(f.offset,match au ty f.type with|some K=>K.size|none=>0))[i]? =some (fd.offset,K'.size):=by
  intro i fd K' h1 h2;have:fs[i]? =some fd:=by simpa using h1
  simp[this,h2]
 have hplc':∀(i:Nat) (q:Nat×Nat),(fs.map λf=>(f.offset,match au ty f.type with|some K=>K.size|none=>0))[i]? =some q->∃(fd:Field) (K':Kd),fs.toList[i]? =some fd/\au ty fd.type=some K'/\q=(fd.offset,K'.size):=by
  intro i q h;simp only[Array.getElem?_map,Option.map_eq_some_iff]at h;obtain⟨fd,h1,h2⟩:=h;have hmem:fd∈fs.toList:=by have:=Array.mem_of_getElem? h1;simpa using this
  obtain⟨K',hK'⟩:=ur fs.toList K 0 hfs fd hmem;rw[hK']at h2;exact⟨fd,K',by simpa using h1,hK',h2.symm⟩
 have hcast:=vI (pl:=pl) fs.toList K m 0 0 x hfs hb;have vals:∀i v,au (ps.toList.map λq=>(q.1,a.eval q.2)) i=some v->∃p,au pl i=some p/\ky e g w p v:=by
  intro i v hlv;cases hl:au pl i with
  |none=>rw[k3 i hl]at hlv;cases hlv
  |some p=>
   obtain⟨v',h1,h2⟩:=k2 i p hl;rw[h1]at hlv;cases hlv;exact⟨p,rfl,h2⟩
 have hsz:fs.size=K.nf:=by have:=C9 fs.toList K 0 hfs;simpa using this
 have hin:∀i v,(i,v)∈(ps.toList.map λq=>(q.1,a.eval q.2))->i<fs.size:=by
  intro i v h;have:(ps.toList.map λq=>(q.1,a.eval q.2)).map (·.1)=pl.map (·.1):=by rw[k1];simp
  have h2:i∈pl.map (·.1):=this▸KG.2 ⟨_,h,rfl⟩;have:=tg hin i h2;omega
 obtain⟨r,r1,r2,r3,r4⟩:=uq (λi=>(fs.map λf=>(f.offset,match au ty f.type with|some K=>K.size|none=>0))[i]?) (ps.toList.map λq=>(q.1,a.eval q.2)) K.zc.toArray hkeys
  (λi v hi=>by
   have hlt:=hin i v hi;obtain⟨p,h1,h2⟩:=vals i v (oa hkeys hi);have hfd:fs.toList[i]? =some fs[i]:=by simp[hlt]
   obtain⟨K',hK'⟩:=ur fs.toList K 0 hfs fs[i] (by simp);obtain⟨c1,c2,c3⟩:=hcast i fs[i] K' hfd hK';obtain⟨m',y,h3⟩:=c3 p (by simpa using h1);have hs:=pf h2 h3;refine⟨fs[i].offset,?_,?_⟩
   ·rw[hplc i fs[i] K' hfd hK',hs]
   ·rw[hs];simp only[OW,hzl];omega)
  (λi j oi si oj sj hij hi hj=>by
   obtain⟨fi,Ki,a1,a2,a3⟩:=hplc' i _ hi;obtain⟨fj,Kj,b1,b2,b3⟩:=hplc' j _ hj;simp only[JH]at a3 b3;rcases Mk hij with hlt|hlt
   ·have:=(lz fs.toList K 0 hfs i j fi fj Ki Kj hlt a1 b1 a2 b2).1;omega
   ·have:=(lz fs.toList K 0 hfs j i fj fi Kj Ki hlt b1 a1 b2 a2).1;omega)
 refine⟨r.toList,?_,?_⟩
 ·have hzc2:z.cells=K.zc.toArray:=hzc
  simp only[Instr.build,JC,hz,Js,run_underlying hu,hplaces,hzc2,Mp,r1,JP]
 ·have hF:∀n n' b,n≠n'->jp g pl n b->¬jp g pl n' b:=by
   rintro n n' b hne ⟨id,ob,h1,h2⟩ ⟨id',ob',h3,h4⟩
   by_cases hid:id=id'
   ·subst hid
    exact hne (tf (jV hn) h1 h3)
   ·exact hg.FF id id' b hid h2 h4
  have:=zJ (ty:=ty) (e:=e) (g:=g) (w:=w) (pl:=pl) (R:=r.toList) (Z:=K.zc) hF fs.toList K m 0 0 x hfs hm hb (by simp[r2,hzl]) (by simp) ?_
  ·rw[JN]at this
   exact this.mono (λ_ h=>h) (λ_ _ _ _ h=>h) (λb ⟨i,_,h⟩=>⟨i,h⟩) (λ_ _ _=>⟨rfl,rfl⟩)
  ·intro i fd K' hi hK'
   rw[KT];obtain⟨c1,c2,c3⟩:=hcast i fd K' hi hK';refine⟨λp hpl=>?_,λhnone=>?_⟩
   ·obtain⟨v,h1,h2⟩:=k2 i p hpl
    obtain⟨m',y,h3⟩:=c3 p (by simpa using hpl);have hs:=pf h2 h3;refine⟨v,h2,?_⟩;have:=r3 i v fd.offset h1 (by rw[hplc i fd K' hi hK',hs])
    rwa [hs]at this
   ·apply M4
    intro p;rw[Lm,Lm]
    split
    ·rename_i hlt
     rw[Lq,Lq];have:=r4 (fd.offset+p) (λj v oj hj hpj=>by
      obtain⟨fj,Kj,b1,b2,b3⟩:=hplc' j _ hpj;simp only[JH]at b3;have hne:i≠j:=λe=>by subst e;rw[k3 i hnone]at hj;cases hj
      rcases Mk hne with hlt'|hlt'
      ·have:=(lz fs.toList K 0 hfs i j fd fj K' Kj hlt' hi b1 hK' b2).1;omega
      ·have:=(lz fs.toList K 0 hfs j i fj fd Kj K' hlt' b1 hi b2 hK').1;omega)
     simpa using this
    ·rfl
theorem ld {e:Env}{t:Nat}{ps:Array (Nat×Operand)}{vs:List bF}(h:e.views o=vs)(ho:o.op.operands=(ps.toList.map (·.2)).toArray):ps.toList.map (λq=>e.view (e.opd q.2))=vs:=by
 rw[← h];simp only[Mo,Kw,ho,List.map_map]
 rfl
theorem pg {e:Env}:∀{ps:List (Nat×Operand)} {vs:List bF} {pl:List (Nat×ji)},ps.map (λq=>e.view (e.opd q.2))=vs->gj ps vs=some pl->∀i,i∈ft pl->∃o,e.obj i=some (some o)
 |[],[],pl,_,hp=>by
  simp only[gj,Jq]at hp;subst hp;intro i h;cases h
 |(j,x)::ps,v::vs,pl,hv,hp=>by
  simp only[Jy,Ky]at hv;unfold gj at hp
  split at hp
  ·rename_i p l h1 h2
   cases hp;have ih:=pg hv.2 h2;intro i hi;unfold oT at h1
   split at h1
   ·cases h1;exact ih i hi
   ·cases h1;exact ih i hi
   ·split at h1
    ·cases h1
     rename_i id n ob _;rcases JJ.1 (show i∈id::ft l from hi)with rfl|hi
     ·exact⟨ob,jn hv.1⟩
     ·exact ih i hi
    ·cases h1
   ·cases h1
  ·cases hp
 |[],_::_,_,hv,_=>by cases hv
 |_::_,[],_,hv,_=>by cases hv
theorem us {t:Nat}{ps:Array (Nat×Operand)}{vs:List bF}{pl:List (Nat×ji)}{K:Kd}{m:Md}{x:K.T}(hc:cf c)(ho:o.op= .build t ps)(ht:au c.ty t=some (.st K))(hp:gj ps.toList vs=some pl)
  (hg0:(nodup (ft pl)&&nodup (pl.map (·.1))&&kI pl K.nf&&Le K m)=true) (hb:BS K m 0 pl=some x)
  (hk:dH nt o.dst fr ⟨.st K,m,x,false,false,[],none⟩ false (gi (ft pl)) k=some out):cc c B nt o vs fr k out:=by
 simp only[Jm]at hg0;refine jU (mv:=ft pl) hk rfl rfl rfl λe0 he a w g hg=>?_
 have hv:=ld (t:=t) he (ps:=ps) (by rw[ho];rfl);obtain⟨R,r1,r2⟩:=th hc.ty hg ht hv hp hg0.1.1.1 hg0.1.1.2 hg0.1.2 hg0.2 hb;refine⟨.agg R.toArray,w,λb=>∃i,jp g pl i b,none,R,?_,Ns _ _,pg hv hp,?_,(λb off h=>by cases h),⟨Own.st.2 r2,(λb off h=>by cases h)⟩,rfl,?_⟩
 ·simp only[execOp,ho,JC,r1,Js,JP]
 ·rintro b ⟨i,id,ob,h1,h2⟩
  exact .inr ⟨id,kE h1,h2⟩
 ·exact(show VRep (.st K) R (.agg R.toArray)from⟨rfl,rfl⟩)
theorem vK {t:Nat}{ps:Array (Nat×Operand)}{vs:List bF}{pl:List (Nat×ji)}{K:Kd}{x:K.T}(hc:cf c)(ho:o.op= .build t ps)(ht:au c.ty t=some (.st K))(hp:gj ps.toList vs=some pl)
  (hg0:((ft pl).isEmpty&&nodup (pl.map (·.1))&&kI pl K.nf)=true) (hb:BS K .ro 0 pl=some x)
  (hk:cz nt o.dst (.v (.st K) x) k=some out):cc c B nt o vs fr k out:=by
 simp only[Jm]at hg0;have hm0:ft pl=[]:=Nc.1 hg0.1.1;refine ba hk λe0 he a w g hg=>?_
 have hv:=ld (t:=t) he.1 (ps:=ps) (by rw[ho];rfl);obtain⟨R,r1,r2⟩:=th (m:=.ro) hc.ty hg ht hv hp (by rw[hm0];rfl) hg0.1.2 hg0.2 (by cases K<;>rfl) hb;refine⟨.agg R.toArray,?_,R,(show RO g.S w (.st K) x R from ?_),rfl,rfl⟩
 ·simp only[execOp,ho,JC,r1,Js,JP]
 refine Mx (K:=.st K) (λb hb=>hb) (λb hb=>?_) (Own.st.2 r2)
 ·obtain⟨i,id,ob,h1,_⟩:=hb
  have:=kE h1;rw[hm0]at this;cases this
theorem ti {pl:List (Nat×ji)}{K:Kd}{m:Md}:∀(k n:Nat) (xs:List K.T),qN K m n pl k=some xs->∀i,i<k->∀p,au pl (n+i)=some p->∃y,jl K m (some p)=some y
 |0,_,_,_,i,hi,_,_=>bJ hi (Jx i)
 |k+1,n,xs,h,i,hi,p,hp=>by
  simp only[qN]at h
  split at h
  ·rename_i x l hx hl
   cases i with
   |zero=>rw[KH]at hp;exact⟨x,by rw[← hp];exact hx⟩
   |succ i=>exact ti k (n+1) l hl i (by omega) p (by rw[← hp];congr 1;omega)
  ·cases h
theorem mE {P:Program}{nt:Nat}{ty:List (Nat×Kd)}(hty:TysOk P ty){e:Env}{a:Act}{w:World}{g:Gh}(hg:InvG P B nt e a w g){t n:Nat}{K:Kd}{m:Md}{xs:List K.T}{ps:Array (Nat×Operand)}{vs:List bF}{pl:List (Nat×ji)}
  (ht:au ty t=some (.sl K)) (hv:ps.toList.map (λq=>e.view (e.opd q.2))=vs) (hp:gj ps.toList vs=some pl) (hn:nodup (ft pl)=true) (hk:nodup (pl.map (·.1))=true) (hin:kI pl n=true) (hsz:n*K.size<=16777216) (hb:qN K m 0 pl n=some xs):
  ∃(R:List Value) (t':Nat),xs.length=n/\(M6 t n (ps.map λq=>(q.1,a.eval q.2))).run P w= .ok (.slice (some ⟨w.heap.size,0,none⟩) n n) (w.alloc (.cells R.toArray t'))/\
   Own g.S (w.alloc (.cells R.toArray t')) (.sl K) (.own m) xs [.slice (some ⟨w.heap.size,0,none⟩) n n] (λb=>b=w.heap.size\/∃i,jp g pl i b):=by
 have hT:=hty.get ht;obtain⟨t',hu,hl⟩:=hT.sl K rfl;have hE:=hty.get hl;obtain⟨z,hz,hzc,_⟩:=hE.zero w;obtain⟨k1,k2,k3,k4⟩:=pc hg hv hp;have hzl:K.zc.length=K.size:=jI K;have hpos:=K.size_pos;have hsz2:(madeCells K.zc.toArray (n*K.size)).size=n*K.size:=size_madeCells _ _;have hkeq:(ps.toList.map λq=>(q.1,a.eval q.2)).map (·.1)=pl.map (·.1):=by rw[k1];simp
 have hkeys:((ps.toList.map λq=>(q.1,a.eval q.2)).map (·.1)).Nodup:=by rw[hkeq];exact jV hk
 have hin2:∀i v,(i,v)∈(ps.toList.map λq=>(q.1,a.eval q.2))->i<n:=λi v h=>tg hin i (hkeq▸KG.2 ⟨_,h,rfl⟩)
 have hcast:=ti (pl:=pl) n 0 xs hb;have vals:∀i v,au (ps.toList.map λq=>(q.1,a.eval q.2)) i=some v->∃p,au pl i=some p/\ky e g w p v:=by
  intro i v hlv;cases hl:au pl i with
  |none=>rw[k3 i hl]at hlv;cases hlv
  |some p=>
   obtain⟨v',h1,h2⟩:=k2 i p hl;rw[h1]at hlv;cases hlv;exact⟨p,rfl,h2⟩
 have vsz:∀i v,i<n->au (ps.toList.map λq=>(q.1,a.eval q.2)) i=some v->v.cells.size=K.size:=by
  intro i v hi h;obtain⟨p,h1,h2⟩:=vals i v h;obtain⟨y,h3⟩:=hcast i hi p (by simpa using h1);exact pf h2 h3
 obtain⟨r,r1,r2,r3,r4⟩:=uq (λi=>some (i*K.size,K.size)) (ps.toList.map λq=>(q.1,a.eval q.2)) (madeCells K.zc.toArray (n*K.size)) hkeys
  (λi v hi=>by
   have hlt:=hin2 i v hi;have hs:=vsz i v hlt (oa hkeys hi);refine⟨i*K.size,by rw[hs],?_⟩;rw[hs,hsz2];have:(i+1)*K.size<=n*K.size:=JW _ hlt;rw[Ku,KQ]at this;exact this)
  (λi j oi si oj sj hij hi hj=>by
   simp only[Jq,JH]at hi hj;obtain⟨rfl,rfl⟩:=hi;obtain⟨rfl,rfl⟩:=hj;rcases Mk hij with h|h
   ·left
    have:(i+1)*K.size<=j*K.size:=JW _ h;rw[Ku,KQ]at this;exact this
   ·right
    have:(j+1)*K.size<=i*K.size:=JW _ h;rw[Ku,KQ]at this;exact this)
 have hrl:r.toList.length=n*K.size:=by simpa[hsz2]using r2
 have hF:∀n n' b,n≠n'->jp g pl n b->¬jp g pl n' b:=by
  rintro n n' b hne ⟨id,ob,h1,h2⟩ ⟨id',ob',h3,h4⟩
  by_cases hid:id=id'
  ·subst hid
   exact hne (tf (jV hn) h1 h3)
  ·exact hg.FF id id' b hid h2 h4
 have hFs:∀i b,jp g pl i b->b<w.heap.size:=λi b ⟨id,ob,_,h2⟩=>hg.Fsz id b h2
 obtain⟨e1,e2⟩:=vH (e:=e) (g:=g) (w:=w) (pl:=pl) (R:=r.toList) (Z:=(madeCells K.zc.toArray (n*K.size)).toList) hrl n 0 xs hb (by omega) (λi hi=>by
   have:=vD (z:=K.zc) (n:=n) (i:=i) (by omega) hi
   rwa [hzl]at this) (λi hi=>by
   refine⟨λp hpl=>?_,λhnone=>?_⟩
   ·obtain⟨v,h1,h2⟩:=k2 i p hpl
    have hs:=vsz i v hi h1;refine⟨v,h2,?_⟩;have:=r3 i v (i*K.size) h1 (by rw[hs])
    rwa [hs]at this
   ·apply M4
    intro p;simp only[cH];rw[Lm,Lm]
    split
    ·rename_i hlt
     rw[Lq,Lq];have:=r4 (i*K.size+p) (λj v oj hj hpj=>by
      simp only[Jq,JH]at hpj;obtain⟨rfl,hs⟩:=hpj;rw[← hs];have hne:i≠j:=λe=>by subst e;rw[k3 i hnone]at hj;cases hj
      rcases Mk hne with h|h
      ·left
       have:(i+1)*K.size<=j*K.size:=JW _ h;rw[Ku,KQ]at this;omega
      ·right
       have:(j+1)*K.size<=i*K.size:=JW _ h;rw[Ku,KQ]at this
       omega)
     simpa using this
    ·rfl)
 refine⟨r.toList,t',e1,?_,?_⟩
 ·have hnb:¬(n*K.size>2 ^ 24):=by omega
  by_cases h0:n*K.size=0
  ·have hn0:n=0:=by
    rcases Nat.mul_eq_zero.1 h0 with h|h
    ·exact h
    ·omega
   subst hn0;have hps:ps.toList.map (λq=>(q.1,a.eval q.2))=[]:=by
    cases hq:ps.toList.map (λq=>(q.1,a.eval q.2))with
    |nil=>rfl
    |cons q l=>exact bJ (hin2 q.1 q.2 (by rw[hq];exact JA)) (Jx _)
   have hr0:r= #[]:=by apply MJ;exact Kb.1 (by rw[hrl];omega)
   simp only[M6,JC,run_underlying hu,hE.size,Js,hnb,ite_false,h0,ite_true,JP,Mp,hps,Oh,newRow,run_newObj];subst hr0;rw[ao (by omega)];have hm:∀f:Nat->Value,(Array.range 0).map f= #[]:=λf=>by simp
   simp only[JC,JP,Js,run_newObj,hm]
   rfl
  ·have hmc:(Array.range (n*K.size)).map (λi=>K.zc.toArray[i % K.zc.toArray.size]!)=madeCells K.zc.toArray (n*K.size):=rfl
   simp only[M6,JC,run_underlying hu,hE.size,Js,hnb,ite_false,h0,JP,Mp,hz,hzc,hmc,r1,newRow,run_newObj]
   rfl
 ·obtain⟨n1,n2⟩:=jh w r.toList.toArray t'
  have hx:=LZ w (.cells r.toList.toArray t') (λ_ _=>False);have hrs:r.toList.toArray.size=n*K.size:=by simpa using hrl
  rw[hrs]at n2;have:=um (S:=g.S) (w:=w.alloc (.cells r.toList.toArray t')) (e:=K) (m:=m) (xs:=xs) (L:=r.toList) (b:=w.heap.size) (o:=0) (cap:=n) (F:=λb=>b=w.heap.size\/∃i,jp g pl i b) (by simpa using n1) (by omega)
   n2 (.inl rfl) (λi b=>jp g pl i b) (λi b h=>.inr ⟨i,h⟩) (λi h=>by have:=hFs i _ h;omega) (λi j b hij h1 h2=>hF i j b hij h1 h2)
   (λi hi=>by
    have:=e2 i hi;rw[KT]at this;exact this.ext hx (λb hb=>hFs i b hb))
  rw[e1]at this;exact this
theorem od {t n:Nat}{ps:Array (Nat×Operand)}{vs:List bF}{pl:List (Nat×ji)}{K:Kd}{m:Md}{xs:List K.T}(hc:cf c)(ho:o.op= .buildSlice t n ps)(ht:au c.ty t=some (.sl K))(hp:gj ps.toList vs=some pl)
  (hg0:(nodup (ft pl)&&nodup (pl.map (·.1))&&kI pl n&&Nat.ble (n*K.size) 16777216&&Le K m)=true) (hb:qN K m 0 pl n=some xs)
  (hk:dH nt o.dst fr ⟨.sl K,.own m,xs,false,false,[],none⟩ false (gi (ft pl)) k=some out):cc c B nt o vs fr k out:=by
 simp only[Jm]at hg0;refine jU (mv:=ft pl) hk rfl rfl rfl λe0 he a w g hg=>?_
 have hv:=ld (t:=t) he (ps:=ps) (by rw[ho];rfl);obtain⟨R,t',r0,r1,r2⟩:=mE hc.ty hg ht hv hp hg0.1.1.1.1 hg0.1.1.1.2 hg0.1.1.2 (JV hg0.1.2) hb;refine⟨.slice (some ⟨w.heap.size,0,none⟩) n n,w.alloc (.cells R.toArray t'),λb=>b=w.heap.size\/∃i,jp g pl i b,none,_,?_,LZ _ _ _,pg hv hp,?_,(λb off h=>by cases h),⟨r2,(λb off h=>by cases h)⟩,rfl,?_⟩
 ·simp only[execOp,ho,JC,r1,Js,JP]
 ·rintro b (rfl|⟨i,id,ob,h1,h2⟩)
  ·exact .inl ⟨JG _,by rw[Lk];omega⟩
  ·exact .inr ⟨id,kE h1,h2⟩
 ·exact(show VRep (.sl K) [.slice (some ⟨w.heap.size,0,none⟩) n n] (.slice (some ⟨w.heap.size,0,none⟩) n n)from⟨rfl,rfl⟩)
theorem ph {t n:Nat}{ps:Array (Nat×Operand)}{vs:List bF}{pl:List (Nat×ji)}{K:Kd}{xs:List K.T}(hc:cf c)(ho:o.op= .buildSlice t n ps)(ht:au c.ty t=some (.sl K))(hp:gj ps.toList vs=some pl)
  (hg0:((ft pl).isEmpty&&nodup (pl.map (·.1))&&kI pl n&&Nat.ble (n*K.size) 16777216)=true) (hb:qN K .ro 0 pl n=some xs)
  (hk:cz nt o.dst (.v (.sl K) xs) k=some out):cc c B nt o vs fr k out:=by
 simp only[Jm]at hg0;have hm0:ft pl=[]:=Nc.1 hg0.1.1.1;refine mA hk λe0 he a w g hg=>?_
 have hv:=ld (t:=t) he.1 (ps:=ps) (by rw[ho];rfl);obtain⟨R,t',r0,r1,r2⟩:=mE (m:=.ro) hc.ty hg ht hv hp (by rw[hm0];rfl) hg0.1.1.2 hg0.1.2 (JV hg0.2) hb;have hx:=LZ w (.cells R.toArray t') (λ_ _=>False);refine⟨.slice (some ⟨w.heap.size,0,none⟩) n n,_,_,?_,hg.grow hx,[.slice (some ⟨w.heap.size,0,none⟩) n n],?_,rfl,rfl⟩
 ·simp only[execOp,ho,JC,r1,Js,JP]
 ·refine Mx (λb hb=>.inl hb) (λb hb=>?_) r2
  rcases hb with rfl|⟨i,id,ob,h1,_⟩
  ·exact .inr ⟨JG _,by rw[Lk];omega⟩
  ·have:=kE h1
   rw[hm0]at this;cases this
end
def SrcOwn (P:Program)(S:Nat->Prop)(w:World)(e:Kd)(m:Md)(tx:Nat)(x:Value)(zs:List e.T)(F3:Nat->Prop):Prop:=
 ∃news,Src P e.size tx x zs.length news w/\∃G:Nat->Nat->Prop,(∀i b,G i b->F3 b)/\(∀i j b,i≠j->G i b->¬G j b)/\∀i (h:i<zs.length),Own S w e m zs[i] (cH news e.size i) (G i)
theorem rc {S:Nat->Prop}{w:World}{e:Kd}{m:Md}{xs:List e.T}{L:List Value}{G:Nat->Nat->Prop}(hl:L.length=xs.length*e.size)(h:∀i (h:i<xs.length),Own S w e m xs[i] (cH L e.size i) (G i)):∀u∈L,u.oneCell'=true:=by
 intro u hu;obtain⟨j,hj,rfl⟩:=List.mem_iff_getElem.1 hu;have hpos:=e.size_pos;have hi:j / e.size<xs.length:=by rw[Nat.div_lt_iff_lt_mul hpos];omega
 have hm:=Nat.mod_lt j hpos;have hd:=Nat.div_add_mod j e.size;rw[Nat.mul_comm]at hd;refine(h (j / e.size) hi).one _ ?_;have e1:(cH L e.size (j / e.size))[j % e.size]? =some L[j]:=by
  simp only[cH];rw[Lm,ab hm,Lq];rw[KL (by omega)]
  congr 2
 exact List.mem_of_getElem? e1
theorem SrcOwn.ro {P:Program}{S:Nat->Prop}{w:World}{e:Kd}{tx e':Nat}{zs:List e.T}{x:Value}{cs:List Value}(hk:P.underlying tx=some (.slice e'))(h:RO S w (.sl e) zs cs)(hx:VRep (.sl e) cs x)(F3:Nat->Prop):SrcOwn P S w e .ro tx x zs F3:=by
 obtain⟨A,cap,L,rfl,h1,h2,h3,h4,h5⟩:=C6 h;have hx1:x= .slice A zs.length cap:=hx.1;refine⟨L,?_,λ_ _=>False,λ_ _ h=>h.elim,λ_ _ _ _ h=>h.elim,λi hi=>MP.2 (h5 i hi)⟩;rw[hx1]
 by_cases h0:0<zs.length
 ·obtain⟨b,o,rfl,_⟩:=h4 h0
  refine MQ w hk ⟨b,o,none⟩ zs.length cap L h2 (λj u hj=>?_) (rc h2 (m:=.ro) (G:=λ_ _=>False) (λi hi=>MP.2 (h5 i hi)));have hlt:j<L.length:=(JU.1 hj).1;have:=h3 b o rfl j hlt;rw[KL hlt]at hj;cases hj;simpa[M5]using this
 ·have hz:zs.length=0:=by omega
  have hL:L=[]:=Kb.1 (by rw[h2,hz,Mi]);subst hL;rw[hz];cases A with
  |none=>exact NS w hk cap
  |some a=>exact MQ w hk a 0 cap [] (by simp) (λj u hj=>by simp at hj) (λu hu=>by cases hu)
theorem SrcOwn.nil {P:Program}{S:Nat->Prop}{w:World}{e:Kd}{m:Md}{tx e':Nat}(hk:P.underlying tx=some (.slice e'))(F3:Nat->Prop):SrcOwn P S w e m tx (.slice none 0 0) ([]:List e.T) F3:=
 ⟨[],NS w hk 0,λ_ _=>False,λ_ _ h=>h.elim,λ_ _ _ _ h=>h.elim,λi hi=>bJ hi (Jx i)⟩
theorem SrcOwn.own {P:Program}{S:Nat->Prop}{w:World}{e:Kd}{m:Md}{tx e':Nat}{zs:List e.T}{x:Value}{cs:List Value}{F3:Nat->Prop}(hk:P.underlying tx=some (.slice e'))(h:Own S w (.sl e) (.own m) zs cs F3)(hx:VRep (.sl e) cs x):SrcOwn P S w e m tx x zs F3:=by
 obtain⟨A,cap,L,rfl,h1,h2,h3,h4,h5,G,g1,g2,g3,g4⟩:=uo h;have hx1:x= .slice A zs.length cap:=hx.1;refine⟨L,?_,G,g1,g3,g4⟩;rw[hx1];cases A with
 |none=>
  have hc:=h2 rfl;have hz:zs.length=0:=by omega
  have hL:L=[]:=Kb.1 (by rw[h4,hz,Mi]);subst hL;rw[hz];exact NS w hk cap
 |some a=>
  obtain⟨b,o,sp⟩:=a;have hsp:sp=none:=(h3 _ rfl).1;subst hsp;refine MQ w hk ⟨b,o,none⟩ zs.length cap L h4 (λj u hj=>?_) (rc h4 g4);have hlt:j<L.length:=(JU.1 hj).1;have:=h5 b o rfl j hlt;rw[KL hlt]at hj;cases hj;simpa[M5]using this
theorem yk {P:Program}{ty:List (Nat×Kd)}(hty:TysOk P ty){t tx ty':Nat}{e:Kd}{m:Md}{S:Nat->Prop}{w:World}{xs zs:List e.T}{x v:Value}{cs:List Value}{F F3:Nat->Prop}
  (ht:TyOk P ty t (.sl e)) (ho:Own S w (.sl e) (.own m) xs cs F) (hv:VRep (.sl e) cs v) (hs:SrcOwn P S w e m tx x zs F3) (hlen:xs.length+zs.length<=aU)
  (hFS:∀b,F b->¬S b) (hF3:∀b,F3 b->¬F b) (hSz:∀b,S b->b<w.heap.size) (hFz:∀b,F b->b<w.heap.size) (hF3z:∀b,F3 b->b<w.heap.size):
  ∃v' w' cs',(OE #[t,tx] ty' #[v,x]).run P w= .ok v' w'/\Ext w w' (λb _=>F b)/\VRep (.sl e) cs' v'/\
   Own S w' (.sl e) (.own m) (xs++zs) cs' (λb=>F b\/F3 b\/(w.heap.size<=b/\b<w'.heap.size)):=by
 obtain⟨et,hu,hl⟩:=ht.sl e rfl;obtain⟨i,z,i1,i2,i3,i4,i5,i6⟩:=(hty.get hl).info;obtain⟨A,cap,L,rfl,h1,h2,h3,h4,h5,G,g1,g2,g3,g4⟩:=uo ho;obtain⟨news,s1,G3,s2,s3,s4⟩:=hs;have hv1:v= .slice A xs.length cap:=hv.1;subst hv1;have hpos:=e.size_pos;rw[← i2]at s1;have hzl:z.cells.size=e.size:=by rw[i5];simp[jI]
 have hnl:=s1.newsLen;rw[i2]at hnl
 by_cases hn0:zs.length=0
 ·-- nothing is appended
  have hz:zs=[]:=Kb.1 hn0;subst hz;have hne:news=[]:=Kb.1 (by rw[hnl];simp);subst hne;refine⟨_,w,_,run_append_nothing w t tx ty' et i hu i1 A xs.length cap h1 x s1,Ns _ _,hv,?_⟩;rw[Kv];exact ho.mono (λ_ h=>h) (λ_ _ _ _ h=>h) (λ_ h=>.inl h) (λ_ _ _=>⟨rfl,rfl⟩)
 ·have hG:∀k (L2:List Value),L2=L->k<xs.length->cH (L2++news) e.size k=cH L e.size k:=λk L2 e1 hk=>by subst e1;exact pW h4 hk
  have hG2:∀k,cH (L++news) e.size (xs.length+k)=cH news e.size k:=λk=>o9 h4
  have elems:∀(w':World),(∀b o,b<w.heap.size->(∀ad,A=some ad->b≠ad.block)->w'.pk b o=w.pk b o/\w'.frozen? ⟨b,o,none⟩=w.frozen? ⟨b,o,none⟩)->
    ∀k (h:k<(xs++zs).length),Own S w' e m (xs++zs)[k] (cH (L++news) e.size k) (λb=>(k<xs.length/\G k b)\/(xs.length<=k/\G3 (k - xs.length) b)):=by
   intro w' hw' k hk;have hSw:∀b o v,S b->w.pk b o=some v->w'.pk b o=some v:=λb o v hb hv=>by
    rw[(hw' b o (hSz b hb) (λad had e1=>hFS b (e1▸(h3 ad had).2.1) hb)).1];exact hv
   by_cases hkx:k<xs.length
   ·rw[hG k L rfl hkx,LX hkx]
    exact(g4 k hkx).mono (λ_ h=>h) hSw (λb hb=>.inl ⟨hkx,hb⟩) (λb o hb=>hw' b o (hFz b (g1 k b hb)) (λad had e1=>g2 k ad had (e1▸hb)))
   ·have hk2:k - xs.length<zs.length:=by rw[Jk]at hk;omega
    have e1:k=xs.length+(k - xs.length):=by omega
    have e2:cH (L++news) e.size k=cH news e.size (k - xs.length):=by
     conv=>lhs;rw[e1]
     exact hG2 _
    rw[e2,Mr (by omega)];exact(s4 (k - xs.length) hk2).mono (λ_ h=>h) hSw (λb hb=>.inr ⟨by omega,hb⟩) (λb o hb=>hw' b o (hF3z b (s2 _ b hb)) (λad had e1=>hF3 b (s2 _ b hb) (e1▸(h3 ad had).2.1)))
  have Gdis:∀k j b,k≠j->((k<xs.length/\G k b)\/(xs.length<=k/\G3 (k - xs.length) b))->¬((j<xs.length/\G j b)\/(xs.length<=j/\G3 (j - xs.length) b)):=by
   rintro k j b hne (⟨_,a1⟩|⟨a0,a1⟩) (⟨_,b1⟩|⟨b0,b1⟩)
   ·exact g3 k j b hne a1 b1
   ·exact hF3 b (s2 _ b b1) (g1 _ b a1)
   ·exact hF3 b (s2 _ b a1) (g1 _ b b1)
   ·exact s3 _ _ b (by omega) a1 b1
  by_cases hroom:xs.length+zs.length<=cap
  ·-- there is room
   cases A with
   |none=>have:=h2 rfl;omega
   |some ad=>
    obtain⟨b,off,sp⟩:=ad;have hsp:sp=none:=(h3 _ rfl).1;subst hsp;obtain⟨_,hFb,hr⟩:=h3 _ rfl;have hmul:(xs.length+zs.length)*e.size<=cap*e.size:=JW _ hroom;rw[Ku]at hmul;have cin:∀j,j<news.length->(∃u,w.cell? ⟨b,off+xs.length*e.size+j,none⟩=some u)/\w.frozen? ⟨b,off+xs.length*e.size+j,none⟩=false:=λj hj=>by
     have:=hr (xs.length*e.size+j);rw[← L5]at this;exact⟨this.1 (by omega),this.2⟩
    have hrun:=run_append_room_src w t tx ty' et i hu i1 b off xs.length cap x zs.length news s1 hroom (λj hj=>by rw[i2];obtain⟨⟨u,hu⟩,_⟩:=cin j hj;rw[hu];rfl) (λj hj=>by rw[i2];exact(cin j hj).2);rw[i2]at hrun;have hx:=N1 w b (off+xs.length*e.size) news;refine⟨_,_,[.slice (some ⟨b,off,none⟩) (xs.length+zs.length) cap],hrun,hx.mono (λb' o' _ hh=>by rw[hh.1];exact hFb),⟨rfl,rfl⟩,?_⟩;have key:=um (S:=S) (w:=w.setCells b (off+xs.length*e.size) news) (e:=e) (m:=m) (xs:=xs++zs) (L:=L++news) (b:=b) (o:=off) (cap:=cap)
     (F:=λb'=>F b'\/F3 b'\/(w.heap.size<=b'/\b'<(w.setCells b (off+xs.length*e.size) news).heap.size)) ?_ (by rw[Jk];exact hroom) ?_ (.inl hFb)
     (λk b=>(k<xs.length/\G k b)\/(xs.length<=k/\G3 (k - xs.length) b)) ?_ ?_ Gdis (elems _ ?_)
    ·rw[Jk]at key;exact key
    ·intro j hj
     by_cases hjl:j<L.length
     ·rw[LX hjl,na (hx.cell b (off+j) (hFz b hFb) (λhh=>by omega)).1]
      exact h5 b off rfl j hjl
     ·have hj2:j - L.length<news.length:=by rw[Jk]at hj;omega
      rw[Mr (by omega)];have:=Mq b news (off+xs.length*e.size) w (λj hj=>by obtain⟨⟨u,hu⟩,_⟩:=cin j hj;rw[hu];rfl) (j - L.length) hj2;have e1:off+xs.length*e.size+(j - L.length)=off+j:=by omega
      rw[e1]at this;exact this
    ·intro j
     obtain⟨hu0,hf⟩:=hr j;refine⟨λhj=>?_,by rw[NH];exact hf⟩;obtain⟨u,hu⟩:=hu0 hj
     by_cases hin:off+xs.length*e.size<=off+j/\off+j<off+xs.length*e.size+news.length
     ·have:=Mq b news (off+xs.length*e.size) w (λj hj=>by obtain⟨⟨u,hu⟩,_⟩:=cin j hj;rw[hu];rfl) (j - xs.length*e.size) (by omega)
      have e1:off+xs.length*e.size+(j - xs.length*e.size)=off+j:=by omega
      rw[e1]at this;exact⟨_,this⟩
     ·exact⟨u,by rw[na (hx.cell b (off+j) (hFz b hFb) (λhh=>hin ⟨hh.2.1,hh.2.2⟩)).1];exact hu⟩
    ·rintro k b' (⟨_,a1⟩|⟨_,a1⟩)
     ·exact .inl (g1 k b' a1)
     ·exact .inr (.inl (s2 _ b' a1))
    ·rintro k (⟨_,a1⟩|⟨_,a1⟩)
     ·exact g2 k _ rfl a1
     ·exact hF3 b (s2 _ b a1) hFb
    ·intro b' o' hb' hne
     exact hx.cell b' o' hb' (λhh=>hne _ rfl hh.1)
  ·-- a new row
   have hb63:((xs.length+zs.length:Nat):Int)<=9223372036854775807:=by simp only[aU]at hlen;omega
   have hfit:Builtin.nextslicecap (xs.length+zs.length) cap*i.bytes<=281474976710656:=by
    refine growslice_fits_wide (by omega) ?_;have:(xs.length+zs.length+(xs.length+zs.length) / 4+192)*i.bytes<=5368709312*4096:=Nat.mul_le_mul (by simp only[aU]at hlen;omega) i3;omega
   have hold:(Builtin.firstCells i.size xs.length (.slice A xs.length cap)).run P w.drew= .ok L.toArray w.drew:=by
    cases A with
    |none=>
     have:=h2 rfl;have hL:L=[]:=Kb.1 (by rw[h4,show xs.length=0 by omega,Mi]);subst hL;exact run_firstCells_none w.drew _ _ _ _
    |some ad=>
     obtain⟨b,off,sp⟩:=ad;have hsp:sp=none:=(h3 _ rfl).1;subst hsp;refine run_firstCells_some w.drew i.size xs.length ⟨b,off,none⟩ xs.length cap L (by rw[i2];exact h4) (λj u hj=>?_);have hlt:j<L.length:=(JU.1 hj).1;have:=h5 b off rfl j hlt;rw[KL hlt]at hj;cases hj;simpa[M5]using this
   have hrun:=run_append_grow_src w t tx ty' et i z hu i1 i4 A xs.length cap L hold x zs.length news s1 (by omega) hb63 hfit;have hge:=grownCap_ge w (xs.length+zs.length) cap et;generalize grownCap w (xs.length+zs.length) cap et=C at hrun hge;have hx:Ext w (w.drew.alloc (.cells ((L++news).toArray++Mj z.cells (C - (xs.length+zs.length))) et)) (λb _=>F b):=
    (Ext.drew w _).trans (LZ _ _ _)
   obtain⟨n1,n2⟩:=jh w.drew ((L++news).toArray++Mj z.cells (C - (xs.length+zs.length))) et;have hsz:((L++news).toArray++Mj z.cells (C - (xs.length+zs.length))).size=C*e.size:=by
    simp only[Array.size_append,OW,size_zeroCells,hzl,Jk,h4,hnl,← Ku]
    congr 1
    omega
   rw[hsz]at n2;have hnew:w.drew.heap.size=w.heap.size:=rfl;refine⟨_,_,[.slice (some ⟨w.heap.size,0,none⟩) (xs.length+zs.length) C],hrun,hx,⟨rfl,rfl⟩,?_⟩;generalize hw':w.drew.alloc (.cells ((L++news).toArray++Mj z.cells (C - (xs.length+zs.length))) et)=w' at hx n1 n2;have hws:w.heap.size<w'.heap.size:=by rw[← hw',Lk];exact Nat.lt_succ_self _
   have key:=um (S:=S) (w:=w') (e:=e) (m:=m) (xs:=xs++zs) (L:=L++news) (b:=w.heap.size) (o:=0) (cap:=C)
    (F:=λb'=>F b'\/F3 b'\/(w.heap.size<=b'/\b'<w'.heap.size)) ?_ (by rw[Jk];exact hge) n2 (.inr (.inr ⟨JG _,hws⟩))
    (λk b=>(k<xs.length/\G k b)\/(xs.length<=k/\G3 (k - xs.length) b)) ?_ ?_ Gdis (elems _ ?_)
   ·rw[Jk]at key;exact key
   ·intro j hj
    have:=n1 j (by simp only[LU,Jk]at hj⊢;omega);simp only[LU]at this;rw[LX (by simpa using hj)]at this;simpa using this
   ·rintro k b' (⟨_,a1⟩|⟨_,a1⟩)
    ·exact .inl (g1 k b' a1)
    ·exact .inr (.inl (s2 _ b' a1))
   ·rintro k (⟨_,a1⟩|⟨_,a1⟩)
    ·have:=hFz _ (g1 k _ a1);omega
    ·have:=hF3z _ (s2 _ _ a1);omega
   ·intro b' o' hb' hne
    have hxn:Ext w w' (λ_ _=>False):=by rw[← hw'];exact(Ext.drew w _).trans (LZ _ _ _)
    exact hxn.cell b' o' hb' (λh=>h)
def Gh.take (g:Gh)(d:Nat)(rs:List (Nat×Option Obj))(C:Nat->Nat->Prop)(Fd:Nat->Prop)(pl:Place)(cs:List Value):Gh where
 S:=g.S
 F:=λi b=>if i=d then Fd b else g.F i b/\¬C i b
 pl:=λi=>if i=d then pl else match au rs i with|some none=>none|_=>g.pl i
 cs:=λi=>if i=d then cs else g.cs i
variable {B:Base}
theorem InvG.take {P:Program}{nt:Nat}{e:Env}{a:Act}{w w':World}{g:Gh}(h:InvG P B nt e a w g){d:Nat}(hd:e.obj d=none)(rs:List (Nat×Option Obj))(C:Nat->Nat->Prop)
  (hC:∀i b,C i b->(∃r,au rs i=some r)/\g.F i b) (hx:Ext w w' (λb _=>∃i,C i b))
  (hrs:∀i r,au rs i=some r->∃o,e.obj i=some (some o)) (hgone:∀i b,au rs i=some none->g.F i b->C i b)
  (ob:Obj) (Fd:Nat->Prop) (pl:Place) (cs:List Value)
  (hFd:∀b,Fd b->(w.heap.size<=b/\b<w'.heap.size)\/∃i,C i b)
  (hpl:∀b off,pl=some (b,off)->w.heap.size<=b/\b<w'.heap.size/\¬Fd b)
  (hok:Own g.S w' ob.K ob.m ob.x cs Fd/\PlOk w' pl cs) (hbox:ob.box=pl.isSome) (hhl:ob.hl=none) (hpar:ob.par=false)
  (hre:∀i o',au rs i=some (some o')->vu (g.take d rs C Fd pl cs) w' B i o'/\
   (∀n p v,SlotRep0 P g w e.obj (.al i n p) v->SlotRep0 P (g.take d rs C Fd pl cs) w' (KE e.slots ((d,some ob)::rs++e.objs)).obj (.al i n p) v)/\
   (∀n p v,SlotRep0 P g w e.obj (.pt i n p) v->SlotRep0 P (g.take d rs C Fd pl cs) w' (KE e.slots ((d,some ob)::rs++e.objs)).obj (.pt i n p) v)):
  InvG P B nt ⟨e.slots,(d,some ob)::rs++e.objs⟩ a w' (g.take d rs C Fd pl cs):=by
 have hdm:au rs d=none:=by
  cases hl:au rs d with
  |none=>rfl
  |some r=>obtain⟨o,ho⟩:=hrs d r hl;rw[hd]at ho;cases ho
 have hobj:∀i,(KE e.slots ((d,some ob)::rs++e.objs)).obj i=if i=d then some (some ob)else match au rs i with|some r=>some r|none=>e.obj i:=by
  intro i;show au ((d,some ob)::(rs++e.objs)) i=_
  by_cases hi:i=d
  ·subst hi;rw[aQ,ab rfl]
  ·rw[aX (λe=>hi e.symm),ao hi,eE]
   cases au rs i<;>rfl
 have hFlt:∀i b,g.F i b->b<w.heap.size:=h.Fsz
 have Fnew:∀i b,(g.take d rs C Fd pl cs).F i b->(i=d/\Fd b)\/(i≠d/\g.F i b/\¬C i b):=by
  intro i b hF;simp only[Gh.take]at hF
  split at hF
  ·exact .inl ⟨by assumption,hF⟩
  ·exact .inr ⟨by assumption,hF.1,hF.2⟩
 have plnew:∀i b off,(g.take d rs C Fd pl cs).pl i=some (b,off)->(i=d/\pl=some (b,off))\/(i≠d/\g.pl i=some (b,off)):=by
  intro i b off hF;simp only[Gh.take]at hF
  split at hF
  ·exact .inl ⟨by assumption,hF⟩
  ·split at hF
   ·cases hF
   ·exact .inr ⟨by assumption,hF⟩
 have base_le:B.w0.heap.size<=w.heap.size:=h.ext.size;have CF:∀i b,C i b->g.F i b:=λi b hc=>(hC i b hc).2
 have Sok:∀b,g.S b->¬∃i,C i b:=λb hb ⟨i,hc⟩=>h.FS i b (CF i b hc) hb
 refine h.change (λi=>i=d\/∃r,au rs i=some r) rfl ?_ (λ_ h=>h) (λb o v hb hv=>hx.same (Sok b hb) hv)
  (λb hb=>JX (h.Ssz b hb) hx.size) ?_ h.Sb ?_ ?_ ?_ ?_ ?_ ?_ ?_ ?_ ?_
 ·refine h.ext.step hx ?_
  rintro b o hb ⟨i,hc⟩;rcases h.Fb i b (CF i b hc)with hf|hf
  ·exact .inl hf
  ·omega
 ·intro i b hF
  rcases Fnew i b hF with⟨_,hF⟩|⟨_,hF,_⟩
  ·rcases hFd b hF with⟨_,h2⟩|⟨j,h2⟩
   ·exact h2
   ·exact JX (hFlt j b (CF j b h2)) hx.size
  ·exact JX (hFlt i b hF) hx.size
 ·intro i b hF
  rcases Fnew i b hF with⟨_,hF⟩|⟨_,hF,_⟩
  ·rcases hFd b hF with⟨h1,_⟩|⟨j,h2⟩
   ·exact .inr (by omega)
   ·exact h.Fb j b (CF j b h2)
  ·exact h.Fb i b hF
 ·intro i b hF hS
  have hS':g.S b:=hS;rcases Fnew i b hF with⟨_,hF⟩|⟨_,hF,_⟩
  ·rcases hFd b hF with⟨h1,_⟩|⟨j,h2⟩
   ·have:=h.Ssz b hS';omega
   ·exact h.FS j b (CF j b h2) hS'
  ·exact h.FS i b hF hS'
 ·intro i j b hne hF hF'
  rcases Fnew i b hF with⟨h1,hF⟩|⟨h1,hF,hnC⟩<;>rcases Fnew j b hF' with⟨h3,hF'⟩|⟨h3,hF',hnC'⟩
  ·exact hne (h1.trans h3.symm)
  ·rcases hFd b hF with⟨h5,_⟩|⟨l,h6⟩
   ·have:=hFlt j b hF';omega
   ·exact h.FF l j b (λe=>hnC' (e▸h6)) (CF l b h6) hF'
  ·rcases hFd b hF' with⟨h5,_⟩|⟨l,h6⟩
   ·have:=hFlt i b hF;omega
   ·exact h.FF l i b (λe=>hnC (e▸h6)) (CF l b h6) hF
  ·exact h.FF i j b hne hF hF'
 ·intro i b off hp
  rcases plnew i b off hp with⟨h1,hp⟩|⟨h1,hp⟩
  ·obtain⟨h3,h4,h5⟩:=hpl b off hp
   refine⟨h4,λhS=>by have:=h.Ssz b hS;omega,λj hF=>?_,λj off' hp'=>?_⟩
   ·rcases Fnew j b hF with⟨_,hF⟩|⟨_,hF,_⟩
    ·exact h5 hF
    ·have:=hFlt j b hF;omega
   ·rcases plnew j b off' hp' with⟨h6,_⟩|⟨_,h6⟩
    ·exact h1.trans h6.symm
    ·have:=(h.plz j b off' h6).1;omega
  ·obtain⟨h3,h4,h5,h6⟩:=h.plz i b off hp
   refine⟨JX h3 hx.size,h4,λj hF=>?_,λj off' hp'=>?_⟩
   ·rcases Fnew j b hF with⟨_,hF⟩|⟨_,hF,_⟩
    ·rcases hFd b hF with⟨h7,_⟩|⟨l,h7⟩
     ·omega
     ·exact h5 l (CF l b h7)
    ·exact h5 j hF
   ·rcases plnew j b off' hp' with⟨_,h7⟩|⟨_,h7⟩
    ·have:=(hpl b off' h7).1;omega
    ·exact h6 j off' h7
 ·intro i hi
  have hi1:i≠d:=λe=>hi (.inl e)
  have hi2:au rs i=none:=by
   cases hl:au rs i with
   |none=>rfl
   |some r=>exact bJ (.inr ⟨r,hl⟩) hi
  have hnC:∀b,¬C i b:=λb hc=>by obtain⟨⟨r,hr⟩,_⟩:=hC i b hc;rw[hi2]at hr;cases hr
  refine⟨by rw[hobj,ao hi1,hi2],?_,?_,?_,λb o hF=>hx.cell b o (hFlt i b hF) (λ⟨j,hc⟩=>?_),λb off hp o=>hx.cell b o (h.plz i b off hp).1 (λ⟨j,hc⟩=>(h.plz i b off hp).2.2.1 j (CF j b hc))⟩
  ·funext b;simp[Gh.take,hi1,hnC]
  ·simp[Gh.take,hi1,hi2]
  ·simp[Gh.take,hi1]
  ·by_cases hij:j=i
   ·subst hij;exact hnC b hc
   ·exact h.FF j i b hij (CF j b hc) hF
 ·intro i hi hno
  rcases hi with rfl|⟨r,hr⟩
  ·exact bJ (by rw[hobj,ab rfl]) (hno ob)
  ·have hne:i≠d:=λe=>by subst e;rw[hdm]at hr;cases hr
   cases r with
   |some o'=>exact bJ (by rw[hobj,ao hne,hr]) (hno o')
   |none=>exact⟨λb hF=>by simp[Gh.take,hne]at hF;exact hF.2 (hgone i b hr hF.1),by simp[Gh.take,hne,hr]⟩
 ·intro i o' hi ho'
  rw[hobj]at ho';rcases hi with rfl|⟨r,hr⟩
  ·rw[ab rfl]at ho'
   cases ho';refine⟨λ_=>?_,(λp hp=>by rw[hhl]at hp;cases hp),?_,(λhp=>by rw[hpar]at hp;cases hp),(λb off hp=>?_),λq off hq=>lQ hhl hq⟩
   ·simp only[Gh.take,ab]
    exact hok
   ·simp[Gh.take,hbox]
   ·simp only[Gh.take,ab]at hp
    have:=(hpl b off hp).1;exact .inl (by omega)
  ·have hne:i≠d:=λe=>by subst e;rw[hdm]at hr;cases hr
   rw[ao hne,hr]at ho';simp only[Jq]at ho';subst ho';exact(hre i o' hr).1
 ·intro i hi n p v hs
  rcases hi with rfl|⟨r,hr⟩
  ·exact bJ hd hs.1.1
  ·have hne:i≠d:=λe=>by subst e;rw[hdm]at hr;cases hr
   cases r with
   |some o'=>exact(hre i o' hr).2.1 n p v hs
   |none=>
    have e1:(KE e.slots ((d,some ob)::rs++e.objs)).obj i=some none:=by rw[hobj,ao hne,hr]
    exact⟨⟨by rw[e1];simp,(λo ho=>by rw[e1]at ho;cases ho)⟩,(λo ho=>by rw[e1]at ho;cases ho)⟩
 ·intro i hi n p v hs
  rcases hi with rfl|⟨r,hr⟩
  ·exact bJ hd hs.1.1
  ·have hne:i≠d:=λe=>by subst e;rw[hdm]at hr;cases hr
   cases r with
   |some o'=>exact(hre i o' hr).2.2 n p v hs
   |none=>
    have e1:(KE e.slots ((d,some ob)::rs++e.objs)).obj i=some none:=by rw[hobj,ao hne,hr]
    exact⟨⟨by rw[e1];simp,(λo ho=>by rw[e1]at ho;cases ho)⟩,(λo ho=>by rw[e1]at ho;cases ho)⟩
section
variable {c:fS} {nt:Nat} {o:Oper} {Ω:Type} {k:bW->Option Ω} {out:Ω} {fr:Bool}
theorem B3 {vs:List bF}{ob:Obj}{isPt:Bool}{rs:List (Nat×Option Obj)}(hk:dH nt o.dst fr ob isPt rs k=some out)(hhl:ob.hl=none)(hpar:ob.par=false)(hlog:ob.log=[])
  (h:∀e:Env,e.views o=vs->∀d a w g,e.obj d=none->InvG c.P B nt e a w g->∃v w' C Fd pl cs,(execOp a.eval o).run c.P w= .ok (.value v) w'/\
   (∀i b,C i b->(∃r,au rs i=some r)/\g.F i b)/\Ext w w' (λb _=>∃i,C i b)/\(∀i r,au rs i=some r->∃o,e.obj i=some (some o))/\(∀i b,au rs i=some none->g.F i b->C i b)/\
   (∀b,Fd b->(w.heap.size<=b/\b<w'.heap.size)\/∃i,C i b)/\(∀b off,pl=some (b,off)->w.heap.size<=b/\b<w'.heap.size/\¬Fd b)/\
   (Own g.S w' ob.K ob.m ob.x cs Fd/\PlOk w' pl cs)/\ob.box=pl.isSome/\
   (∀i o',au rs i=some (some o')->i≠d->vu (g.take d rs C Fd pl cs) w' B i o'/\
    (∀n p v,SlotRep0 c.P g w e.obj (.al i n p) v->SlotRep0 c.P (g.take d rs C Fd pl cs) w' (KE e.slots ((d,some ob)::rs++e.objs)).obj (.al i n p) v)/\
    (∀n p v,SlotRep0 c.P g w e.obj (.pt i n p) v->SlotRep0 c.P (g.take d rs C Fd pl cs) w' (KE e.slots ((d,some ob)::rs++e.objs)).obj (.pt i n p) v))/\
   (if isPt then∃b off,pl=some (b,off)/\v= .pointer (some ⟨b,off,none⟩)else VRep ob.K cs v)):cc c B nt o vs fr k out:=by
 unfold dH at hk
 split at hk
 ·cases hk
 ·rename_i d hd
  split at hk
  ·rename_i hf
   rw[Jm]at hf;have hlt:d<nt:=JV hf.1;refine⟨_,hk,λe he=>jm hd hlt λa w g hg=>?_⟩;have hfr:fresh e o.dst=true:=by rw[he.2];exact hf.2
   have hnone:e.obj d=none:=by
    rw[hd]at hfr;simp only[fresh,Jm]at hfr;simpa using hfr.1.1.1.1
   obtain⟨v,w',C,Fd,pl,cs,r1,r2,r3,r4,r5,r6,r7,r8,r9,r10,r11⟩:=h e he.1 d a w g hnone hg;refine⟨v,w',_,r1,hg.take hnone rs C r2 r3 r4 r5 ob Fd pl cs r6 r7 r8 r9 hhl hpar (λi o' hi=>r10 i o' hi (λe1=>?_)),?_⟩
   ·subst e1
    obtain⟨o2,ho2⟩:=r4 i _ hi;rw[hnone]at ho2;cases ho2
   have e1:(KE e.slots (((d,some ob)::rs)++e.objs)).obj d=some (some ob):=by
    show au ((d,some ob)::(rs++e.objs)) d=_;exact aQ _ _ _
   have hok1:∀p,fu ob 0 p=true:=λp=>by simp[fu,qK,hlog]
   cases isPt with
   |true=>
    obtain⟨b,off,e2,rfl⟩:=r11;refine⟨⟨by rw[e1];simp,λ_ _=>JF _⟩,λo2 ho2 _ _=>?_⟩;rw[e1]at ho2;cases ho2;exact⟨b,off,cs,ob.K,ob.m,ob.x,cn _ _ _,by simp only[ck,Gh.take,ab,e2],rfl⟩
   |false=>
    refine⟨⟨by rw[e1];simp,λ_ _=>JF _⟩,λo2 ho2 _ _=>?_⟩;rw[e1]at ho2;cases ho2;exact⟨pl,cs,ob.K,ob.m,ob.x,cn _ _ _,by simp only[ck,Gh.take,ab],r11⟩
  ·cases hk
theorem Holed.weaken {S:Nat->Prop}{w:World}{o:Obj}{p:bI}{F F':Nat->Prop}{pl:Place}{cs:List Value}(hF:∀b,F b->F' b)(h:Holed S w o p F pl cs):Holed S w o p F' pl cs:=by
 obtain⟨q,cs',K',m',x',h1,h2,h2',h3,h4,h5,h5',h6⟩:=h;refine⟨q,cs',K',m',x',h1,h2,λw2 h=>h2' w2 λb o hb=>h b o (hF b hb),h3,h4,λb off e=>?_,h5',?_⟩
 ·rcases h5 b off e with h|h
  ·exact .inl h
  ·exact .inr (hF b h)
 ·intro S2 w2 m2 mm y x2 cs2 F2 k1 k2 k3 k4 k5 k6 k7 k8 k9 k10
  obtain⟨a1,a2⟩:=h6 S2 w2 m2 mm y x2 cs2 F2 k1 k2 k3 k4 (λb o hb hq=>k5 b o (hF b hb) hq) k6 k7 k8 (λb h2 hb=>k9 b h2 (hF b hb)) k10;exact⟨a1.mono (λ_ h=>h) (λ_ _ _ _ h=>h) (λb hb=>hb.imp (hF b) id) (λ_ _ _=>⟨rfl,rfl⟩),a2⟩
theorem Focus.holeG {S Sn:Nat->Prop}{w w':World}{p:bI}{ob:Obj}{cs:List Value}{F:Nat->Prop}{pl:Place}{K':Kd}{m':Md}{x':K'.T}{cs':List Value}{q:Place}{F':Nat->Prop}
  (f:Focus S w p ob.K ob.m ob.x cs F pl K' m' x' cs' q F') (hlen:cs.length=ob.K.size) (hg:aS ob.K ob.m ob.x p=some ⟨K',m',x'⟩) (hn:ck w p ob.K pl cs=some (q,cs'))
  (hc:∀b o,F b->¬F' b->w'.pk b o=w.pk b o/\w'.frozen? ⟨b,o,none⟩=w.frozen? ⟨b,o,none⟩)
  (hp:∀b o,sY pl ob.K.size b o->w'.pk b o=w.pk b o/\w'.frozen? ⟨b,o,none⟩=w.frozen? ⟨b,o,none⟩)
  (hSn:∀b,S b->Sn b) (hSc:∀b o v,S b->w.pk b o=some v->w'.pk b o=some v):
  Holed Sn w' {ob with hl:=some p} p (λb=>F b/\¬F' b) pl cs:=by
 have hcl:cs'.length=K'.size:=f.own.length;refine⟨q,cs',K',m',x',hg,f.nv w' (λb o hF hn=>(hc b o hF hn).1),λw2 h2=>f.nv w2 (λb o hF hn=>(h2 b o ⟨hF,hn⟩).trans (hc b o hF hn).1),?_,hcl,?_,hlen,?_⟩
 ·refine f.ok.of_same λb off hR=>?_
  obtain⟨o0,e0,r1,r2⟩:=hR;obtain⟨a1,a2⟩:=f.at_ b o0 e0;rcases a2 with⟨o1,e1,r3,r4⟩|hF
  ·exact hp b off ⟨o1,e1,by omega,by omega⟩
  ·exact hc b off hF a1
 ·intro b off e1
  obtain⟨a1,a2⟩:=f.at_ b off e1;rcases a2 with h|h
  ·exact .inl h
  ·exact .inr ⟨h,a1⟩
 ·intro S2 w2 m2 mm y x2 cs2 F2 k1 k2 k3 k4 k5 k6 k7 k8 k9 k10
  have key:=f.set S2 w2 m2 mm y x2 cs2 F2 k1 k2 (λb hb=>k3 b (hSn b hb)) (λb o v hb hv=>k4 b o v (hSn b hb) (hSc b o v hb hv))
   (λb o hF hn hq=>⟨(k5 b o ⟨hF,hn⟩ hq).1.trans (hc b o hF hn).1,(k5 b o ⟨hF,hn⟩ hq).2.trans (hc b o hF hn).2⟩)
   (λb o hR hq=>⟨(k6 b o hR hq).1.trans (hp b o hR).1,(k6 b o hR hq).2.trans (hp b o hR).2⟩) k7 k8 (λb h2 hF=>LL λhn=>k9 b h2 ⟨hF,hn⟩) k10 ?_
  ·exact⟨key.1,key.2.1⟩
  ·intro b o e1 h2
   obtain⟨a1,a2⟩:=f.at_ b o e1;rcases a2 with⟨o1,e2,_⟩|hF
   ·exact k10 b o1 e2 h2
   ·exact k9 b h2 ⟨hF,a1⟩
theorem Focus.hole {S:Nat->Prop}{w w':World}{p:bI}{ob:Obj}{cs:List Value}{F:Nat->Prop}{pl:Place}{K':Kd}{m':Md}{x':K'.T}{cs':List Value}{q:Place}{F':Nat->Prop}
  (f:Focus S w p ob.K ob.m ob.x cs F pl K' m' x' cs' q F') (hlen:cs.length=ob.K.size) (hg:aS ob.K ob.m ob.x p=some ⟨K',m',x'⟩) (hn:ck w p ob.K pl cs=some (q,cs'))
  (hx:Ext w w' (λb _=>F' b)) (hFz:∀b,F b->b<w.heap.size) (hSz:∀b,S b->b<w.heap.size) (hSF:∀b,F b->¬S b) (hpz:∀b o,pl=some (b,o)->b<w.heap.size/\¬F b):
  Holed S w' {ob with hl:=some p} p (λb=>F b/\¬F' b) pl cs:=
 f.holeG hlen hg hn (λb o hb hn=>hx.cell b o (hFz b hb) hn) (λb o ⟨o0,e0,_,_⟩=>hx.cell b o (hpz b o0 e0).1 (λhF=>(hpz b o0 e0).2 (f.sub b hF)))
  (λ_ h=>h) (λb o v hb hv=>hx.same (λhF=>hSF b (f.sub b hF) hb) hv)
end
variable {B:Base}
section
variable {c:fS} {nt:Nat} {o:Oper} {Ω:Type} {k:bW->Option Ω} {out:Ω} {fr:Bool}
theorem Ca {α:Type}:∀{l:List α},l.length=2->∃a b,l=[a,b]
 |[a,b],_=>⟨a,b,rfl⟩
theorem zK {α:Type}{as:Array α}{a b:α}(h:as.toList=[a,b]):as= #[a,b]:=by apply MJ;simpa using h
theorem vL {P:Program}{a:Act}{w w':World}{x y:Operand}{t tx:Nat}{v:Value}(ho:o.op= .call {callee:=.builtin .append,args:=#[x,y],argTypes:=#[t,tx]})
  (h:(OE #[t,tx] o.type #[a.eval x,a.eval y]).run P w= .ok v w'):(execOp a.eval o).run P w= .ok (.value v) w':=by
 have e4:(#[x,y]:Array Operand).map a.eval= #[a.eval x,a.eval y]:=by simp
 simp only[execOp,ho,resolve,e4,JC,JP,Js,invoke,builtin,h]
theorem mF {id n:Nat}{p:bI}{o2:Obj}{v:bF}{e:Kd}{m:Md}{xs zs:List e.T}{mv:List Nat}{old:Option Obj}{t tx:Nat}{as:Array Operand}(hc:cf c)
  (ho:o.op= .call {callee:=.builtin .append,args:=as,argTypes:=#[t,tx]}) (ht:eS c t (.sl e)=true) (hg0:aS o2.K o2.m o2.x p=some ⟨.sl e,.own m,xs⟩) (hh:bK o2=true) (hok:fu o2 n p=true)
  (hold:(old=none/\o2.box=false/\p=[]/\o2.par=false)\/(old=some {o2 with hl:=some p}/\sZ p=false)) (hmv:id∉mv) (hlen:xs.length+zs.length<=aU)
  (hsrc:∀e0:Env,∀a w g,InvG c.P B nt e0 a w g->∀y:Operand,e0.view (e0.opd y)=v->SrcOwn c.P g.S w e m tx (a.eval y) zs (λb=>∃i,i∈mv/\g.F i b)/\∀i,i∈mv->∃o,e0.obj i=some (some o))
  (hk:dH nt o.dst fr ⟨.sl e,.own m,xs++zs,false,false,[],none⟩ false ((id,old)::gi mv) k=some out):cc c B nt o [(.al id n p,some o2),v] fr k out:=by
 refine B3 hk rfl rfl rfl λe0 he d a w g hd hg=>?_
 have hops:o.op.operands=as:=by rw[ho];simp[Op.operands,Call.operands]
 obtain⟨x,y,has⟩:∃x y,as= #[x,y]:=by
  simp only[Mo,Kw,hops]at he;have hl:as.toList.length=2:=by have:=congrArg Je he;simpa using this
  obtain⟨x,y,hx⟩:=Ca hl;exact⟨x,y,zK hx⟩
 subst has;obtain⟨v1,v2⟩:=eK he (x:=x) (y:=y) hops;obtain⟨q,cs',K',m',x',F',f1,f2,f3,f⟩:=jT hg v1 hh hok;rw[hg0]at f1;simp only[Jq,Mz]at f1;obtain⟨rfl,f1⟩:=f1;have f1:=eq_of_heq f1;simp only[JH]at f1;obtain⟨rfl,rfl⟩:=f1;have hobj2:=jn v1;have hhl:=bS hh;have O:=hg.objs id o2 hobj2;obtain⟨Oown,Opl⟩:=O.own hhl;obtain⟨hs,hmvo⟩:=hsrc e0 a w g hg y v2;have hidd:id≠d:=λe1=>by rw[← e1,hobj2]at hd;cases hd
 obtain⟨hT,_⟩:=ey hc.ty ht;have hF'z:∀b,F' b->b<w.heap.size:=λb hb=>hg.Fsz id b (f.sub b hb)
 obtain⟨v',w',cs2,r1,r2,r3,r4⟩:=yk (ty':=o.type) hc.ty hT f.own f3 hs hlen (λb hb=>hg.FS id b (f.sub b hb))
  (λb ⟨i,hi,hb⟩ hF=>hg.FF i id b (λe1=>hmv (e1▸hi)) hb (f.sub b hF)) hg.Ssz hF'z (λb ⟨i,_,hb⟩=>hg.Fsz i b hb)
 have hlk:∀i r,au ((id,old)::gi mv) i=some r->(i=id/\r=old)\/(i≠id/\i∈mv/\r=none):=by
  intro i r hi
  by_cases e1:id=i
  ·subst e1;rw[aQ]at hi;cases hi;exact .inl ⟨rfl,rfl⟩
  ·rw[aX e1,kD]at hi
   split at hi
   ·cases hi;exact .inr ⟨λh=>e1 h.symm,by assumption,rfl⟩
   ·cases hi
 refine⟨v',w',λi b=>(i=id/\(F' b\/(old=none/\g.F id b)))\/(i∈mv/\g.F i b),λb=>F' b\/(∃i,i∈mv/\g.F i b)\/(w.heap.size<=b/\b<w'.heap.size),none,cs2,vL ho r1,?_,?_,?_,?_,?_,
  (λb off h=>by cases h),⟨r4,(λb off h=>by cases h)⟩,rfl,?_,r3⟩
 ·rintro i b (⟨rfl,h|⟨h1,h⟩⟩|⟨h1,h2⟩)
  ·exact⟨⟨old,aQ _ _ _⟩,f.sub b h⟩
  ·exact⟨⟨old,aQ _ _ _⟩,h⟩
  ·have hne:i≠id:=λe1=>hmv (e1▸h1)
   exact⟨⟨none,by rw[aX (λh=>hne h.symm),kD,ab h1]⟩,h2⟩
 ·exact r2.mono λb _ _ hb=>⟨id,.inl ⟨rfl,.inl hb⟩⟩
 ·intro i r hi
  rcases hlk i r hi with⟨rfl,_⟩|⟨_,h1,_⟩
  ·exact⟨o2,hobj2⟩
  ·exact hmvo i h1
 ·intro i b hi hF
  rcases hlk i none hi with⟨rfl,h1⟩|⟨_,h1,_⟩
  ·exact .inl ⟨rfl,.inr ⟨h1.symm,hF⟩⟩
  ·exact .inr ⟨h1,hF⟩
 ·rintro b (h|⟨i,h1,h2⟩|h)
  ·exact .inr ⟨id,.inl ⟨rfl,.inl h⟩⟩
  ·exact .inr ⟨i,.inr ⟨h1,h2⟩⟩
  ·exact .inl h
 ·intro i o' hi _
  obtain⟨rfl,h1⟩:i=id/\some o'=old:=by
   rcases hlk i _ hi with h|⟨_,_,h1⟩
   ·exact h
   ·cases h1
  rcases hold with⟨h2,_⟩|⟨h2,hnq⟩
  ·rw[h2]at h1;cases h1
  rw[h2]at h1;cases h1;have eobj:(KE e0.slots ((d,some (⟨.sl e,.own m,xs++zs,false,false,[],none⟩:Obj))::((i,old)::gi mv)++e0.objs)).obj i=some (some {o2 with hl:=some p}):=by
   show au ((d,_)::((i,old)::(gi mv++e0.objs))) i=_;rw[aX (λe1=>hidd e1.symm),aQ,h2]
  have hlki:au ((i,old)::gi mv) i=some (some {o2 with hl:=some p}):=by rw[aQ,h2]
  generalize hC:(λ(j:Nat) (b:Nat)=>(j=i/\(F' b\/(old=none/\g.F i b)))\/(j∈mv/\g.F j b))=C;generalize hFd:(λ(b:Nat)=>F' b\/(∃i,i∈mv/\g.F i b)\/(w.heap.size<=b/\b<w'.heap.size))=Fd;have gF:(g.take d ((i,old)::gi mv) C Fd none cs2).F i=λb=>g.F i b/\¬F' b:=by
   funext b
   simp only[Gh.take,ao hidd,← hC];apply propext;refine⟨λ⟨a1,a2⟩=>⟨a1,λh=>a2 (.inl ⟨trivial,.inl h⟩)⟩,λ⟨a1,a2⟩=>⟨a1,?_⟩⟩;rintro(⟨_,h|⟨h,_⟩⟩|⟨h,_⟩)
   ·exact a2 h
   ·rw[h2]at h;cases h
   ·exact hmv h
  have gp:(g.take d ((i,old)::gi mv) C Fd none cs2).pl i=g.pl i:=by simp only[Gh.take,ao hidd,hlki]
  have gc:(g.take d ((i,old)::gi mv) C Fd none cs2).cs i=g.cs i:=by simp only[Gh.take,ao hidd]
  have gS:(g.take d ((i,old)::gi mv) C Fd none cs2).S=g.S:=rfl;refine⟨⟨(λh=>by cases h),λp' hp' _=>?_,(by rw[gp];exact O.box),(λhp=>by rw[gp,gc];exact O.par hp),(λb off hp=>O.plx b off (by rw[← gp];exact hp)),λq off hq=>by have:=(mz hq).2.2 p rfl;rw[hnq]at this;cases this⟩,?_,?_⟩
  ·cases hp'
   rw[gF,gp,gc,gS];exact f.hole Oown.length hg0 f2 r2 (λb hb=>hg.Fsz i b hb) hg.Ssz (λb hb=>hg.FS i b hb) (λb o1 hp=>⟨(hg.plz i b o1 hp).1,(hg.plz i b o1 hp).2.2.1 i⟩)
  ·intro n' p' v0 hs0
   refine⟨⟨by rw[eobj];simp,λo3 ho3=>by rw[eobj]at ho3;cases ho3;exact hs0.1.2 o2 hobj2⟩,λo3 ho3 hk3 hp3=>?_⟩;rw[eobj]at ho3;cases ho3;rcases hp3 with h|h
   ·cases h
   ·obtain⟨q0,c0,K0,m0,x0,a1,a2,a3⟩:=hs0.2 o2 hobj2 hk3 (.inr h)
    exact⟨q0,c0,K0,m0,x0,a1,by rw[gp,gc];exact jg p' h a2,a3⟩
  ·intro n' p' v0 hs0
   refine⟨⟨by rw[eobj];simp,λo3 ho3=>by rw[eobj]at ho3;cases ho3;exact hs0.1.2 o2 hobj2⟩,λo3 ho3 hk3 hp3=>?_⟩;rw[eobj]at ho3;cases ho3;obtain⟨b0,off0,c0,K0,m0,x0,a1,a2,a3⟩:=hs0.2 o2 hobj2 hk3 (.inl hhl)
   suffices hs:∃c2,ck w' p' o2.K (g.pl i) (g.cs i)=some (some (b0,off0),c2)by
    obtain⟨c2,hs⟩:=hs;exact⟨b0,off0,c2,K0,m0,x0,a1,by rw[gp,gc];exact hs,a3⟩
   rcases hp3 with h|h|⟨h,_⟩
   ·cases h
   ·exact lw p' h a2
   ·simp only[Jq]at h
    subst h;have hcell:∀b o1,g.F i b->¬F' b->w'.pk b o1=w.pk b o1:=λb o1 hb hn=>(r2.cell b o1 (hg.Fsz i b hb) hn).1
    exact⟨_,(f.nv w' hcell).trans (f2.symm.trans a2)⟩
end
variable {B:Base}
section
variable {c:fS} {nt:Nat} {o:Oper} {Ω:Type} {k:bW->Option Ω} {out:Ω} {fr:Bool}
theorem vM {id n:Nat}{p:bI}{o2:Obj}{q2:Option Obj}{e:Kd}{m:Md}{xs zs:List e.T}{old:Option Obj}{t tx:Nat}{as:Array Operand}(hc:cf c)
  (ho:o.op= .call {callee:=.builtin .append,args:=as,argTypes:=#[t,tx]}) (ht:eS c t (.sl e)=true) (htx:eS c tx (.sl e)=true) (hg0:aS o2.K o2.m o2.x p=some ⟨.sl e,.own m,xs⟩) (hh:bK o2=true) (hok:fu o2 n p=true)
  (hold:(old=none/\o2.box=false/\p=[]/\o2.par=false)\/(old=some {o2 with hl:=some p}/\sZ p=false)) (hm:m.beq .ro=true) (hlen:xs.length+zs.length<=aU)
  (hk:dH nt o.dst fr ⟨.sl e,.own m,xs++zs,false,false,[],none⟩ false [(id,old)] k=some out):cc c B nt o [(.al id n p,some o2),(.v (.sl e) zs,q2)] fr k out:=by
 have:=Lh hm;subst this;obtain⟨hT,_⟩:=ey hc.ty htx;obtain⟨et,hu,_⟩:=hT.sl e rfl;refine mF (mv:=[]) hc ho ht hg0 hh hok hold (λh=>by cases h) hlen (λe0 a w g hg y hy=>⟨?_,λi h=>by cases h⟩) hk;obtain⟨cs,r1,r2⟩:=aH hg hy;exact SrcOwn.ro hu r1 r2 _
theorem rd {id n:Nat}{p:bI}{o2:Obj}{q2:Option Obj}{e:Kd}{m:Md}{xs:List e.T}{old:Option Obj}{t tx:Nat}{as:Array Operand}(hc:cf c)
  (ho:o.op= .call {callee:=.builtin .append,args:=as,argTypes:=#[t,tx]}) (ht:eS c t (.sl e)=true) (htx:eS c tx (.sl e)=true) (hg0:aS o2.K o2.m o2.x p=some ⟨.sl e,.own m,xs⟩) (hh:bK o2=true) (hok:fu o2 n p=true)
  (hold:(old=none/\o2.box=false/\p=[]/\o2.par=false)\/(old=some {o2 with hl:=some p}/\sZ p=false)) (hlen:xs.length<=aU)
  (hk:dH nt o.dst fr ⟨.sl e,.own m,xs,false,false,[],none⟩ false [(id,old)] k=some out):cc c B nt o [(.al id n p,some o2),(.nils,q2)] fr k out:=by
 obtain⟨hT,_⟩:=ey hc.ty htx;obtain⟨et,hu,_⟩:=hT.sl e rfl;refine mF (mv:=[]) (zs:=[]) hc ho ht hg0 hh hok hold (λh=>by cases h) (by simpa using hlen) (λe0 a w g hg y hy=>⟨?_,λi h=>by cases h⟩) (by rw[Kv];exact hk);have hr:a.eval y= .slice none 0 0:=aH hg hy;rw[hr];exact SrcOwn.nil hu _
theorem ut {id n id3 n3:Nat}{p:bI}{o2 o3:Obj}{e:Kd}{m:Md}{xs zs:List e.T}{old:Option Obj}{t tx:Nat}{as:Array Operand}(hc:cf c)
  (ho:o.op= .call {callee:=.builtin .append,args:=as,argTypes:=#[t,tx]}) (ht:eS c t (.sl e)=true) (htx:eS c tx (.sl e)=true) (hg0:aS o2.K o2.m o2.x p=some ⟨.sl e,.own m,xs⟩) (hh:bK o2=true) (hok:fu o2 n p=true)
  (hold:(old=none/\o2.box=false/\p=[]/\o2.par=false)\/(old=some {o2 with hl:=some p}/\sZ p=false)) (hlen:xs.length+zs.length<=aU)
  (h3:(o3.m.beq (.own m)&&bK o3&&fu o3 n3 []&& !o3.par&& !(Nat.beq id id3))=true) (hz:aS o3.K o3.m o3.x []=some ⟨.sl e,.own m,zs⟩)
  (hk:dH nt o.dst fr ⟨.sl e,.own m,xs++zs,false,false,[],none⟩ false [(id,old),(id3,none)] k=some out):cc c B nt o [(.al id n p,some o2),(.al id3 n3 [],some o3)] fr k out:=by
 simp only[Jm]at h3;obtain⟨hT,_⟩:=ey hc.ty htx;obtain⟨et,hu,_⟩:=hT.sl e rfl;have hne:id≠id3:=λe1=>by subst e1;simp at h3
 refine mF (mv:=[id3]) hc ho ht hg0 hh hok hold (by simpa using hne) hlen (λe0 a w g hg y hy=>?_) hk;obtain⟨r1,r2,r3⟩:=lR hg hy h3.1.1.1.2 h3.1.1.2;refine⟨?_,λi hi=>by simp at hi;subst hi;exact⟨o3,r1⟩⟩;rw[cn]at hz;have e1:o3.K= .sl e:=by simp only[Jq,Mz]at hz;exact hz.1
 cases o3 with
 |mk K3 m3 x3 b3 p3 l3 h3=>
  simp only at e1 hz r2 r3
  subst e1;simp only[Jq,Mz,heq_eq_eq,JH,true_and]at hz;obtain⟨rfl,rfl⟩:=hz;exact SrcOwn.own hu (r3.mono (λ_ h=>h) (λ_ _ _ _ h=>h) (λb hb=>⟨id3,by simp,hb⟩) (λ_ _ _=>⟨rfl,rfl⟩)) r2
end
theorem vN {P:Program}{ty:List (Nat×Kd)}{t:Nat}{K:Kd}(h:TyOk P ty t K){w:World}{b o:Nat}{v:Value}(hl:v.cells.size=K.size)
  (hc:∀j,j<K.size->(w.cell? ⟨b,o+j,none⟩).isSome=true/\w.frozen? ⟨b,o+j,none⟩=false) (h1:∀u∈v.cells.toList,u.oneCell'=true):
  (Instr.storeAt t (.pointer (some ⟨b,o,none⟩)) v).run P w= .ok () (w.setCells b o v.cells.toList):=by
 have:=run_storeCells_cells (P:=P) b o v.cells.toList 0 w (λj hj=>by rw[KH];exact(hc j (by simp at hj;omega)).1) (λj hj=>by rw[KH];exact(hc j (by simp at hj;omega)).2) h1;rw[KH]at this;have hnb:¬(v.cells.size≠K.size):=λh=>h hl
 simp only[Instr.storeAt,Instr.sureAddr,storeVar,JC,JP,Js,h.size,ao hnb,this]
theorem vO:∀a b:Md,(vn a b).fst=a
 | .ro,.ro=>rfl
 | .ro,.own _=>rfl
 | .ro,.pr _ _=>rfl
 | .own _,_=>rfl
 | .pr _ _,_=>rfl
theorem vP:∀a b:Md,(vn a b).snd=b
 | .ro,.ro=>rfl
 | .ro,.own _=>rfl
 | .ro,.pr _ _=>rfl
 | .own _,_=>rfl
 | .pr _ _,_=>rfl
theorem jX:∀(p:bI) {K:Kd} {m m2:Md} {x y:K.T} {K2:Kd} {m3:Md} {z:K2.T},aV p=false->aS K m x p=some ⟨K2,m3,z⟩->∃m4 z4,aS K m2 y p=some ⟨K2,m4,z4⟩
 |[],K,m,m2,x,y,K2,m3,z,_,h=>by
  rw[cn]at h;cases h;exact⟨m2,y,cn _ _ _⟩
 | .inn::p,.st k,m,m2,x,y,K2,m3,z,hi,h=>by
  obtain⟨m4,z4,h4⟩:=jX p (K:=k) (m2:=m2) (y:=y) (by simpa[aV]using hi) (by simpa only[aS]using h);exact⟨m4,z4,by simpa only[aS]using h4⟩
 | .fst::p,.pair a b,m,m2,x,y,K2,m3,z,hi,h=>by
  obtain⟨m4,z4,h4⟩:=jX p (K:=a) (m2:=m2.fst) (y:=y.1) (by simpa[aV]using hi) (by simpa only[aS]using h);exact⟨m4,z4,by simpa only[aS]using h4⟩
 | .snd::p,.pair a b,m,m2,x,y,K2,m3,z,hi,h=>by
  obtain⟨m4,z4,h4⟩:=jX p (K:=b) (m2:=m2.snd) (y:=y.2) (by simpa[aV]using hi) (by simpa only[aS]using h);exact⟨m4,z4,by simpa only[aS]using h4⟩
 | .idx i::p,K,_,_,_,_,_,_,_,hi,_=>by simp[aV]at hi
 | .inn::p,.int _,_,_,_,_,_,_,_,_,h| .inn::p,.bool,_,_,_,_,_,_,_,_,h| .inn::p,.str,_,_,_,_,_,_,_,_,h| .inn::p,.err,_,_,_,_,_,_,_,_,h| .inn::p,.mp _ _,_,_,_,_,_,_,_,_,h| .inn::p,.fcell _ _ _,_,_,_,_,_,_,_,_,h| .inn::p,.raw _,_,_,_,_,_,_,_,_,h| .inn::p,.sl _,_,_,_,_,_,_,_,_,h| .inn::p,.pair _ _,_,_,_,_,_,_,_,_,h=>by simp[aS]at h
 | .fst::p,.int _,_,_,_,_,_,_,_,_,h| .fst::p,.bool,_,_,_,_,_,_,_,_,h| .fst::p,.str,_,_,_,_,_,_,_,_,h| .fst::p,.err,_,_,_,_,_,_,_,_,h| .fst::p,.mp _ _,_,_,_,_,_,_,_,_,h| .fst::p,.fcell _ _ _,_,_,_,_,_,_,_,_,h| .fst::p,.raw _,_,_,_,_,_,_,_,_,h| .fst::p,.sl _,_,_,_,_,_,_,_,_,h| .fst::p,.st _,_,_,_,_,_,_,_,_,h=>by simp[aS]at h
 | .snd::p,.int _,_,_,_,_,_,_,_,_,h| .snd::p,.bool,_,_,_,_,_,_,_,_,h| .snd::p,.str,_,_,_,_,_,_,_,_,h| .snd::p,.err,_,_,_,_,_,_,_,_,h| .snd::p,.mp _ _,_,_,_,_,_,_,_,_,h| .snd::p,.fcell _ _ _,_,_,_,_,_,_,_,_,h| .snd::p,.raw _,_,_,_,_,_,_,_,_,h| .snd::p,.sl _,_,_,_,_,_,_,_,_,h| .snd::p,.st _,_,_,_,_,_,_,_,_,h=>by simp[aS]at h
theorem lA:∀(p p2:bI) {K:Kd} {m mm md:Md} {x x2:K.T} {K':Kd} {y:K'.T} {K2:Kd} {m2:Md} {z:K2.T},gx K x p K' y=some x2->iY m p md=some mm->
  aS K m x p2=some ⟨K2,m2,z⟩->(fq p p2=true->∀(m':Md) (x':K'.T),aS K' m' x' (p2.drop p.length)=some ⟨K2,m2,z⟩->∃m3 x3,aS K' md y (p2.drop p.length)=some ⟨K2,m3,x3⟩)->∃m3 x3,aS K mm x2 p2=some ⟨K2,m3,x3⟩
 |[],p2,K,m,mm,md,x,x2,K',y,K2,m2,z,hs,hm,hg,hi=>by
  simp only[gx]at hs
  split at hs
  ·rename_i hb
   have:=Ka hb;subst this;cases hs;simp only[iY,Jq]at hm;subst hm;have:=hi (by simp[fq]) m x (by simpa using hg);simpa using this
  ·cases hs
 |s::p,[],K,m,mm,md,x,x2,K',y,K2,m2,z,_,_,hg,_=>by
  rw[cn]at hg;cases hg;exact⟨mm,x2,cn _ _ _⟩
 | .inn::p,.inn::p2,.st k,m,mm,md,x,x2,K',y,K2,m2,z,hs,hm,hg,hi=>by
  simp only[gx]at hs;simp only[iY]at hm;simp only[aS]at hg⊢;exact lA p p2 (K:=k) hs hm hg (λh=>by simpa using hi (by simpa[fq]using h))
 | .fst::p,.fst::p2,.pair a b,m,mm,md,x,x2,K',y,K2,m2,z,hs,hm,hg,hi=>by
  simp only[gx]at hs;simp only[aS]at hg⊢
  split at hs
  ·rename_i z1 hs1
   cases hs;simp only[iY]at hm
   split at hm
   ·cases hm
   ·split at hm
    ·rename_i m1 hm1
     cases hm;rw[vO];exact lA p p2 (K:=a) hs1 hm1 hg (λh=>by simpa using hi (by simpa[fq]using h))
    ·cases hm
  ·cases hs
 | .snd::p,.snd::p2,.pair a b,m,mm,md,x,x2,K',y,K2,m2,z,hs,hm,hg,hi=>by
  simp only[gx]at hs;simp only[aS]at hg⊢
  split at hs
  ·rename_i z1 hs1
   cases hs;simp only[iY]at hm
   split at hm
   ·cases hm
   ·split at hm
    ·rename_i m1 hm1
     cases hm;rw[vP];exact lA p p2 (K:=b) hs1 hm1 hg (λh=>by simpa using hi (by simpa[fq]using h))
    ·cases hm
  ·cases hs
 | .fst::p,.snd::p2,.pair a b,m,mm,md,x,x2,K',y,K2,m2,z,hs,hm,hg,hi=>by
  simp only[gx]at hs;simp only[aS]at hg⊢
  split at hs
  ·cases hs
   simp only[iY]at hm
   split at hm
   ·cases hm
   ·split at hm
    ·cases hm
     rw[vP];exact⟨m2,z,hg⟩
    ·cases hm
  ·cases hs
 | .snd::p,.fst::p2,.pair a b,m,mm,md,x,x2,K',y,K2,m2,z,hs,hm,hg,hi=>by
  simp only[gx]at hs;simp only[aS]at hg⊢
  split at hs
  ·cases hs
   simp only[iY]at hm
   split at hm
   ·cases hm
   ·split at hm
    ·cases hm
     rw[vO];exact⟨m2,z,hg⟩
    ·cases hm
  ·cases hs
 | .idx i::p,.idx j::p2,.sl e,.own m,mm,md,xs,x2,K',y,K2,m2,z,hs,hm,hg,hi=>by
  simp only[gx]at hs;simp only[aS]at hg
  split at hs
  ·rename_i z1 hs1
   cases hs;simp only[iY]at hm
   split at hm
   ·rename_i m1 hm1
    split at hm
    ·rename_i hb
     cases hm;have:=Lh hb;subst this;simp only[aS]
     by_cases hij:i.toNat=j.toNat/\i.toNat<Je xs
     ·have e1:Ji (List.set xs i.toNat z1) j.toNat e.zero=z1:=by
       rw[← hij.1];simp[Ji,hij.2]
      rw[e1];rw[← hij.1]at hg;exact lA p p2 (K:=e) hs1 hm1 hg (λh=>by simpa using hi (by simpa[fq]using h))
     ·have e1:Ji (List.set xs i.toNat z1) j.toNat e.zero=Ji xs j.toNat e.zero:=by
       by_cases h1:i.toNat=j.toNat
       ·have:¬i.toNat<Je xs:=λh=>hij ⟨h1,h⟩
        rw[List.set_eq_of_length_le (by omega)]
       ·simp[Ji,List.getElem?_set_ne h1]
      rw[e1];exact⟨m2,z,hg⟩
    ·cases hm
   ·cases hm
  ·cases hs
 | .idx i::p,.idx j::p2,.sl e,.ro,mm,md,xs,x2,K',y,K2,m2,z,hs,hm,hg,hi=>by simp[aS]at hg
 | .idx i::p,.idx j::p2,.sl e,.pr _ _,mm,md,xs,x2,K',y,K2,m2,z,hs,hm,hg,hi=>by simp[aS]at hg
 | .inn::_,.fst::_,K,_,_,_,_,_,_,_,_,_,_,hs,_,hg,_| .inn::_,.snd::_,K,_,_,_,_,_,_,_,_,_,_,hs,_,hg,_| .inn::_,.idx _::_,K,_,_,_,_,_,_,_,_,_,_,hs,_,hg,_
 | .fst::_,.inn::_,K,_,_,_,_,_,_,_,_,_,_,hs,_,hg,_| .fst::_,.idx _::_,K,_,_,_,_,_,_,_,_,_,_,hs,_,hg,_
 | .snd::_,.inn::_,K,_,_,_,_,_,_,_,_,_,_,hs,_,hg,_| .snd::_,.idx _::_,K,_,_,_,_,_,_,_,_,_,_,hs,_,hg,_
 | .idx _::_,.inn::_,K,_,_,_,_,_,_,_,_,_,_,hs,_,hg,_| .idx _::_,.fst::_,K,_,_,_,_,_,_,_,_,_,_,hs,_,hg,_| .idx _::_,.snd::_,K,_,_,_,_,_,_,_,_,_,_,hs,_,hg,_=>by
  cases K<;>simp[gx,aS]at hs hg
 | .inn::_,.inn::_,.int _,_,_,_,_,_,_,_,_,_,_,hs,_,_,_| .inn::_,.inn::_,.bool,_,_,_,_,_,_,_,_,_,_,hs,_,_,_| .inn::_,.inn::_,.str,_,_,_,_,_,_,_,_,_,_,hs,_,_,_| .inn::_,.inn::_,.err,_,_,_,_,_,_,_,_,_,_,hs,_,_,_| .inn::_,.inn::_,.raw _,_,_,_,_,_,_,_,_,_,_,hs,_,_,_
 | .inn::_,.inn::_,.sl _,_,_,_,_,_,_,_,_,_,_,hs,_,_,_| .inn::_,.inn::_,.pair _ _,_,_,_,_,_,_,_,_,_,_,hs,_,_,_=>by simp[gx]at hs
 | .fst::_,.fst::_,.int _,_,_,_,_,_,_,_,_,_,_,hs,_,_,_| .fst::_,.fst::_,.bool,_,_,_,_,_,_,_,_,_,_,hs,_,_,_| .fst::_,.fst::_,.str,_,_,_,_,_,_,_,_,_,_,hs,_,_,_| .fst::_,.fst::_,.err,_,_,_,_,_,_,_,_,_,_,hs,_,_,_| .fst::_,.fst::_,.raw _,_,_,_,_,_,_,_,_,_,_,hs,_,_,_
 | .fst::_,.fst::_,.sl _,_,_,_,_,_,_,_,_,_,_,hs,_,_,_| .fst::_,.fst::_,.st _,_,_,_,_,_,_,_,_,_,_,hs,_,_,_=>by simp[gx]at hs
 | .snd::_,.snd::_,.int _,_,_,_,_,_,_,_,_,_,_,hs,_,_,_| .snd::_,.snd::_,.bool,_,_,_,_,_,_,_,_,_,_,hs,_,_,_| .snd::_,.snd::_,.str,_,_,_,_,_,_,_,_,_,_,hs,_,_,_| .snd::_,.snd::_,.err,_,_,_,_,_,_,_,_,_,_,hs,_,_,_| .snd::_,.snd::_,.raw _,_,_,_,_,_,_,_,_,_,_,hs,_,_,_
 | .snd::_,.snd::_,.sl _,_,_,_,_,_,_,_,_,_,_,hs,_,_,_| .snd::_,.snd::_,.st _,_,_,_,_,_,_,_,_,_,_,hs,_,_,_=>by simp[gx]at hs
 | .fst::_,.snd::_,.int _,_,_,_,_,_,_,_,_,_,_,hs,_,_,_| .fst::_,.snd::_,.bool,_,_,_,_,_,_,_,_,_,_,hs,_,_,_| .fst::_,.snd::_,.str,_,_,_,_,_,_,_,_,_,_,hs,_,_,_| .fst::_,.snd::_,.err,_,_,_,_,_,_,_,_,_,_,hs,_,_,_| .fst::_,.snd::_,.raw _,_,_,_,_,_,_,_,_,_,_,hs,_,_,_
 | .fst::_,.snd::_,.sl _,_,_,_,_,_,_,_,_,_,_,hs,_,_,_| .fst::_,.snd::_,.st _,_,_,_,_,_,_,_,_,_,_,hs,_,_,_=>by simp[gx]at hs
 | .snd::_,.fst::_,.int _,_,_,_,_,_,_,_,_,_,_,hs,_,_,_| .snd::_,.fst::_,.bool,_,_,_,_,_,_,_,_,_,_,hs,_,_,_| .snd::_,.fst::_,.str,_,_,_,_,_,_,_,_,_,_,hs,_,_,_| .snd::_,.fst::_,.err,_,_,_,_,_,_,_,_,_,_,hs,_,_,_| .snd::_,.fst::_,.raw _,_,_,_,_,_,_,_,_,_,_,hs,_,_,_
 | .snd::_,.fst::_,.sl _,_,_,_,_,_,_,_,_,_,_,hs,_,_,_| .snd::_,.fst::_,.st _,_,_,_,_,_,_,_,_,_,_,hs,_,_,_=>by simp[gx]at hs
 | .idx _::_,.idx _::_,.int _,_,_,_,_,_,_,_,_,_,_,hs,_,_,_| .idx _::_,.idx _::_,.bool,_,_,_,_,_,_,_,_,_,_,hs,_,_,_| .idx _::_,.idx _::_,.str,_,_,_,_,_,_,_,_,_,_,hs,_,_,_| .idx _::_,.idx _::_,.err,_,_,_,_,_,_,_,_,_,_,hs,_,_,_| .idx _::_,.idx _::_,.raw _,_,_,_,_,_,_,_,_,_,_,hs,_,_,_
 | .idx _::_,.idx _::_,.pair _ _,_,_,_,_,_,_,_,_,_,_,hs,_,_,_| .idx _::_,.idx _::_,.st _,_,_,_,_,_,_,_,_,_,_,hs,_,_,_=>by simp[gx]at hs
theorem jJ (p p2:bI){K:Kd}{m mm md:Md}{x x2:K.T}{K':Kd}{y:K'.T}{K2:Kd}{m2:Md}{z:K2.T}(hs:gx K x p K' y=some x2)(hm:iY m p md=some mm)
  (hg:aS K m x p2=some ⟨K2,m2,z⟩) (hi:fq p p2=true->aV (p2.drop p.length)=false):∃m3 x3,aS K mm x2 p2=some ⟨K2,m3,x3⟩:=
 lA p p2 hs hm hg λhp _ _ h=>jX _ (hi hp) h
theorem mG:∀(p p2:bI) (i j:Int) (r:bI),fq p p2=true->p2.drop p.length= .idx j::r->fq (p++[.idx i]) p2=true
 |[],p2,i,j,r,_,h=>by
  rw[show p2= .idx j::r from by simpa using h]
  rfl
 | .inn::p,.inn::p2,i,j,r,h1,h2=>mG p p2 i j r h1 (by simpa using h2)
 | .fst::p,.fst::p2,i,j,r,h1,h2=>mG p p2 i j r h1 (by simpa using h2)
 | .snd::p,.snd::p2,i,j,r,h1,h2=>mG p p2 i j r h1 (by simpa using h2)
 | .idx _::p,.idx _::p2,i,j,r,h1,h2=>mG p p2 i j r h1 (by simpa using h2)
 | .inn::_,[],_,_,_,h,_| .inn::_,.fst::_,_,_,_,h,_| .inn::_,.snd::_,_,_,_,h,_| .inn::_,.idx _::_,_,_,_,h,_=>by simp[fq]at h
 | .fst::_,[],_,_,_,h,_| .fst::_,.inn::_,_,_,_,h,_| .fst::_,.snd::_,_,_,_,h,_| .fst::_,.idx _::_,_,_,_,h,_=>by simp[fq]at h
 | .snd::_,[],_,_,_,h,_| .snd::_,.inn::_,_,_,_,h,_| .snd::_,.fst::_,_,_,_,h,_| .snd::_,.idx _::_,_,_,_,h,_=>by simp[fq]at h
 | .idx _::_,[],_,_,_,h,_| .idx _::_,.inn::_,_,_,_,h,_| .idx _::_,.fst::_,_,_,_,h,_| .idx _::_,.snd::_,_,_,_,h,_=>by simp[fq]at h
theorem nz (p p2:bI){K:Kd}{m mm md:Md}{x x2:K.T}{e:Kd}{y:(Kd.sl e).T}{K2:Kd}{m2:Md}{z:K2.T}(hs:gx K x p (.sl e) y=some x2)(hm:iY m p (.own md)=some mm)
  (hg:aS K m x p2=some ⟨K2,m2,z⟩) (hi:fq (p++[.idx 0]) p2=true->aV (p2.drop (p.length+1))=false):∃m3 x3,aS K mm x2 p2=some ⟨K2,m3,x3⟩:=by
 refine lA p p2 hs hm hg λhp m' x' h=>?_
 cases hd:p2.drop p.length with
 |nil=>
  rw[hd,cn]at h;cases h;exact⟨.own md,y,cn _ _ _⟩
 |cons s r=>
  rw[hd]at h;cases s with
  |inn=>simp[aS]at h
  |fst=>simp[aS]at h
  |snd=>simp[aS]at h
  |idx i=>
   cases m' with
   |ro=>simp[aS]at h
   |pr _ _=>simp[aS]at h
   |own m0=>
    simp only[aS]at h⊢;have:=hi (mG p p2 0 i r hp hd);rw[← Lo,hd]at this;exact jX r (by simpa using this) h
variable {B:Base}
def Gh.stored (g:Gh)(id:Nat)(mv:List Nat)(F1:Nat->Prop)(cs1:List Value):Gh where
 S:=g.S
 F:=λi b=>if i=id then F1 b else if i∈mv then False else g.F i b
 pl:=λi=>if i∈mv then none else g.pl i
 cs:=λi=>if i=id then cs1 else g.cs i
theorem InvG.stored {P:Program}{nt:Nat}{e:Env}{a:Act}{w:World}{g:Gh}(h:InvG P B nt e a w g){id:Nat}{o2:Obj}(ho:e.obj id=some (some o2))(mv:List Nat)(hid:id∉mv)
  (hmv:∀i,i∈mv->∃o,e.obj i=some (some o)) {b off:Nat} {vs:List Value} (hb:b<w.heap.size)
  (hX:(∃o0,g.pl id=some (b,o0)/\o0<=off/\off+vs.length<=o0+o2.K.size)\/g.F id b) (F1:Nat->Prop) (hF1:∀b,F1 b->g.F id b\/∃i,i∈mv/\g.F i b) (cs1:List Value) (o3:Obj)
  (hre:vu (g.stored id mv F1 cs1) (w.setCells b off vs) B id o3)
  (hal:∀n p v,SlotRep0 P g w e.obj (.al id n p) v->SlotRep0 P (g.stored id mv F1 cs1) (w.setCells b off vs) (KE e.slots ((id,some o3)::gi mv++e.objs)).obj (.al id n p) v)
  (hpt:∀n p v,SlotRep0 P g w e.obj (.pt id n p) v->SlotRep0 P (g.stored id mv F1 cs1) (w.setCells b off vs) (KE e.slots ((id,some o3)::gi mv++e.objs)).obj (.pt id n p) v):
  InvG P B nt ⟨e.slots,(id,some o3)::gi mv++e.objs⟩ a (w.setCells b off vs) (g.stored id mv F1 cs1):=by
 have hobj:∀i,(KE e.slots ((id,some o3)::gi mv++e.objs)).obj i=if i=id then some (some o3)else if i∈mv then some none else e.obj i:=by
  intro i;show au ((id,some o3)::(gi mv++e.objs)) i=_
  by_cases hi:i=id
  ·subst hi;rw[aQ,ab rfl]
  ·rw[aX (λe=>hi e.symm),ao hi,eE,kD]
   by_cases hm:i∈mv
   ·rw[ab hm,ab hm]
   ·rw[ao hm,ao hm];rfl
 have hx:=N1 w b off vs;have hsz:(w.setCells b off vs).heap.size=w.heap.size:=(lq b vs off w).2.2.2.2.1;have nS:¬g.S b:=by
  rcases hX with⟨o0,e1,_⟩|hF
  ·exact(h.plz id b o0 e1).2.1
  ·exact h.FS id b hF
 have nF:∀j,j≠id->¬g.F j b:=by
  intro j hj;rcases hX with⟨o0,e1,_⟩|hF
  ·exact(h.plz id b o0 e1).2.2.1 j
  ·exact λhF'=>h.FF j id b hj hF' hF
 have npl:∀j off',j≠id->g.pl j≠some (b,off'):=by
  intro j off' hj e2;rcases hX with⟨o0,e1,_⟩|hF
  ·exact hj ((h.plz id b o0 e1).2.2.2 j off' e2).symm
  ·exact(h.plz j b off' e2).2.2.1 id hF
 have Fnew:∀i b,(g.stored id mv F1 cs1).F i b->(i=id/\F1 b)\/(i≠id/\i∉mv/\g.F i b):=by
  intro i b hF;simp only[Gh.stored]at hF
  split at hF
  ·exact .inl ⟨by assumption,hF⟩
  ·split at hF
   ·exact hF.elim
   ·exact .inr ⟨by assumption,by assumption,hF⟩
 have plnew:∀i b off,(g.stored id mv F1 cs1).pl i=some (b,off)->i∉mv/\g.pl i=some (b,off):=by
  intro i b off hF;simp only[Gh.stored]at hF
  split at hF
  ·cases hF
  ·exact⟨by assumption,hF⟩
 have old:∀i b,(g.stored id mv F1 cs1).F i b->∃j,g.F j b/\(j=i\/(i=id/\j∈mv)):=by
  intro i b hF;rcases Fnew i b hF with⟨h0,hF'⟩|⟨_,_,hF'⟩
  ·rcases hF1 b hF' with h1|⟨j,h1,h2⟩
   ·exact⟨id,h1,.inl h0.symm⟩
   ·exact⟨j,h2,.inr ⟨h0,h1⟩⟩
  ·exact⟨i,hF',.inl rfl⟩
 refine h.change (λi=>i=id\/i∈mv) rfl (h.ext.step hx ?_) (λ_ h=>h) (λb' o' v hb' hv=>hx.same (λhh=>nS (hh.1▸hb')) hv)
  (λb hb=>by rw[hsz];exact h.Ssz b hb) ?_ h.Sb ?_ ?_ ?_ ?_ ?_ ?_ ?_ ?_ ?_
 ·rintro b' o' hb' ⟨rfl,h1,h2⟩
  rcases hX with⟨o0,e1,h3,h4⟩|hF
  ·rcases(h.objs id o2 ho).plx b' o0 e1 with(h5|h5)|h5
   ·exact .inl h5
   ·omega
   ·exact .inr (h5.2 o' (by omega) (by omega))
  ·rcases h.Fb id b' hF with h5|h5
   ·exact .inl h5
   ·omega
 ·intro i b hF
  obtain⟨j,h1,_⟩:=old i b hF;rw[hsz];exact h.Fsz j b h1
 ·intro i b hF
  obtain⟨j,h1,_⟩:=old i b hF;exact h.Fb j b h1
 ·intro i b hF hS
  obtain⟨j,h1,_⟩:=old i b hF;exact h.FS j b h1 hS
 ·intro i j b hne hF hF'
  rcases Fnew i b hF with⟨h1,hF⟩|⟨h1,h2,hF⟩<;>rcases Fnew j b hF' with⟨h3,hF'⟩|⟨h3,h4,hF'⟩
  ·exact hne (h1.trans h3.symm)
  ·rcases hF1 b hF with h5|⟨l,h5,h6⟩
   ·exact h.FF id j b (λe=>h3 e.symm) h5 hF'
   ·exact h.FF l j b (λe=>h4 (e▸h5)) h6 hF'
  ·rcases hF1 b hF' with h5|⟨l,h5,h6⟩
   ·exact h.FF id i b (λe=>h1 e.symm) h5 hF
   ·exact h.FF l i b (λe=>h2 (e▸h5)) h6 hF
  ·exact h.FF i j b hne hF hF'
 ·intro i b off hp
  obtain⟨h1,hp⟩:=plnew i b off hp;obtain⟨h3,h4,h5,h6⟩:=h.plz i b off hp;refine⟨by rw[hsz];exact h3,h4,λj hF=>?_,λj off' hp'=>h6 j off' (plnew j b off' hp').2⟩;obtain⟨l,h7,_⟩:=old j b hF;exact h5 l h7
 ·intro i hi
  have hi1:i≠id:=λe=>hi (.inl e)
  have hi2:i∉mv:=λe=>hi (.inr e)
  refine⟨by rw[hobj,ao hi1,ao hi2],?_,?_,?_,λb' o' hF=>hx.cell b' o' (h.Fsz i b' hF) (λhh=>nF i hi1 (hh.1▸hF)),
   λb' off' hp o'=>hx.cell b' o' (h.plz i b' off' hp).1 (λhh=>npl i off' hi1 (hh.1▸hp))⟩
  ·funext b;simp[Gh.stored,hi1,hi2]
  ·simp[Gh.stored,hi2]
  ·simp[Gh.stored,hi1]
 ·intro i hi hno
  rcases hi with rfl|hi
  ·exact bJ (by rw[hobj,ab rfl]) (hno o3)
  ·have:i≠id:=λe=>hid (e▸hi)
   exact⟨λb hF=>by simp[Gh.stored,this,hi]at hF,by simp[Gh.stored,hi]⟩
 ·intro i o' hi ho'
  rw[hobj]at ho';rcases hi with rfl|hi
  ·rw[ab rfl]at ho'
   cases ho';exact hre
  ·have:i≠id:=λe=>hid (e▸hi)
   rw[ao this,ab hi]at ho';cases ho'
 ·intro i hi n p v hs
  rcases hi with rfl|hi
  ·exact hal n p v hs
  ·have:i≠id:=λe=>hid (e▸hi)
   have e1:(KE e.slots ((id,some o3)::gi mv++e.objs)).obj i=some none:=by rw[hobj,ao this,ab hi]
   exact⟨⟨by rw[e1];simp,(λo ho=>by rw[e1]at ho;cases ho)⟩,(λo ho=>by rw[e1]at ho;cases ho)⟩
 ·intro i hi n p v hs
  rcases hi with rfl|hi
  ·exact hpt n p v hs
  ·have:i≠id:=λe=>hid (e▸hi)
   have e1:(KE e.slots ((id,some o3)::gi mv++e.objs)).obj i=some none:=by rw[hobj,ao this,ab hi]
   exact⟨⟨by rw[e1];simp,(λo ho=>by rw[e1]at ho;cases ho)⟩,(λo ho=>by rw[e1]at ho;cases ho)⟩
theorem du {q:Option bI}{log:List (Option bI)}{n:Nat}(h:n<=log.length):qK (q::log) n=q::qK log n:=by
 simp only[qK,Jj];rw[show log.length+1 - n=(log.length - n)+1 by omega,List.take_succ_cons]
theorem tj (o:Obj)(p:bI):o.log.length<=(nw o p).length:=by
 unfold nw
 split
 ·simp
 ·simp only[Jj];omega
theorem lB {w:World}:∀(p:bI) {K:Kd} {cs:List Value} {q:Place} {c:List Value},aV p=false->ck w p K none cs=some (q,c)->q=none
 |[],K,cs,q,c,_,h=>by simp only[ck,Jq,JH]at h;exact h.1.symm
 | .inn::p,.st k,cs,q,c,hi,h=>lB p (K:=k) (by simpa[aV]using hi) (by simpa only[ck]using h)
 | .fst::p,.pair a b,cs,q,c,hi,h=>lB p (K:=a) (by simpa[aV]using hi) (by simpa only[ck]using h)
 | .snd::p,.pair a b,cs,q,c,hi,h=>lB p (K:=b) (by simpa[aV]using hi) (by simpa only[ck,Place.up,OV]using h)
 | .idx i::p,K,cs,q,c,hi,_=>by simp[aV]at hi
 | .inn::p,.int _,_,_,_,_,h| .inn::p,.bool,_,_,_,_,h| .inn::p,.str,_,_,_,_,h| .inn::p,.err,_,_,_,_,h| .inn::p,.mp _ _,_,_,_,_,h| .inn::p,.fcell _ _ _,_,_,_,_,h| .inn::p,.raw _,_,_,_,_,h| .inn::p,.sl _,_,_,_,_,h| .inn::p,.pair _ _,_,_,_,_,h=>by simp[ck]at h
 | .fst::p,.int _,_,_,_,_,h| .fst::p,.bool,_,_,_,_,h| .fst::p,.str,_,_,_,_,h| .fst::p,.err,_,_,_,_,h| .fst::p,.mp _ _,_,_,_,_,h| .fst::p,.fcell _ _ _,_,_,_,_,h| .fst::p,.raw _,_,_,_,_,h| .fst::p,.sl _,_,_,_,_,h| .fst::p,.st _,_,_,_,_,h=>by simp[ck]at h
 | .snd::p,.int _,_,_,_,_,h| .snd::p,.bool,_,_,_,_,h| .snd::p,.str,_,_,_,_,h| .snd::p,.err,_,_,_,_,h| .snd::p,.mp _ _,_,_,_,_,h| .snd::p,.fcell _ _ _,_,_,_,_,h| .snd::p,.raw _,_,_,_,_,h| .snd::p,.sl _,_,_,_,_,h| .snd::p,.st _,_,_,_,_,h=>by simp[ck]at h
section
variable {c:fS} {nt:Nat} {o:Oper} {Ω:Type} {k:bW->Option Ω} {out:Ω} {fr:Bool}
theorem vQ {P:Program}{e:Env}{os:List (Nat×Option Obj)}(hd:o.dst=none)
  (h:∀a w g,InvG P B nt e a w g->∃w' g',(execOp a.eval o).run P w= .ok .skip w'/\InvG P B nt ⟨e.slots,os++e.objs⟩ a w' g'):lr P B nt o e (e.apply ⟨[],os⟩):=by
 intro a w ⟨g,hg⟩ next Q hn;obtain⟨w',g',hr,hi⟩:=h a w g hg;unfold Oper.wp;rw[hr,Oper.upon_skip,hd];exact hn _ _ ⟨g',hi⟩
theorem vR {x y:Operand}{t id n:Nat}{p:bI}{o2:Obj}{v:bF}{pt:ji}{K:Kd}{m md m2:Md}{z:K.T}{yv:K.T}{x2:o2.K.T}(hc:cf c)(ho:o.op= .store t x y)(hd:o.dst=none)
  (hg0:aS o2.K o2.m o2.x p=some ⟨K,m,z⟩) (hp:oT v=some pt) (hk0:(gy o2 n p&&eS c t K&& !(o2.fx&& !aV p))=true) (hcast:jl K md (some pt)=some yv) (hsm:iY o2.m p md=some m2) (hsp:gx o2.K o2.x p K yv=some x2)
  (hnd:nodup (id::gk pt)=true) (hhl:o2.hl=none\/(o2.hl=some p/\sZ p=false))
  (hk:k ⟨[],(id,some {o2 with m:=m2,x:=x2,log:=nw o2 p,hl:=none})::gi (gk pt)⟩=some out):cc c B nt o [(.pt id n p,some o2),v] fr k out:=by
 rw[Jm,Jm]at hk0;obtain⟨hk0,hfx'⟩:=hk0;have hfx:(o2.fx&& !aV p)=false:=by
  cases hx:(o2.fx&& !aV p)with
  |false=>rfl
  |true=>rw[hx]at hfx';cases hfx'
 refine⟨_,hk,λe he=>vQ hd λa w g hg=>?_⟩;obtain⟨v1,v2⟩:=eK he.1 (x:=x) (y:=y) (by rw[ho];rfl);obtain⟨hT,_⟩:=ey hc.ty hk0.2;have hobj2:=gN v1;have O:=hg.objs id o2 hobj2;have hpr:=vG hg v2 hp;obtain⟨b,off,cs',K',m',x',h3,h4,h5⟩:=(aH hg v1).2 o2 hobj2 hk0.1 (hhl.elim .inl (λh=>.inr (.inr h)));rw[hg0]at h3;cases h3;have hcells:Own g.S w K md yv (a.eval y).cells.toList (λb=>∃id o,pt= .al id o/\g.F id b):=by
  rcases jW hcast (λq hq=>by cases hq;exact hpr)with⟨h,_⟩|⟨q,hq,h⟩
  ·cases h
  ·cases hq;exact h
 generalize hvs:(a.eval y).cells.toList=vs at hcells;have hvl:vs.length=K.size:=hcells.length;have hid:id∉gk pt:=(LA.1 (jV hnd)).1;have F2m:∀b,(∃id o,pt= .al id o/\g.F id b)->∃i,i∈gk pt/\g.F i b:=by
  rintro b ⟨i,o',rfl,h⟩;exact⟨i,by simp[gk],h⟩
 have hmv:∀i,i∈gk pt->∃o,e.obj i=some (some o):=by
  intro i hi;cases pt with
  |v _ _=>cases hi
  |nils=>cases hi
  |al id3 o3=>
   simp only[gk,JQ]at hi;subst hi;exact⟨o3,hpr.1⟩
 have F2d:∀b,(∃id o,pt= .al id o/\g.F id b)->¬g.F id b:=λb h hF=>by
  obtain⟨i,h1,h2⟩:=F2m b h;exact hg.FF i id b (λe1=>hid (e1▸h1)) h2 hF
 have F2pl:∀b o',g.pl id=some (b,o')->¬(∃id o,pt= .al id o/\g.F id b):=λb o' hp h=>by
  obtain⟨i,_,h2⟩:=F2m b h;exact(hg.plz id b o' hp).2.2.1 i h2
 have hx:=N1 w b off vs;obtain⟨F1,hat,hpl,hcl,hF1,hown,hplok,hal,hpt⟩:∃F1:Nat->Prop,((∃o0,g.pl id=some (b,o0)/\o0<=off/\off+K.size<=o0+o2.K.size)\/g.F id b)/\PlOk w (some (b,off)) cs'/\cs'.length=K.size/\
   (∀b,F1 b->g.F id b\/∃i,i∈gk pt/\g.F i b)/\Own g.S (w.setCells b off vs) o2.K m2 x2 (bV p o2.K (g.cs id) vs) F1/\PlOk (w.setCells b off vs) (g.pl id) (bV p o2.K (g.cs id) vs)/\
   (∀p2 gg r,aS o2.K o2.m o2.x p2=some gg->ck w p2 o2.K (g.pl id) (g.cs id)=some r->gm p2 p=false->(o2.hl≠none->p2=[])->ck (w.setCells b off vs) p2 o2.K (g.pl id) (bV p o2.K (g.cs id) vs)=some r)/\
   (∀p2 gg r c,aS o2.K o2.m o2.x p2=some gg->ck w p2 o2.K (g.pl id) (g.cs id)=some (r,c)->iO p2 p=false->(o2.hl≠none->aV p2=false)->∃c3,ck (w.setCells b off vs) p2 o2.K (g.pl id) (bV p o2.K (g.cs id) vs)=some (r,c3)):=by
  have wr:∀q:Place,q=some (b,off)->PlOk w q cs'->cs'.length=K.size->PlOk (w.setCells b off vs) q vs:=by
   rintro q rfl hq hl;intro b' o' e1;simp only[Jq,JH]at e1;obtain⟨rfl,rfl⟩:=e1;have h1:=hq b off rfl;refine⟨λj hj=>?_,λj hj=>?_⟩
   ·exact Mq b vs off w (λj hj=>by rw[(h1.1 j (by omega))];rfl) j hj
   ·rw[NH];exact h1.2 j (by omega)
  have lp:∀b' o',¬sY (some (b,off)) K.size b' o'->¬(b'=b/\off<=o'/\o'<off+vs.length):=λb' o' h ⟨e1,h1,h2⟩=>h ⟨off,by rw[e1],h1,by omega⟩
  cases hh:o2.hl with
  |none=>
   obtain⟨Oown,Opl⟩:=O.own hh;obtain⟨F',f⟩:=ns p hg0 h4 Oown Opl (λb off e1=>(hg.plz id b off e1).2.2.1 id);obtain⟨a1,a2⟩:=f.at_ b off rfl;have hbz:b<w.heap.size:=by
    rcases a2 with⟨o0,e1,_⟩|hF
    ·exact(hg.plz id b o0 e1).1
    ·exact hg.Fsz id b hF
   have nS:∀b',g.S b'->b'≠b:=λb' hS e1=>by
    subst e1;rcases a2 with⟨o0,e1,_⟩|hF
    ·exact(hg.plz id b' o0 e1).2.1 hS
    ·exact hg.FS id b' hF hS
   have key:=f.set g.S (w.setCells b off vs) md m2 yv x2 vs (λb=>∃id o,pt= .al id o/\g.F id b) hsp hsm (λ_ h=>h) (λb' o' v' hS hv=>hx.same (λhh=>nS b' hS hh.1) hv)
    (λb' o' hF _ hq=>hx.cell b' o' (hg.Fsz id b' hF) (lp b' o' hq))
    (λb' o' hR hq=>hx.cell b' o' (by obtain⟨o0,e0,_⟩:=hR;exact(hg.plz id b' o0 e0).1) (lp b' o' hq)) (wr _ rfl f.ok f.own.length)
    (hcells.mono (λ_ h=>h) (λb' o' v' hS hv=>hx.same (λhh=>nS b' hS hh.1) hv) (λ_ h=>h) (λb' o' h=>hx.cell b' o' (by obtain⟨i,_,h2⟩:=F2m b' h;exact hg.Fsz i b' h2) (λhh=>by
     obtain⟨e1,_⟩:=hh;subst e1;rcases a2 with⟨o0,e1,_⟩|hF
     ·exact F2pl b' o0 e1 h
     ·exact F2d b' h hF)))
    (λb h hF=>bJ hF (F2d b h)) F2pl (λb' o' e1 h=>by
     simp only[Jq,JH]at e1;obtain⟨rfl,rfl⟩:=e1;rcases a2 with⟨o0,e1,_⟩|hF
     ·exact F2pl b o0 e1 h
     ·exact F2d b h hF)
   refine⟨_,a2,f.ok,f.own.length,?_,key.1,key.2.1,λp2 gg r h1 h2 h3 _=>key.2.2.al p2 gg r h1 h2 h3,λp2 gg r c h1 h2 h3 _=>key.2.2.pt p2 gg r c h1 h2 h3⟩;rintro b' (⟨h,_⟩|h)
   ·exact .inl h
   ·exact .inr (F2m b' h)
  |some p0=>
   have hnq:p0=p/\sZ p=false:=by
    rcases hhl with h|⟨h,hn⟩
    ·rw[hh]at h;cases h
    ·rw[hh]at h;cases h;exact⟨rfl,hn⟩
   obtain⟨rfl,hnq⟩:=hnq;obtain⟨q,cs0,K0,m0,x0,k1,k2,_,k3,k4,k5,k5',k6⟩:=O.hole p0 hh hnq;rw[hg0]at k1;cases k1;rw[h4]at k2;cases k2;have a2:=k5 b off rfl;have hbz:b<w.heap.size:=by
    rcases a2 with⟨o0,e1,_⟩|hF
    ·exact(hg.plz id b o0 e1).1
    ·exact hg.Fsz id b hF
   have nS:∀b',g.S b'->b'≠b:=λb' hS e1=>by
    subst e1;rcases a2 with⟨o0,e1,_⟩|hF
    ·exact(hg.plz id b' o0 e1).2.1 hS
    ·exact hg.FS id b' hF hS
   have key:=k6 g.S (w.setCells b off vs) md m2 yv x2 vs (λb=>∃id o,pt= .al id o/\g.F id b) hsp hsm (λ_ h=>h) (λb' o' v' hS hv=>hx.same (λhh=>nS b' hS hh.1) hv)
    (λb' o' hF hq=>hx.cell b' o' (hg.Fsz id b' hF) (lp b' o' hq))
    (λb' o' hR hq=>hx.cell b' o' (by obtain⟨o0,e0,_⟩:=hR;exact(hg.plz id b' o0 e0).1) (lp b' o' hq)) (wr _ rfl k3 k4)
    (hcells.mono (λ_ h=>h) (λb' o' v' hS hv=>hx.same (λhh=>nS b' hS hh.1) hv) (λ_ h=>h) (λb' o' h=>hx.cell b' o' (by obtain⟨i,_,h2⟩:=F2m b' h;exact hg.Fsz i b' h2) (λhh=>by
     obtain⟨e1,_⟩:=hh;subst e1;rcases a2 with⟨o0,e1,_⟩|hF
     ·exact F2pl b' o0 e1 h
     ·exact F2d b' h hF)))
    F2d F2pl
   refine⟨_,a2,k3,k4,?_,key.1,key.2,λp2 gg r h1 h2 h3 h6=>?_,λp2 gg r c h1 h2 h3 h6=>iZ p2 (h6 (by simp)) h2⟩
   ·rintro b' (h|h)
    ·exact .inl h
    ·exact .inr (F2m b' h)
   ·have:=h6 (by simp)
    subst this;have hidx:aV p0=true:=by
     cases p0 with
     |nil=>simp[gm,fq]at h3
     |cons s p0=>simpa[gm,fq]using h3
    rw[ff p0 hidx h4];simpa only[ck]using h2
 have hbz:b<w.heap.size:=by
  rcases hat with⟨o0,e1,_⟩|hF
  ·exact(hg.plz id b o0 e1).1
  ·exact hg.Fsz id b hF
 have eobj:(KE e.slots ((id,some {o2 with m:=m2,x:=x2,log:=nw o2 p,hl:=none})::gi (gk pt)++e.objs)).obj id=some (some {o2 with m:=m2,x:=x2,log:=nw o2 p,hl:=none}):=aQ _ _ _;have gF:(g.stored id (gk pt) F1 (bV p o2.K (g.cs id) vs)).F id=F1:=by funext b;simp[Gh.stored]
 have gp:(g.stored id (gk pt) F1 (bV p o2.K (g.cs id) vs)).pl id=g.pl id:=by simp[Gh.stored,hid]
 have gc:(g.stored id (gk pt) F1 (bV p o2.K (g.cs id) vs)).cs id=bV p o2.K (g.cs id) vs:=by simp[Gh.stored]
 refine⟨_,_,?_,hg.stored hobj2 (gk pt) hid hmv (vs:=vs) hbz (by rw[hvl];exact hat) F1 hF1 (bV p o2.K (g.cs id) vs) {o2 with m:=m2,x:=x2,log:=nw o2 p,hl:=none} ?_ ?_ ?_⟩
 ·have hrun:=vN (P:=c.P) hT (w:=w) (b:=b) (o:=off) (v:=a.eval y) (by rw[← hvl,← hvs];simp) ?_ (by rw[hvs];exact hcells.one)
  ·simp only[execOp,ho,h5,JC,hrun,Js,JP,hvs]
  ·intro j hj
   have h1:=hpl b off rfl;exact⟨by rw[h1.1 j (by omega)];rfl,h1.2 j (by omega)⟩
 ·refine⟨λ_=>by rw[gF,gp,gc];exact⟨hown,hplok⟩,(λp' h=>by cases h),(by rw[gp];exact O.box),λhpar=>?_,λb' off' h=>O.plx b' off' (by rw[← gp];exact h),λq off hq=>lQ rfl hq⟩
  rw[gp,gc];have hpk:=O.par hpar;have hsame:aV p=true->bV p o2.K (g.cs id) vs=g.cs id:=λhi=>ff p hi h4
  unfold ny at hpk⊢
  by_cases hf:(o2.box&&DZ o2.K)=true
  ·have hi:aV p=true:=by
    cases hi:aV p with
    |true=>rfl
    |false=>
     exfalso
     have:(o2.fx&& !aV p)=true:=by
      rw[hi];unfold Obj.fx;rw[show o2.par=true from hpar,Bool.true_and,hf]
      rfl
     rw[hfx]at this;cases this
   rw[hsame hi];rw[ab hf]at hpk;rw[ab (show(o2.box&&DZ o2.K)=true from hf)];exact hpk
  ·rw[ao hf]at hpk
   rw[ao (show¬(o2.box&&DZ o2.K)=true from hf)];obtain⟨h6,h7⟩:=hpk;refine⟨h6,λhbx=>?_⟩;rw[← h7 hbx];have hpn:g.pl id=none:=by
    have:=O.box;cases hq:g.pl id with
    |none=>rfl
    |some q=>rw[hq]at this;rw[show o2.box=false from hbx]at this;cases this
   refine ff p ?_ h4;cases hi:aV p with
   |true=>rfl
   |false=>
    rw[hpn]at h4;have:=lB p hi h4;cases this
 ·intro n' p' v' hs
  refine⟨⟨by rw[eobj];simp,λo3 ho3=>by rw[eobj]at ho3;cases ho3;exact Nat.le_trans (hs.1.2 o2 hobj2) (tj o2 p)⟩,λo3 ho3 hk3 _=>?_⟩;rw[eobj]at ho3;cases ho3;have hle:=hs.1.2 o2 hobj2;have hcond:gm p' p=false/\fu o2 n' p'=true/\(o2.hl≠none->p'=[]):=by
   unfold fu at hk3;simp only[nw]at hk3;cases hh:o2.hl with
   |none=>
    rw[hh]at hk3;simp only[du hle,Kh,Jm]at hk3;exact⟨by simpa using hk3.1,hk3.2,λh=>bJ rfl h⟩
   |some q=>
    rw[hh]at hk3;rw[du (by simp;omega),du hle]at hk3;simp only[Kh,Jm]at hk3;refine⟨by simpa using hk3.2.1,hk3.2.2,λ_=>?_⟩;have:=hk3.1
    split at this
    ·rfl
    ·cases this
  obtain⟨q,c1,K1,m1,x1,a1,a2,a3⟩:=hs.2 o2 hobj2 hcond.2.1 (by
   cases hh:o2.hl with
   |none=>exact .inl rfl
   |some q=>exact .inr (by rw[hcond.2.2 (by rw[hh];simp)];rfl))
  obtain⟨m3,x3,a4⟩:=jJ p p' hsp hsm a1 (λhpre=>by
   have:=hcond.1
   simp[gm,hpre]at this)
  exact⟨q,c1,K1,m3,x3,a4,by rw[gp,gc];exact hal p' _ _ a1 a2 hcond.1 hcond.2.2,a3⟩
 ·intro n' p' v' hs
  refine⟨⟨by rw[eobj];simp,λo3 ho3=>by rw[eobj]at ho3;cases ho3;exact Nat.le_trans (hs.1.2 o2 hobj2) (tj o2 p)⟩,λo3 ho3 hk3 _=>?_⟩;rw[eobj]at ho3;cases ho3;have hle:=hs.1.2 o2 hobj2;have hcond:iO p' p=false/\gy o2 n' p'=true/\(o2.hl≠none->aV p'=false):=by
   unfold gy at hk3;simp only[nw]at hk3;cases hh:o2.hl with
   |none=>
    rw[hh]at hk3;simp only[du hle,Kh,Jm]at hk3;exact⟨by simpa using hk3.1,hk3.2,λh=>bJ rfl h⟩
   |some q=>
    rw[hh]at hk3;rw[du (by simp;omega),du hle]at hk3;simp only[Kh,Jm]at hk3;exact⟨by simpa using hk3.2.1,hk3.2.2,λ_=>by simpa using hk3.1⟩
  obtain⟨b1,off1,c1,K1,m1,x1,a1,a2,a3⟩:=hs.2 o2 hobj2 hcond.2.1 (by
   cases hh:o2.hl with
   |none=>exact .inl rfl
   |some q=>exact .inr (.inl (qw (hcond.2.2 (by rw[hh];simp)))))
  obtain⟨m3,x3,a4⟩:=jJ p p' hsp hsm a1 (λhpre=>by
   have:=hcond.1;simpa[iO,hpre]using this)
  obtain⟨c3,a5⟩:=hpt p' _ _ _ a1 a2 hcond.1 hcond.2.2;exact⟨b1,off1,c3,K1,m3,x3,a4,by rw[gp,gc];exact a5,a3⟩
end
variable {B:Base}
theorem Ef {S:Nat->Prop}{w:World}{e:Kd}{m:Md}{xs:List e.T}{A:Option Addr}{cap l h:Nat}{F:Nat->Prop}(ho:Own S w (.sl e) (.own m) xs [.slice A xs.length cap] F)(hlh:l<=h)(hh:h<=xs.length):
  Own S w (.sl e) (.own m) ((Mh h xs).drop l) [.slice (if cap=l then A else A.map (·.add (l*e.size))) (h - l) (cap - l)] F:=by
 obtain⟨A',cap',e0,hl,hn,hr,G,hG,hG1,hG2,he⟩:=ho;simp only[Ky,NB,and_true,true_and]at e0;obtain⟨rfl,rfl⟩:=e0;have len:((Mh h xs).drop l).length=h - l:=by simp;omega
 refine⟨_,_,by rw[len],by rw[len];omega,?_,?_,λi=>G (l+i),λi b hb=>hG _ b hb,?_,λi j b hij=>hG2 _ _ b (by omega),λi hi=>?_⟩
 ·intro hA
  by_cases hc:cap=l
  ·omega
  ·rw[ao hc]at hA
   have:A=none:=by cases A<;>simp at hA;rfl
   have:=hn this;omega
 ·intro ad had
  by_cases hc:cap=l
  ·rw[ab hc]at had
   obtain⟨h1,h2,h3⟩:=hr ad had;refine⟨h1,h2,?_⟩;rw[hc,Nat.sub_self,Mi];exact λj=>⟨λhj=>bJ hj (Jx _),(h3 j).2⟩
  ·rw[ao hc]at had
   cases A with
   |none=>simp at had
   |some a0=>
    obtain⟨b,off,sp⟩:=a0;obtain⟨h1,h2,h3⟩:=hr _ rfl;have:sp=none:=h1;subst this;simp only[KR,fU,Jq]at had;subst had;refine⟨rfl,h2,λj=>?_⟩;have h4:=h3 (l*e.size+j);rw[← L5]at h4;refine⟨λhj=>h4.1 (by
     have:(cap - l)*e.size+l*e.size=cap*e.size:=by rw[← Ku,Nat.sub_add_cancel (by omega)]
     omega),h4.2⟩
 ·intro i ad had
  by_cases hc:cap=l
  ·rw[ab hc]at had
   exact hG1 _ ad had
  ·rw[ao hc]at had
   cases A with
   |none=>simp at had
   |some a0=>
    obtain⟨b,off,sp⟩:=a0;have:sp=none:=(hr _ rfl).1;subst this;simp only[KR,fU,Jq]at had;subst had;exact hG1 (l+i) ⟨b,off,none⟩ rfl
 ·rw[len]at hi
  have hi2:l+i<xs.length:=by omega
  obtain⟨b,off,vs,hA,hcs,hro2⟩:=he (l+i) hi2;have hne:cap≠l:=by omega
  refine⟨b,off+l*e.size,vs,?_,?_,?_⟩
  ·rw[ao hne,hA];simp only[KR,fU]
  ·have:off+l*e.size+i*e.size=off+(l+i)*e.size:=by rw[Ku];omega
   rw[this];exact hcs
  ·have:((Mh h xs).drop l)[i]'(by rw[len];exact hi)=xs[l+i]:=by simp
   rw[this];exact hro2
section
variable {c:fS} {nt:Nat} {o:Oper} {Ω:Type} {k:bW->Option Ω} {out:Ω} {fr:Bool}
theorem vS {x:Operand}{lo hi:Option Operand}{t id n:Nat}{o2:Obj}{e:Kd}{m:Md}{xs:List e.T}{bs:List bF}{l h:Int}(hc:cf c)(ho:o.op= .slice t x lo hi none)(ht:eS c t (.sl e)=true)
  (hg0:aS o2.K o2.m o2.x []=some ⟨.sl e,.own m,xs⟩) (hh:bK o2=true) (hok:fu o2 n []=true) (hpb:(!o2.par&& !o2.box)=true) (hb:Ee lo hi bs xs.length l h) (h0:0<=l/\l<=h/\h<=(xs.length:Int))
  (hk:dH nt o.dst fr ⟨.sl e,.own m,(Mh h.toNat xs).drop l.toNat,false,false,[],none⟩ false [(id,none)] k=some out):cc c B nt o ((.al id n [],some o2)::bs) fr k out:=by
 obtain⟨hT,_⟩:=ey hc.ty ht;obtain⟨t',hu,hl'⟩:=hT.sl e rfl;refine jU (mv:=[id]) hk rfl rfl rfl λe0 he a w g hg=>?_
 obtain⟨v1,v2⟩:=mD ho he;obtain⟨r1,r2,r3⟩:=lR hg v1 hh hok;rw[cn]at hg0;cases o2 with
 |mk K2 m2 x2 b2 p2 l2 h2=>
  simp only[Jq,Mz]at hg0;obtain⟨e1,e2⟩:=hg0
  simp only at e1 e2 r2 r3
  subst e1;simp only[heq_eq_eq,JH]at e2;obtain⟨rfl,rfl⟩:=e2;have r3':=r3;obtain⟨A,cap,ecs,hl,_⟩:=r3';rw[ecs]at r2 r3;have e1:a.eval x= .slice A x2.length cap:=r2.1;obtain⟨b1,b3⟩:=hb.low hg v2;have len:((Mh h.toNat x2).drop l.toNat).length=h.toNat - l.toNat:=by simp;omega
  refine⟨.slice (if cap=l.toNat then A else A.map (·.add (l.toNat*e.size))) (h.toNat - l.toNat) (cap - l.toNat),w,g.F id,none,[.slice (if cap=l.toNat then A else A.map (·.add (l.toNat*e.size))) (h.toNat - l.toNat) (cap - l.toNat)],?_,
   Ns _ _,(λi hi=>by simp at hi;subst hi;exact⟨_,r1⟩),(λb hb=>.inr ⟨id,by simp,hb⟩),(λb off h=>by cases h),⟨Ef r3 (by omega) (by omega),(λb off h=>by cases h)⟩,rfl,?_⟩
  ·rw[nJ ho hu (by intros;simp),e1,o8 hc.ty hT b1 b3 h0 hl]
   rfl
  ·exact(show VRep (.sl e) _ _ from⟨rfl,rfl⟩)
end
def Gh.freeze (g:Gh)(ids:List Nat):Gh where
 S:=λb=>g.S b\/∃i,i∈ids/\(g.F i b\/∃off,g.pl i=some (b,off))
 F:=λi b=>if i∈ids then False else g.F i b
 pl:=λi=>if i∈ids then none else g.pl i
 cs:=g.cs
theorem InvG.freeze {P:Program}{nt:Nat}{e:Env}{a:Act}{w:World}{g:Gh}(h:InvG P B nt e a w g)(ids:List Nat)(hids:∀i,i∈ids->∃o,e.obj i=some (some o)/\o.par=false):
  InvG P B nt ⟨e.slots,gi ids++e.objs⟩ a w (g.freeze ids):=by
 have hobj:∀i,(KE e.slots (gi ids++e.objs)).obj i=if i∈ids then some none else e.obj i:=by
  intro i;show au (gi ids++e.objs) i=_;rw[eE,kD]
  by_cases hm:i∈ids
  ·rw[ab hm,ab hm]
  ·rw[ao hm,ao hm];rfl
 have Fnew:∀i b,(g.freeze ids).F i b->i∉ids/\g.F i b:=by
  intro i b hF;simp only[Gh.freeze]at hF
  split at hF
  ·exact hF.elim
  ·exact⟨by assumption,hF⟩
 have plnew:∀i b off,(g.freeze ids).pl i=some (b,off)->i∉ids/\g.pl i=some (b,off):=by
  intro i b off hF;simp only[Gh.freeze]at hF
  split at hF
  ·cases hF
  ·exact⟨by assumption,hF⟩
 refine h.change (λi=>i∈ids) rfl h.ext (λ_ h=>.inl h) (λ_ _ _ _ h=>h) ?_ (λi b hF=>h.Fsz i b (Fnew i b hF).2) ?_ (λi b hF=>h.Fb i b (Fnew i b hF).2) ?_ (λi j b hne h1 h2=>h.FF i j b hne (Fnew i b h1).2 (Fnew j b h2).2) ?_ ?_ ?_ ?_ ?_ ?_
 ·rintro b (hb|⟨i,_,hF|⟨off,hp⟩⟩)
  ·exact h.Ssz b hb
  ·exact h.Fsz i b hF
  ·exact(h.plz i b off hp).1
 ·rintro b (hb|⟨i,hi,hF|⟨off,hp⟩⟩)
  ·exact h.Sb b hb
  ·rcases h.Fb i b hF with h1|h1
   ·exact .inr (.inl h1)
   ·exact .inr (.inr h1)
  ·obtain⟨o,ho,hpar⟩:=hids i hi
   rcases(h.objs i o ho).plx b off hp with(h1|h1)|h1
   ·exact .inr (.inl h1)
   ·exact .inr (.inr h1)
   ·rw[hpar]at h1;cases h1.1
 ·rintro i b hF hS
  obtain⟨h1,h2⟩:=Fnew i b hF;rcases hS with hS|⟨j,hj,hF'|⟨off,hp⟩⟩
  ·exact h.FS i b h2 hS
  ·exact h.FF j i b (λe=>h1 (e▸hj)) hF' h2
  ·exact(h.plz j b off hp).2.2.1 i h2
 ·intro i b off hp
  obtain⟨h1,h2⟩:=plnew i b off hp;obtain⟨h3,h4,h5,h6⟩:=h.plz i b off h2;refine⟨h3,?_,λj hF=>h5 j (Fnew j b hF).2,λj off' hp'=>h6 j off' (plnew j b off' hp').2⟩;rintro(hS|⟨j,hj,hF'|⟨off',hp'⟩⟩)
  ·exact h4 hS
  ·exact h5 j hF'
  ·exact h1 (h6 j off' hp'▸hj)
 ·intro i hi
  refine⟨by rw[hobj,ao hi],?_,?_,rfl,λ_ _ _=>⟨rfl,rfl⟩,λ_ _ _ _=>⟨rfl,rfl⟩⟩
  ·funext b;simp[Gh.freeze,hi]
  ·simp[Gh.freeze,hi]
 ·intro i hi _
  exact⟨λb hF=>(Fnew i b hF).1 hi,by simp[Gh.freeze,hi]⟩
 ·intro i o' hi ho'
  rw[hobj,ab hi]at ho';cases ho'
 ·intro i hi n p v hs
  have e1:(KE e.slots (gi ids++e.objs)).obj i=some none:=by rw[hobj,ab hi]
  exact⟨⟨by rw[e1];simp,(λo ho=>by rw[e1]at ho;cases ho)⟩,(λo ho=>by rw[e1]at ho;cases ho)⟩
 ·intro i hi n p v hs
  have e1:(KE e.slots (gi ids++e.objs)).obj i=some none:=by rw[hobj,ab hi]
  exact⟨⟨by rw[e1];simp,(λo ho=>by rw[e1]at ho;cases ho)⟩,(λo ho=>by rw[e1]at ho;cases ho)⟩
theorem lC {P:Program}{nt:Nat}{e:Env}{a:Act}{w:World}{g:Gh}(h:InvG P B nt e a w g){ids:List Nat}{i:Nat}{ob:Obj}(hi:i∈ids)(ho:e.obj i=some (some ob))(hh:ob.hl=none):
  RO (g.freeze ids).S w ob.K ob.x (g.cs i):=
 Mx (λb hb=>.inl hb) (λb hb=>.inr ⟨i,hi,.inl hb⟩) ((h.objs i ob ho).own hh).1
theorem InvG.reslot {P:Program}{nt:Nat}{e:Env}{a:Act}{w:World}{g:Gh}(h:InvG P B nt e a w g){t:Nat}{s:Slot}(hs:SlotRep P g w e.obj s (a.tmps.getD t undef)):InvG P B nt ⟨(t,s)::e.slots,e.objs⟩ a w g:=by
 refine⟨h.glob,h.tmps,h.defers,h.ext,h.Ssz,h.Fsz,h.S0,h.Sb,h.Fb,h.FS,h.FF,h.plz,h.absent,h.objs,λi=>?_⟩
 by_cases hi:t=i
 ·subst hi
  have e1:(KE ((t,s)::e.slots) e.objs).get t=s:=by simp[Env.get,au]
  rw[e1];exact hs
 ·have e1:(KE ((t,s)::e.slots) e.objs).get i=e.get i:=by simp[Env.get,au,hi]
  rw[e1];exact h.slots i
theorem re {α β:Type}(f:α->β)(l:Array α):(l.toList.map f).toArray=l.map f:=by apply MJ;simp
section
variable {c:fS} {nt:Nat} {o:Oper} {Ω:Type} {k:bW->Option Ω} {out:Ω} {fr:Bool}
theorem rf {P:Program}{e:Env}{a:Act}{w:World}{g:Gh}(hg:InvG P B nt e a w g):∀{os:List Operand} {vs:List bF} {l:List Cap},os.map (λx=>e.view (e.opd x))=vs->oV vs=some l->CapsOk g w e.obj l (os.map a.eval)
 |[],[],l,_,hc=>by
  simp only[oV,Jq]at hc;subst hc
  rfl
 |x::os,v::vs,l,hv,hc=>by
  simp only[Jy,Ky]at hv;unfold oV at hc
  split at hc
  ·cases hc
   exact⟨_,_,rfl,aH hg hv.1,rf hg hv.2 ‹_›⟩
  ·cases hc
   exact⟨_,_,rfl,aH hg hv.1,rf hg hv.2 ‹_›⟩
  ·cases hc
 |[],_::_,_,hv,_=>by cases hv
 |_::_,[],_,hv,_=>by cases hv
theorem Cb {P:Program}{e:Env}{a:Act}{w:World}{g:Gh}(hg:InvG P B nt e a w g):∀{os:List Operand} {vs:List bF} {l:List KV},os.map (λx=>e.view (e.opd x))=vs->E4 vs=some l->FsRep g.S w l (os.map a.eval)
 |[],[],l,_,hc=>by
  simp only[E4,Jq]at hc;subst hc
  rfl
 |x::os,v::vs,l,hv,hc=>by
  simp only[Jy,Ky]at hv;unfold E4 at hc
  split at hc
  ·cases hc
   exact⟨_,_,rfl,aH hg hv.1,Cb hg hv.2 ‹_›⟩
  ·cases hc
 |[],_::_,_,hv,_=>by cases hv
 |_::_,[],_,hv,_=>by cases hv
theorem vU {f:Nat}{first caps:Array Operand}{vs:List bF}{fs:List KV}{l:List Cap}(ho:o.op= .makeFunc (.func f) first caps)(hfs:E4 (vs.take first.size)=some fs)(hcap:oV (vs.drop first.size)=some l)
  (hk:cz nt o.dst (.fv f fs l) k=some out):cc c B nt o vs fr k out:=by
 refine ba hk λe he a w g hg=>⟨.func (.func f) (first.map a.eval) (caps.map a.eval),?_,?_⟩
 ·simp only[execOp,ho,Instr.makeFunc,JC,JP,Js]
 ·have hvs:first.toList.map (λx=>e.view (e.opd x))++caps.toList.map (λx=>e.view (e.opd x))=vs:=by
   rw[← he.1]
   simp[Mo,Kw,ho,Op.operands]
  have h1:vs.take first.size=first.toList.map (λx=>e.view (e.opd x)):=by rw[← hvs];exact List.take_left' (by simp)
  have h2:vs.drop first.size=caps.toList.map (λx=>e.view (e.opd x)):=by rw[← hvs];exact List.drop_left' (by simp)
  exact⟨first.toList.map a.eval,caps.toList.map a.eval,by rw[re,re],Cb hg h1.symm hfs,rf hg h2.symm hcap⟩
end
variable {B:Base}
theorem OwnQ.take {S:Nat->Prop}{w:World}{e:Kd}{m:Md}{off:Int}{xs:List e.T}{A:Option Addr}{F:Nat->Prop}(h:OwnQ S w e m off xs A F){j:Nat}(hj:j<xs.length)(ho:off<=(j:Int)):
  ∃b o vs F1,A=some ⟨b,o,none⟩/\CellsAt w b (o+j*e.size) vs/\Own S w e m xs[j] vs F1/\(∀b,F1 b->F b)/\OwnQ S w e m (j+1) xs A (λb=>F b/\¬F1 b):=by
 obtain⟨h1,G,h2,h3,h4,h5⟩:=h;obtain⟨b,o,vs,hA,hc,hv⟩:=h5 j hj ho;refine⟨b,o,vs,G j,hA,hc,hv,h2 j,λh0=>?_,λi b=>j<i/\G i b,λi b hb=>⟨h2 i b hb.2,λhj'=>h4 i j b (by omega) hb.2 hj'⟩,λi ad had hb=>h3 i ad had hb.2,λi i' b hne hb hb'=>h4 i i' b hne hb.2 hb'.2,λi hi hoi=>?_⟩
 ·obtain⟨b',o',hA',hF'⟩:=h1 h0
  exact⟨b',o',hA',hF',λhb=>h3 j _ hA' hb⟩
 ·obtain⟨b',o',vs',k1,k2,k3⟩:=h5 i hi (by omega)
  exact⟨b',o',vs',k1,k2,k3.mono (λ_ h=>h) (λ_ _ _ _ h=>h) (λb hb=>⟨by omega,hb⟩) (λ_ _ _=>⟨rfl,rfl⟩)⟩
section
variable {c:fS} {nt:Nat} {o:Oper} {Ω:Type} {k:bW->Option Ω} {out:Ω} {fr:Bool}
theorem vV {x:Operand}{t id n d:Nat}{p:bI}{ob:Obj}{mds:List (Nat×Md)}(hc:cf c)(ho:o.op= .load t x)(hcond:(FK mds o.dst&&bK ob&&gy ob n p&& !ob.par&&p.isEmpty&&eS c t ob.K)=true)
  (hd:o.dst=some d) (hlt:Nat.blt d nt=true) (hk:k ⟨[(d,.v ob.K ob.x)],[(id,none)]⟩=some out):cc c B nt o [(.pt id n p,some ob)] fr k out:=by
 simp only[Jm,LM,Nc]at hcond;obtain⟨⟨⟨⟨⟨_,hh⟩,hok⟩,hpar⟩,rfl⟩,ht⟩:=hcond;obtain⟨hT,_⟩:=ey hc.ty ht;refine⟨_,hk,λe0 he a w ⟨g,hg⟩ next Q hn=>?_⟩;have hv:=cj he.1 (x:=x) (by rw[ho];rfl);have hob:=gN hv;have hhl:=bS hh;obtain⟨b,off,cs',K',m',x',h1,h2,h3⟩:=(aH hg hv).2 ob hob hok (.inl hhl);rw[cn]at h1;cases h1;simp only[ck,Jq,JH]at h2;obtain⟨o1,o2⟩:=(hg.objs id ob hob).own hhl;have hro:=lC hg (ids:=[id]) JA hob hhl;have hrun:(execOp a.eval o).run c.P w= .ok (.value (ob.K.val (g.cs id))) w:=by
  simp only[execOp,ho,h3,Instr.loadAt,JC,mC,Js,ix hT o1.length (o2 b off h2.1).1]
  rfl
 have hfz:=hg.freeze [id] (λi hi=>by rw[JQ]at hi;subst hi;exact⟨ob,hob,hpar⟩);unfold Oper.wp;rw[hrun,Oper.upon_value,hd];refine hn _ _ ⟨_,hfz.put (Nat.blt_eq.mp hlt) (s:=.v ob.K ob.x) ⟨_,hro,hro.vrep hT.np⟩⟩
theorem mH {Ω:Type}:∀{q p:bI} {k:Option Ω} {out:Ω},mx q p k=some out->(∃r,p=q++r)/\k=some out
 |[],p,k,out,h=>⟨⟨p,rfl⟩,by cases p<;>exact h⟩
 | .inn::q,.inn::p,k,out,h=>by obtain⟨⟨r,e⟩,h2⟩:=mH (q:=q) (p:=p) h;exact⟨⟨r,by rw[e];rfl⟩,h2⟩
 | .fst::q,.fst::p,k,out,h=>by obtain⟨⟨r,e⟩,h2⟩:=mH (q:=q) (p:=p) h;exact⟨⟨r,by rw[e];rfl⟩,h2⟩
 | .snd::q,.snd::p,k,out,h=>by obtain⟨⟨r,e⟩,h2⟩:=mH (q:=q) (p:=p) h;exact⟨⟨r,by rw[e];rfl⟩,h2⟩
 | .idx i::q,.idx j::p,k,out,h=>by
  have h':(if i=j then mx q p k else none)=some out:=h
  split at h'
  ·rename_i e1;subst e1;obtain⟨⟨r,e⟩,h2⟩:=mH (q:=q) (p:=p) h';exact⟨⟨r,by rw[e];rfl⟩,h2⟩
  ·cases h'
 | .inn::_,[],_,_,h| .inn::_,.fst::_,_,_,h| .inn::_,.snd::_,_,_,h| .inn::_,.idx _::_,_,_,h=>by cases h
 | .fst::_,[],_,_,h| .fst::_,.inn::_,_,_,h| .fst::_,.snd::_,_,_,h| .fst::_,.idx _::_,_,_,h=>by cases h
 | .snd::_,[],_,_,h| .snd::_,.inn::_,_,_,h| .snd::_,.fst::_,_,_,h| .snd::_,.idx _::_,_,_,h=>by cases h
 | .idx _::_,[],_,_,h| .idx _::_,.inn::_,_,_,h| .idx _::_,.fst::_,_,_,h| .idx _::_,.snd::_,_,_,h=>by cases h
theorem oe {x y:Operand}{t id n:Nat}{p h:bI}{ob:Obj}{ik:IntKind}{e:Kd}{m:Md}{xs:List e.T}{i:Int}{q2:Option Obj}(hc:cf c)(ho:o.op= .indexAddr t x y)
  (hh:ob.hl=some h) (hgp:aS ob.K ob.m ob.x p=some ⟨.sl e,.own m,xs⟩) (hcond:(!sZ h&& !aV p&&fu ob n p&&eS c t (.sl e))=true)
  (hk:mx (p++[.idx i]) h (cz nt o.dst (.pt id ob.log.length (p++[.idx i])) k)=some out):cc c B nt o [(.al id n p,some ob),(.v (.int ik) i,q2)] fr k out:=by
 simp only[Jm,LM]at hcond;obtain⟨⟨⟨hnq,hx⟩,hok⟩,ht⟩:=hcond;obtain⟨⟨r,rfl⟩,hk2⟩:=mH hk;obtain⟨hT,_⟩:=ey hc.ty ht;refine ba hk2 λe0 he a w g hg=>?_
 obtain⟨v1,v2⟩:=eK he.1 (x:=x) (y:=y) (by rw[ho];rfl);have e2:=eL (aH hg v2);have hob:=jn v1;obtain⟨q,cs',K',m',x',h1,h2,h3⟩:=(aH hg v1).2 ob hob hok (.inr hx);rw[h1]at hgp;cases hgp;obtain⟨q0,cs0,K0,m0,x0,k1,k2,_⟩:=(hg.objs id ob hob).hole _ hh hnq;rw[List.append_assoc,jQ p _ h1 h2]at k2;obtain⟨b,off,n2,cap,rfl,i1,i2,i3⟩:=ua k2;have e1:a.eval x= .slice (some ⟨b,off,none⟩) n2 cap:=h3.1;refine⟨.pointer (some ⟨b,off+i.toNat*e.size,none⟩),?_,?_⟩
 ·simp only[execOp,ho,e1,e2,JC,jo hc.ty hT w b off n2 cap i ik i1 i2,Js]
  rfl
 ·refine⟨LogOk.now hob,λo2 ho2 _ _=>?_⟩
  rw[hob]at ho2;cases ho2;refine⟨b,off+i.toNat*e.size,je w b (off+i.toNat*e.size) e.size,e,m,Ji xs i.toNat e.zero,?_,?_,rfl⟩
  ·rw[jk p _ h1];simp only[aS]
  ·rw[jQ p _ h1 h2]
   simp only[ck];rw[ab ⟨i1,i2⟩]
end
variable {B:Base}
section
variable {c:fS} {nt:Nat} {o:Oper} {Ω:Type} {k:bW->Option Ω} {out:Ω} {fr:Bool}
theorem SrcOwn.sub {P:Program}{S:Nat->Prop}{w:World}{e:Kd}{tx e':Nat}{xs:List e.T}{F:Nat->Prop}{A:Option Addr}{cap l h:Nat}(hk:P.underlying tx=some (.slice e'))
  (ho:Own S w (.sl e) (.own .ro) xs [.slice A xs.length cap] F) (h1:l<=h) (h2:h<=xs.length) (F3:Nat->Prop):
  SrcOwn P S w e .ro tx (.slice (if cap=l then A else A.map (·.add (l*e.size))) (h - l) (cap - l)) ((xs.take h).drop l) F3:=by
 obtain⟨A',cap',L,e0,c1,c2,c3,c4,c5,G,g1,g2,g3,g4⟩:=uo ho;simp only[Ky,NB,and_true,true_and]at e0;obtain⟨rfl,rfl⟩:=e0;have hzl:((xs.take h).drop l).length=h - l:=by simp;omega
 have hh:h*e.size<=xs.length*e.size:=JW _ h2;have hL:((L.take (h*e.size)).drop (l*e.size)).length=(h - l)*e.size:=by
  rw[LH,KU,c4,Nat.sub_mul];omega
 have hel:∀i,i<h - l->cH ((L.take (h*e.size)).drop (l*e.size)) e.size i=cH L e.size (l+i):=by
  intro i hi;have h3:(l+i+1)*e.size<=h*e.size:=JW _ (by omega);rw[Ku,Ku,KQ]at h3;unfold cH;rw[Lo,List.drop_take,List.take_take,Ku]
  congr 1
  omega
 have own:∀i (hi:i<((xs.take h).drop l).length),Own S w e .ro ((xs.take h).drop l)[i] (cH ((L.take (h*e.size)).drop (l*e.size)) e.size i) (λ_=>False):=by
  intro i hi;rw[hzl]at hi;rw[hel i hi];have:=g4 (l+i) (by omega);have e1:((xs.take h).drop l)[i]=xs[l+i]:=by simp
  rw[e1];exact MP.2 (MP.1 this)
 refine⟨(L.take (h*e.size)).drop (l*e.size),?_,λ_ _=>False,λ_ _ h=>h.elim,λ_ _ _ _ h=>h.elim,own⟩;rw[hzl]
 by_cases h0:h - l=0
 ·have hn:(L.take (h*e.size)).drop (l*e.size)=[]:=Kb.1 (by rw[hL,h0,Mi])
  rw[hn,h0];generalize(if cap=l then A else A.map (·.add (l*e.size)))=A2;cases A2 with
  |none=>exact NS w hk _
  |some a=>exact MQ w hk a 0 _ [] (by simp) (λj u hj=>by simp at hj) (λu hu=>by cases hu)
 ·rw[ao (by omega)]
  cases A with
  |none=>have:=c2 rfl;omega
  |some ad=>
   obtain⟨b,o,sp⟩:=ad;have hsp:sp=none:=(c3 _ rfl).1;subst hsp;refine MQ w hk _ (h - l) (cap - l) _ hL (λj u hj=>?_) (rc (by rw[hzl];exact hL) own);have hlt:j<(h - l)*e.size:=by rw[← hL];exact(JU.1 hj).1
   rw[Nat.sub_mul]at hlt;have h3:=c5 b o rfl (l*e.size+j) (by omega);rw[Lq,Lm,ab (by omega),KL (by omega)]at hj;cases hj;simpa[M5,L5]using h3
end
def Arg.size:Arg->Nat
 | .mp K _ _=>K.size
 |_=>0
def pi (P:Program)(S:Nat->Prop)(w:World)(F:Nat->Prop)(pl:Place)(cs:List Value):Arg->Value->Prop
 | .ro K x,v=>(∀b,¬F b)/\pl=none/\∃cs,RO S w K x cs/\VRep K cs v
 | .rp K x,v=>(∀b,¬F b)/\pl=none/\PtrRO S w K x v
 | .mp K m x,v=>∃b off,pl=some (b,off)/\v= .pointer (some ⟨b,off,none⟩)/\Own S w K m x cs F/\PlOk w pl cs
 | .ms K m x,v=>pl=none/\Own S w K m x cs F/\VRep K cs v
 | .mv K m x,v=>pl=none/\Own S w K m x cs F/\VRep K cs v
 | .fn Ks Kr f,v=>(∀b,¬F b)/\pl=none/\CloRep P S w Ks Kr f v
 | .fc f fs caps,v=>(∀b,¬F b)/\pl=none/\∃fv cv:List Value,v= .func (.func f) fv.toArray cv.toArray/\FsRep S w fs fv/\CapsRep S w caps cv
structure tl (P:Program) (w:World) (args:List Arg) (vals:List Value) (g:Gh):Prop where
 len:vals.length=args.length
 arg:∀j a v,args[j]? =some a->vals[j]? =some v->pi P g.S w (g.F j) (g.pl j) (g.cs j) a v
 rest:∀j,args.length<=j->(∀b,¬g.F j b)/\g.pl j=none
 Ssz:∀b,g.S b->b<w.heap.size
 Fsz:∀j b,g.F j b->b<w.heap.size
 FS:∀j b,g.F j b->¬g.S b
 FF:∀i j b,i≠j->g.F i b->¬g.F j b
 plz:∀i b off,g.pl i=some (b,off)->b<w.heap.size/\¬g.S b/\(∀j,¬g.F j b)/\∀j off',g.pl j=some (b,off')->i=j
 glob:GlobOk P g.S w
def Wr (args:List Arg)(g:Gh)(b o:Nat):Prop:=(∃j,g.F j b)\/∃j a off,args[j]? =some a/\g.pl j=some (b,off)/\off<=o/\o<off+a.size
def fp (w2:World)(g g2:Gh):Nat->List Arg->List KV->Prop
 |j,.mp K m _::as,q::l=>(∃y,q=⟨K,y⟩/\Own g2.S w2 K m y (g2.cs j) (g2.F j)/\PlOk w2 (g.pl j) (g2.cs j))/\fp w2 g g2 (j+1) as l
 |j,.ms K m _::as,q::l=>(∃y,q=⟨K,y⟩/\Own g2.S w2 K m y (g.cs j) (g2.F j))/\fp w2 g g2 (j+1) as l
 |_,.mp _ _ _::_,[]=>False
 |_,.ms _ _ _::_,[]=>False
 |j,.ro _ _::as,l=>fp w2 g g2 (j+1) as l
 |j,.rp _ _::as,l=>fp w2 g g2 (j+1) as l
 |j,.mv _ _ _::as,l=>fp w2 g g2 (j+1) as l
 |j,.fn _ _ _::as,l=>fp w2 g g2 (j+1) as l
 |j,.fc _ _ _::as,l=>fp w2 g g2 (j+1) as l
 |_,[],[]=>True
 |_,[],_::_=>False
def RetRep (S:Nat->Prop)(w:World)(F:Nat->Prop)(cs:List Value):RV->Value->Prop
 | .ro K x,v=>(∀b,¬F b)/\RO S w K x cs/\VRep K cs v
 | .own K m x,v=>Own S w K m x cs F/\VRep K cs v
 | .bx K m x,v=>∃b off,F b/\v= .pointer (some ⟨b,off,none⟩)/\Own S w K m x cs (λb'=>F b'/\b'≠b)/\PlOk w (some (b,off)) cs
def qy (w:World)(g:Gh)(n:Nat):List RV->Value->Prop
 |[],_=>True
 |[r],v=>RetRep g.S w (g.F n) (g.cs n) r v
 |l,v=>∃vs:Array Value,v= .tuple vs/\vs.size=l.length/\∀i r u,l[i]? =some r->vs[i]? =some u->RetRep g.S w (g.F (n+i)) (g.cs (n+i)) r u
structure Cc (w w2:World) (args:List Arg) (g g2:Gh) (res:oS) (v:Value):Prop where
 ext:Ext w w2 (Wr args g)
 S:∀b,g.S b->g2.S b
 Sb:∀b,g2.S b->g.S b\/(∃j,g.F j b)\/w.heap.size<=b
 Ssz:∀b,g2.S b->b<w2.heap.size
 Fb:∀j b,g2.F j b->(∃i,g.F i b)\/w.heap.size<=b
 Fsz:∀j b,g2.F j b->b<w2.heap.size
 FS:∀j b,g2.F j b->¬g2.S b
 FF:∀i j b,i≠j->g2.F i b->¬g2.F j b
 outs:fp w2 g g2 0 args res.outs
 rets:qy w2 g2 args.length res.rets v
def IH (P:Program)(f:Nat)(args:List Arg)(res:oS):Prop:=
 ∀w vals g,tl P w args vals g->Calls P f vals.toArray w λe w2=>∃v g2,e= .returned v/\Cc w w2 args g g2 res v
structure lS (c:fS):Prop where
 uni:∀(f:Nat) (args:List Arg) (Ω:Type) (K:oS->Option Ω),c.M f args K=(c.M f args some).bind K
 body:∀f ams,ams∈c.sg f->∃fn,c.P.funcs[f]? =some fn/\fn.name≠ "runtime.NumGoroutine" /\fn.body.isNone=false
 ans:∀f (args:List Arg) (Ω:Type) (K:oS->Option Ω) (out:Ω),c.M f args K=some out->∃res,K res=some out/\IH c.P f args res
def Gh.has (g:Gh)(id b:Nat):Prop:=(∃off,g.pl id=some (b,off))\/g.F id b
theorem InvG.has_one {P:Program}{B:Base}{nt:Nat}{e:Env}{a:Act}{w:World}{g:Gh}(h:InvG P B nt e a w g){i j b:Nat}(h1:g.has i b)(h2:g.has j b):i=j:=by
 rcases h1 with⟨o1,h1⟩|h1<;>rcases h2 with⟨o2,h2⟩|h2
 ·exact(h.plz i b o1 h1).2.2.2 j o2 h2
 ·exact bJ h2 ((h.plz i b o1 h1).2.2.1 j)
 ·exact bJ h1 ((h.plz j b o2 h2).2.2.1 i)
 ·exact LL λhne=>h.FF i j b hne h1 h2
theorem InvG.has_lt {P:Program}{B:Base}{nt:Nat}{e:Env}{a:Act}{w:World}{g:Gh}(h:InvG P B nt e a w g){i b:Nat}(h1:g.has i b):b<w.heap.size/\¬g.S b:=by
 rcases h1 with⟨o1,h1⟩|h1
 ·exact⟨(h.plz i b o1 h1).1,(h.plz i b o1 h1).2.1⟩
 ·exact⟨h.Fsz i b h1,h.FS i b h1⟩
def Link (P:Program)(S:Nat->Prop)(w:World)(g:Gh)(ob:Nat->Option (Option Obj))(F:Nat->Prop)(pl:Place)(cs:List Value):AM->bF->Arg->Value->Prop
 | .mp,(.pt id n p,some o),arg,v=>ob id=some (some o)/\o.hl=none/\gy o n p=true/\∃K m x b off,arg= .mp K m x/\pl=some (b,off)/\v= .pointer (some ⟨b,off,none⟩)/\aS o.K o.m o.x p=some ⟨K,m,x⟩/\
   ck w p o.K (g.pl id) (g.cs id)=some (pl,cs)/\Focus g.S w p o.K o.m o.x (g.cs id) (g.F id) (g.pl id) K m x cs pl F
 | .ms,(.al id n p,some o),arg,v=>ob id=some (some o)/\o.hl=none/\fu o n p=true/\pl=none/\∃K m x q,I2 K m=true/\arg= .ms K m x/\VRep K cs v/\aS o.K o.m o.x p=some ⟨K,m,x⟩/\
   ck w p o.K (g.pl id) (g.cs id)=some (q,cs)/\Focus g.S w p o.K o.m o.x (g.cs id) (g.F id) (g.pl id) K m x cs q F
 | .mv,(.al id n p,some o),arg,v=>ob id=some (some o)/\o.hl=none/\o.par=false/\pl=none/\∃K m x q,arg= .mv K m x/\VRep K cs v/\aS o.K o.m o.x p=some ⟨K,m,x⟩/\
   ck w p o.K (g.pl id) (g.cs id)=some (q,cs)/\Focus g.S w p o.K o.m o.x (g.cs id) (g.F id) (g.pl id) K m x cs q F
 | .ro,_,arg,v=>(∀b,¬F b)/\pl=none/\∃K x,arg= .ro K x/\∃cs,RO S w K x cs/\VRep K cs v
 | .rp,_,arg,v=>(∀b,¬F b)/\pl=none/\∃K x,arg= .rp K x/\PtrRO S w K x v
 | .fn Ks Kr,_,arg,v=>(∀b,¬F b)/\pl=none/\∃f,arg= .fn Ks Kr f/\CloRep P S w Ks Kr f v
 | .fc _ _ _,_,arg,v=>(∀b,¬F b)/\pl=none/\∃f fs caps,arg= .fc f fs caps/\∃fv cv:List Value,v= .func (.func f) fv.toArray cv.toArray/\FsRep S w fs fv/\CapsRep S w caps cv
 |_,_,_,_=>False
theorem Link.rep {P:Program}{S:Nat->Prop}{w:World}{g:Gh}{ob:Nat->Option (Option Obj)}{F:Nat->Prop}{pl:Place}{cs:List Value}(hS:∀b,g.S b->S b):∀{am:AM} {v:bF} {arg:Arg} {x:Value},Link P S w g ob F pl cs am v arg x->pi P S w F pl cs arg x:=by
 intro am v arg x h;unfold Link at h
 split at h
 ·obtain⟨_,_,_,K,m,z,b,off,rfl,rfl,rfl,_,_,f⟩:=h
  exact⟨b,off,rfl,rfl,f.own.mono hS (λ_ _ _ _ h=>h) (λ_ h=>h) (λ_ _ _=>⟨rfl,rfl⟩),f.ok⟩
 ·obtain⟨_,_,_,rfl,e,m,z,q,_,rfl,hv,_,_,f⟩:=h
  exact⟨rfl,f.own.mono hS (λ_ _ _ _ h=>h) (λ_ h=>h) (λ_ _ _=>⟨rfl,rfl⟩),hv⟩
 ·obtain⟨_,_,_,rfl,K,m,x,q,rfl,hv,_,_,f⟩:=h
  exact⟨rfl,f.own.mono hS (λ_ _ _ _ h=>h) (λ_ h=>h) (λ_ _ _=>⟨rfl,rfl⟩),hv⟩
 ·obtain⟨h1,rfl,K,z,rfl,h⟩:=h
  exact⟨h1,rfl,h⟩
 ·obtain⟨h1,rfl,K,z,rfl,h⟩:=h
  exact⟨h1,rfl,h⟩
 ·obtain⟨h1,rfl,f,rfl,h⟩:=h
  exact⟨h1,rfl,h⟩
 ·obtain⟨h1,rfl,f,fs,caps,rfl,h⟩:=h
  exact⟨h1,rfl,h⟩
 ·exact h.elim
def Gh.lend (g:Gh)(L:List Nat)(b:Nat):Prop:=g.S b\/∃i,i∈L/\g.has i b
variable {B:Base}
theorem Eg {P:Program}{nt:Nat}{e:Env}{a:Act}{w:World}{g:Gh}(hg:InvG P B nt e a w g){x:Operand}{id n:Nat}{p:bI}{o:Obj}{L:List Nat}(hL:id∈L)(hv:e.view (e.opd x)=(.al id n p,some o))
  (hc:(bK o&&fu o n p)=true) {K:Kd} {m:Md} {z:K.T} (hg0:aS o.K o.m o.x p=some ⟨K,m,z⟩):∃cs,RO (g.lend L) w K z cs/\VRep K cs (a.eval x):=by
 rw[Jm]at hc;obtain⟨q,cs',K',m',x',F',f1,f2,f3,f⟩:=jT hg hv hc.1 hc.2;rw[hg0]at f1;cases f1;exact⟨cs',Mx (λb hb=>.inl hb) (λb hb=>.inr ⟨id,hL,.inr (f.sub b hb)⟩) f.own,f3⟩
theorem Eh {P:Program}{nt:Nat}{e:Env}{a:Act}{w:World}{g:Gh}(hg:InvG P B nt e a w g){x:Operand}{id n:Nat}{p:bI}{o:Obj}{L:List Nat}(hL:id∈L)(hv:e.view (e.opd x)=(.pt id n p,some o))
  (hc:(bK o&&gy o n p)=true) {K:Kd} {m:Md} {z:K.T} (hg0:aS o.K o.m o.x p=some ⟨K,m,z⟩):PtrRO (g.lend L) w K z (a.eval x):=by
 rw[Jm]at hc;obtain⟨b,off,cs',K',m',x',F',f1,f2,f3,f⟩:=qV hg hv hc.1 hc.2;rw[hg0]at f1;cases f1;obtain⟨a1,a2⟩:=f.at_ b off rfl;refine⟨b,off,cs',f3,.inr ⟨id,hL,?_⟩,(f.ok b off rfl).1,Mx (λb hb=>.inl hb) (λb hb=>.inr ⟨id,hL,.inr (f.sub b hb)⟩) f.own⟩;rcases a2 with⟨o0,e1,_⟩|h
 ·exact .inl ⟨o0,e1⟩
 ·exact .inr h
variable {B:Base}
def ROArgs (P:Program)(S:Nat->Prop)(w:World):List Arg->List Value->Prop
 |[],vs=>vs=[]
 |a::as,vs=>∃v r,vs=v::r/\((∃K x,a= .ro K x/\∃cs,RO S w K x cs/\VRep K cs v)\/(∃K x,a= .rp K x/\PtrRO S w K x v))/\ROArgs P S w as r
theorem ROArgs.app {P:Program}{S:Nat->Prop}{w:World}:∀{a1 a2:List Arg} {v1 v2:List Value},ROArgs P S w a1 v1->ROArgs P S w a2 v2->ROArgs P S w (a1++a2) (v1++v2)
 |[],_,v1,_,h1,h2=>by rw[show v1=[]from h1];exact h2
 |a::as,_,_,_,⟨v,r,e,h,h1⟩,h2=>by subst e;exact⟨v,_,rfl,h,ROArgs.app h1 h2⟩
theorem ROArgs.ts {P:Program}{S:Nat->Prop}{w:World}:∀{Ks:List Kd} {a:Kd.Ts Ks} {vs:List Value},zE S w Ks a vs->ROArgs P S w (ub Ks a) vs
 |[],_,_,h=>h
 |K::Ks,a,_,⟨v,r,cs,e,h1,h2,h3⟩=>⟨v,r,e,.inl ⟨K,a.1,rfl,cs,h1,h2⟩,ROArgs.ts h3⟩
theorem ROArgs.caps {P:Program}{S:Nat->Prop}{w:World}:∀{l:List KV} {vs:List Value},CapsRep S w l vs->ROArgs P S w (xX l) vs
 |[],_,h=>h
 |⟨K,x⟩::l,_,⟨v,r,e,h1,h2⟩=>⟨v,r,e,.inr ⟨K,x,rfl,h1⟩,ROArgs.caps h2⟩
theorem ROArgs.fs {P:Program}{S:Nat->Prop}{w:World}:∀{l:List KV} {vs:List Value},FsRep S w l vs->ROArgs P S w (xY l) vs
 |[],_,h=>h
 |⟨K,x⟩::l,_,⟨v,r,e,h1,h2⟩=>⟨v,r,e,.inl ⟨K,x,rfl,h1⟩,ROArgs.fs h2⟩
theorem ROArgs.at_ {P:Program}{S:Nat->Prop}{w:World}:∀{as:List Arg} {vs:List Value},ROArgs P S w as vs->vs.length=as.length/\∀(j:Nat) (a:Arg) (v:Value),as[j]? =some a->vs[j]? =some v->pi P S w (λ_=>False) none [] a v/\a.size=0
 |[],_,h=>by rw[show _=[]from h];exact⟨rfl,λj a v h=>by simp at h⟩
 |a::as,_,⟨v,r,e,h,h1⟩=>by
  subst e;obtain⟨i1,i2⟩:=ROArgs.at_ h1;refine⟨by simp[i1],λj a' v' ha hv=>?_⟩;cases j with
  |zero=>
   simp only[Kq,Jq]at ha hv;subst ha;subst hv;rcases h with⟨K,x,rfl,h⟩|⟨K,x,rfl,h⟩
   ·exact⟨⟨λ_ h=>h,rfl,h⟩,rfl⟩
   ·exact⟨⟨λ_ h=>h,rfl,h⟩,rfl⟩
  |succ j=>exact i2 j a' v' (by simpa using ha) (by simpa using hv)
theorem Cd {P:Program}{S:Nat->Prop}{w:World}{as:List Arg}{vs:List Value}(h:ROArgs P S w as vs)(hS:∀b,S b->b<w.heap.size)(hG:GlobOk P S w):tl P w as vs ⟨S,λ_ _=>False,λ_=>none,λ_=>[]⟩:=by
 obtain⟨h1,h2⟩:=h.at_;exact⟨h1,λj a v ha hv=>(h2 j a v ha hv).1,λ_ _=>⟨λ_ h=>h,rfl⟩,hS,λ_ _ h=>h.elim,λ_ _ h=>h.elim,λ_ _ _ _ h=>h.elim,(λ_ _ _ h=>by cases h),hG⟩
theorem GS {c:fS}(hM:lS c){S:Nat->Prop}{w:World}{f:Nat}{fs caps:List KV}{Ks:List Kd}{Kr:Kd}{fv cv:List Value}{ams:List AM}(hsg:ams∈c.sg f)(hfs:FsRep S w fs fv)(hcap:CapsRep S w caps cv):
  CloRep c.P S w Ks Kr (J4 c f fs caps Ks Kr) (.func (.func f) fv.toArray cv.toArray):=by
 refine⟨f,fv,cv,rfl,hM.body f ams hsg,λS1 w1 h1 h2 h3 hG a r vals hf ht=>?_⟩;obtain⟨res,hres,hans⟩:=hM.ans f _ _ _ _ hf;have hargs:ROArgs c.P S1 w1 (xY fs++(ub Ks a++xX caps)) (fv++(vals++cv)):=ROArgs.app (ROArgs.fs (hfs.mono h1 h3)) (ROArgs.app (ROArgs.ts ht) (ROArgs.caps (hcap.mono h1 h3)));have:=hans w1 _ _ (Cd hargs h2 hG);refine this.mono ?_;rintro e w2 ⟨v,g2,rfl,hd⟩;refine⟨v,rfl,hd.ext.mono ?_,?_⟩
 ·rintro b o _ (⟨j,h⟩|⟨j,a,off,_,h,_⟩)
  ·exact h
  ·cases h
 ·have hr:=hd.rets
  unfold one at hres;have hSb:∀b,g2.S b->S1 b\/w1.heap.size<=b:=λb hb=>by
   rcases hd.Sb b hb with h|⟨j,h⟩|h
   ·exact .inl h
   ·exact h.elim
   ·exact .inr h
  have hFb:∀j b,g2.F j b->w1.heap.size<=b:=λj b hb=>by
   rcases hd.Fb j b hb with⟨i,h⟩|h
   ·exact h.elim
   ·exact h
  cases res with
  |mk rets outs=>
   cases outs with
   |cons _ _=>cases rets with
    |nil=>simp at hres
    |cons r0 l=>cases l<;>cases r0<;>simp at hres
   |nil=>
    cases rets with
    |nil=>simp at hres
    |cons r0 l=>
     cases l with
     |cons _ _=>cases r0<;>simp at hres
     |nil=>
      cases r0 with
      |ro K x=>
       simp only at hres
       split at hres
       ·rename_i hk
        have:=Ka hk;subst this;cases hres;obtain⟨_,r1,r2⟩:=hr;exact⟨g2.S,hd.S,hSb,hd.Ssz,_,r1,r2⟩
       ·cases hres
      |bx K m x=>simp at hres
      |own K m x=>
       simp only at hres
       split at hres
       ·rename_i hk
        have:=Ka hk;subst this;cases hres;obtain⟨r1,r2⟩:=hr;refine⟨λb=>g2.S b\/g2.F _ b,λb hb=>.inl (hd.S b hb),λb hb=>?_,λb hb=>?_,_,Mx (λb hb=>.inl hb) (λb hb=>.inr hb) r1,r2⟩
        ·rcases hb with hb|hb
         ·exact hSb b hb
         ·exact .inr (hFb _ b hb)
        ·rcases hb with hb|hb
         ·exact hd.Ssz b hb
         ·exact hd.Fsz _ b hb
       ·cases hres
theorem uu {P:Program}{nt:Nat}{e:Env}{a:Act}{w:World}{g:Gh}(hg:InvG P B nt e a w g){x:Operand}{f:Nat}{fs:List KV}{l:List CapV}{q:Option Obj}(hv:e.view (e.opd x)=(.fvr f fs l,q)):
  ∃caps,l=caps.map e.cap/\FvRep g w e.obj f fs caps (a.eval x):=by
 have h2:=congrArg Prod.fst hv;have h0:=Inv.eval hg x;cases hs:e.opd x with
 |fv f' fs' caps=>
  rw[hs]at h2 h0;cases h2;exact⟨caps,rfl,h0⟩
 |fvr=>rw[hs]at h0;exact h0.elim
 |_=>rw[hs]at h2;cases h2
theorem Ei {e:Env}{id n:Nat}{o:Obj}(h:e.cap (.pt id n)= .pt id n (some o)):e.obj id=some (some o):=by
 have h:CapV.pt id n (e.obj id).join= .pt id n (some o):=h;simp only[CapV.pt.injEq,true_and]at h;cases ho:e.obj id with
 |none=>rw[ho]at h;cases h
 |some q=>rw[ho]at h;simp at h;rw[h]
theorem nc {P:Program}{nt:Nat}{e:Env}{a:Act}{w:World}{g:Gh}(hg:InvG P B nt e a w g){L:List Nat}:∀{caps:List Cap} {cv:List Value} {cs:List KV},CapsOk g w e.obj caps cv->kY (caps.map e.cap)=some cs->
  (∀i,i∈ko (caps.map e.cap)->i∈L)->CapsRep (g.lend L) w cs cv
 |[],cv,cs,h,hc,_=>by
  simp only[List.map_nil,kY,Jq]at hc;subst hc;exact h
 | .rp K x::caps,cv,cs,⟨v,r,e1,h1,h2⟩,hc,hL=>by
  unfold kY at hc;simp only[Jy,N2]at hc
  split at hc
  ·cases hc
   exact⟨v,r,e1,PtrRO.mono (λb hb=>.inl hb) (λ_ _ _ _ h=>h) h1,nc hg h2 ‹_› hL⟩
  ·cases hc
 | .pt id n::caps,cv,cs,⟨v,r,e1,h1,h2⟩,hc,hL=>by
  have hL1:id∈L:=hL id (by simp[N2,ko]);have hL2:∀i,i∈ko (caps.map e.cap)->i∈L:=λi hi=>hL i (by simp[N2,ko];exact .inr hi)
  unfold kY at hc;simp only[Jy]at hc
  split at hc
  ·rename_i h0;cases h0
  ·rename_i h0;simp[N2]at h0
  ·rename_i id' n' o l' h0
   simp only[Ky]at h0;obtain⟨h0,rfl⟩:=h0;have hn:id'=id/\n'=n:=by simp only[N2,CapV.pt.injEq]at h0;exact⟨h0.1.symm,h0.2.1.symm⟩
   obtain⟨rfl,rfl⟩:=hn;have ho:=Ei h0
   split at hc
   ·rename_i hcond
    rw[Jm]at hcond
    split at hc
    ·cases hc
     refine⟨v,r,e1,?_,nc hg h2 ‹_› hL2⟩;obtain⟨b,off,cs',K',m',x',a1,a2,a3⟩:=h1.2 o ho hcond.2 (.inl (bS hcond.1));simp only[ck,Jq,JH]at a2;obtain⟨o1,o2⟩:=(hg.objs id' o ho).own (bS hcond.1);exact⟨b,off,g.cs id',a3,.inr ⟨id',hL1,.inl ⟨off,a2.1⟩⟩,(o2 b off a2.1).1,Mx (λb hb=>.inl hb) (λb hb=>.inr ⟨id',hL1,.inr hb⟩) o1⟩
    ·cases hc
   ·cases hc
  ·rename_i h0;cases hc
def dw:AM->bF->Option Nat
 | .mp,(.pt id _ _,_)=>some id
 | .ms,(.al id _ _,_)=>some id
 | .mv,(.al id _ _,_)=>some id
 |_,_=>none
theorem lT (am:AM)(ams:List AM)(v:bF)(vs:List bF):ev (am::ams) (v::vs)=match dw am v with|some id=>id::ev ams vs|none=>ev ams vs:=by
 obtain⟨s,q⟩:=v;cases am<;>cases s<;>rfl
structure zL (P:Program) (L:List Nat) (w:World) (g:Gh) (ob:Nat->Option (Option Obj)) (F:Nat->Prop) (pl:Place) (cs:List Value) (am:AM) (v:bF) (arg:Arg) (x:Value):Prop where
 link:Link P (g.lend L) w g ob F pl cs am v arg x
 sub:∀b,F b->∃id,dw am v=some id/\g.F id b
 place:∀b off,pl=some (b,off)->(∃id,dw am v=some id/\g.has id b)/\¬F b
theorem Ce {c:fS}(hM:lS c){nt:Nat}{e:Env}{a:Act}{w:World}{g:Gh}(hg:InvG c.P B nt e a w g){L:List Nat}{x:Operand}{t:Nat}{am:AM}{v:bF}{arg:Arg}(hv:e.view (e.opd x)=v)(ha:BV c t am v=some arg)
  (hL:∀i,i∈gn [am] [v]->i∈L):∃F pl cs,zL c.P L w g e.obj F pl cs am v arg (a.eval x):=by
 have none1:∀{F:Nat->Prop},(∀b,¬F b)->∀b,F b->∃id,dw am v=some id/\g.F id b:=λh b hb=>bJ hb (h b)
 have none2:∀(F:Nat->Prop) b off,(none:Place)=some (b,off)->(∃id,dw am v=some id/\g.has id b)/\¬F b:=λ_ _ _ h=>by cases h
 unfold BV at ha
 split at ha
 ·cases ha
  obtain⟨cs,h1,h2⟩:=aH hg hv;exact⟨λ_=>False,none,[],⟨⟨λ_ h=>h,rfl,_,_,rfl,cs,h1.mono (λb hb=>.inl hb) (λ_ _ _ _ h=>h),h2⟩,none1 (λ_ h=>h),none2 _⟩⟩
 ·split at ha
  ·rename_i el hl
   cases ha;have hr:a.eval x= .slice none 0 0:=aH hg hv;refine⟨λ_=>False,none,[],⟨⟨λ_ h=>h,rfl,_,_,rfl,[.slice none 0 0],⟨none,0,rfl,JG _,λi hi=>bJ hi (Jx i)⟩,?_⟩,none1 (λ_ h=>h),none2 _⟩⟩;rw[hr];exact⟨rfl,rfl⟩
  ·cases ha
 ·rename_i id n p o
  split at ha
  ·rename_i hc
   split at ha
   ·rename_i K m z hg0
    cases ha;exact⟨λ_=>False,none,[],⟨⟨λ_ h=>h,rfl,_,_,rfl,Eg hg (hL id (by simp[gn])) hv hc hg0⟩,none1 (λ_ h=>h),none2 _⟩⟩
   ·cases ha
  ·cases ha
 ·cases ha
  have:PtrRO g.S w _ _ (a.eval x):=aH hg hv;exact⟨λ_=>False,none,[],⟨⟨λ_ h=>h,rfl,_,_,rfl,this.mono (λb hb=>.inl hb) (λ_ _ _ _ h=>h)⟩,none1 (λ_ h=>h),none2 _⟩⟩
 ·rename_i id n p o
  split at ha
  ·rename_i hc
   split at ha
   ·rename_i K m z hg0
    cases ha;exact⟨λ_=>False,none,[],⟨⟨λ_ h=>h,rfl,_,_,rfl,Eh hg (hL id (by simp[gn])) hv hc hg0⟩,none1 (λ_ h=>h),none2 _⟩⟩
   ·cases ha
  ·cases ha
 ·rename_i id n p o
  split at ha
  ·rename_i hc
   split at ha
   ·rename_i K m z hg0
    cases ha;rw[Jm]at hc;obtain⟨b,off,cs',K',m',x',F',f1,f2,f3,f⟩:=qV hg hv hc.1 hc.2;rw[hg0]at f1;cases f1;refine⟨F',some (b,off),cs',⟨⟨gN hv,bS hc.1,hc.2,K,m,z,b,off,rfl,rfl,f3,hg0,f2,f⟩,λb hb=>⟨id,rfl,f.sub b hb⟩,λb' off' e1=>?_⟩⟩;obtain⟨a1,a2⟩:=f.at_ b' off' e1;refine⟨⟨id,rfl,?_⟩,a1⟩;rcases a2 with⟨o0,e2,_⟩|h
    ·exact .inl ⟨o0,e2⟩
    ·exact .inr h
   ·cases ha
  ·cases ha
 ·rename_i id n p o
  split at ha
  ·rename_i hc
   split at ha
   ·rename_i el m z hg0
    split at ha
    ·rename_i hms
     cases ha;rw[Jm]at hc;obtain⟨q,cs',K',m',x',F',f1,f2,f3,f⟩:=jT hg hv hc.1 hc.2;rw[hg0]at f1;cases f1;exact⟨F',none,cs',⟨⟨jn hv,bS hc.1,hc.2,rfl,el,m,z,q,hms,rfl,f3,hg0,f2,f⟩,λb hb=>⟨id,rfl,f.sub b hb⟩,none2 _⟩⟩
    ·cases ha
   ·cases ha
  ·cases ha
 ·rename_i id n p o
  split at ha
  ·rename_i hc
   simp only[Jm]at hc
   split at ha
   ·rename_i K m z hg0
    cases ha;obtain⟨q,cs',K',m',x',F',f1,f2,f3,f⟩:=jT hg hv hc.1.1 hc.1.2;rw[hg0]at f1;cases f1;exact⟨F',none,cs',⟨⟨jn hv,bS hc.1.1,by simpa using hc.2,rfl,K,m,z,q,rfl,f3,hg0,f2,f⟩,λb hb=>⟨id,rfl,f.sub b hb⟩,none2 _⟩⟩
   ·cases ha
  ·cases ha
 ·split at ha
  ·rename_i hc
   rw[Jm]at hc;cases ha;have e1:=Kd.eq_of_beqs hc.1;have e2:=Ka hc.2;subst e1;subst e2;have:CloRep c.P g.S w _ _ _ (a.eval x):=aH hg hv;exact⟨λ_=>False,none,[],⟨⟨λ_ h=>h,rfl,_,rfl,this.mono (λb hb=>.inl hb) (λ_ _ _ _ h=>h)⟩,none1 (λ_ h=>h),none2 _⟩⟩
  ·cases ha
 ·split at ha
  ·rename_i cs ams _ hcs hsg
   cases ha;obtain⟨caps,rfl,fv,cv,e1,h1,h2⟩:=uu hg hv;refine⟨λ_=>False,none,[],⟨⟨λ_ h=>h,rfl,_,rfl,?_⟩,none1 (λ_ h=>h),none2 _⟩⟩;rw[e1];exact GS hM (ams:=ams) (by rw[hsg];exact JA) (h1.mono (λb hb=>.inl hb) (λ_ _ _ _ h=>h)) (nc hg h2 hcs (λi hi=>hL i (by simpa[gn]using hi)))
  ·cases ha
 ·split at ha
  ·rename_i cs hcs
   split at ha
   ·cases ha
    obtain⟨caps,rfl,fv,cv,e1,h1,h2⟩:=uu hg hv;exact⟨λ_=>False,none,[],⟨⟨λ_ h=>h,rfl,_,_,_,rfl,fv,cv,e1,h1.mono (λb hb=>.inl hb) (λ_ _ _ _ h=>h),nc hg h2 hcs (λi hi=>hL i (by simpa[gn]using hi))⟩,none1 (λ_ h=>h),none2 _⟩⟩
   ·cases ha
  ·cases ha
 ·cases ha
def vW {α:Type}(x:α)(f:Nat->α):Nat->α
 |0=>x
 |n+1=>f n
theorem FL {c:fS}(hM:lS c){nt:Nat}{e:Env}{a:Act}{w:World}{g:Gh}(hg:InvG c.P B nt e a w g){L:List Nat}:∀(ts:List Nat) (ams:List AM) (xs:List Operand) (vs:List bF) (args:List Arg),
  xs.map (λx=>e.view (e.opd x))=vs->lO c ts ams vs=some args->(∀i,i∈gn ams vs->i∈L)->
  args.length=xs.length/\ams.length=xs.length/\∃(F:Nat->Nat->Prop) (pl:Nat->Place) (cs:Nat->List Value),(∀j,args.length<=j->(∀b,¬F j b)/\pl j=none)/\
   ∀(j:Nat) (am:AM) (v:bF) (arg:Arg) (x:Operand),ams[j]? =some am->vs[j]? =some v->args[j]? =some arg->xs[j]? =some x->zL c.P L w g e.obj (F j) (pl j) (cs j) am v arg (a.eval x)
 |[],[],[],_,args,hv,ha,_=>by
  rw[List.map_nil]at hv;subst hv;simp only[lO,Jq]at ha;subst ha;exact⟨rfl,rfl,λ_ _=>False,λ_=>none,λ_=>[],λ_ _=>⟨λ_ h=>h,rfl⟩,λj am v arg x h=>by simp at h⟩
 |t::ts,am::ams,x::xs,v::vs,args,hv,ha,hL=>by
  simp only[Jy,Ky]at hv;unfold lO at ha
  split at ha
  ·rename_i arg l h1 h2
   cases ha;have hlent:gn (am::ams) (v::vs)=gn [am] [v]++gn ams vs:=by
    obtain⟨s,q⟩:=v;cases am<;>cases s<;>simp[gn]
   obtain⟨F0,pl0,cs0,k0⟩:=Ce hM hg hv.1 h1 (λi hi=>hL i (by rw[hlent];exact List.mem_append_left _ hi));obtain⟨i1,i2,F,pl,cs,i3,i4⟩:=FL hM hg ts ams xs vs l hv.2 h2 (λi hi=>hL i (by rw[hlent];exact List.mem_append_right _ hi));refine⟨by simp[i1],by simp[i2],vW F0 F,vW pl0 pl,vW cs0 cs,λj hj=>?_,λj am' v' arg' x' ha' hv' hg' hx'=>?_⟩
   ·cases j with
    |zero=>simp at hj
    |succ j=>exact i3 j (by simpa using hj)
   ·cases j with
    |zero=>
     simp only[Kq,Jq]at ha' hv' hg' hx';subst ha';subst hv';subst hg';subst hx';exact k0
    |succ j=>exact i4 j am' v' arg' x' (by simpa using ha') (by simpa using hv') (by simpa using hg') (by simpa using hx')
  ·cases ha
 |[],_::_,_,_,_,_,ha,_=>by simp[lO]at ha
 |[],[],_::_,_,_,hv,ha,_=>by subst hv;simp[lO]at ha
 |_::_,[],_,_,_,_,ha,_=>by simp[lO]at ha
 |_::_,_::_,[],_,_,hv,ha,_=>by subst hv;simp[lO]at ha
 |_::_,_::_,_::_,[],_,hv,_,_=>by cases hv
variable {B:Base}
inductive pY (w2:World) (gc g2:Gh) (j:Nat) (id:Nat):AM->bF->Arg->Option Obj->Prop where
 |mp {n:Nat} {p:bI} {o:Obj} {K:Kd} {m:Md} {z y:K.T} {m2:Md} {x2:o.K.T} (hg:aS o.K o.m o.x p=some ⟨K,m,z⟩) (hm:iY o.m p m=some m2) (hs:gx o.K o.x p K y=some x2)
   (ho:Own g2.S w2 K m y (g2.cs j) (g2.F j)) (hp:PlOk w2 (gc.pl j) (g2.cs j)) (hfx:¬(o.fx&& !aV p)=true):pY w2 gc g2 j id .mp (.pt id n p,some o) (.mp K m z) (some {o with m:=m2,x:=x2,log:=some p::o.log})
 |ms {n:Nat} {p:bI} {o:Obj} {K:Kd} {m:Md} {z y:K.T} {m2:Md} {x2:o.K.T} (hg:aS o.K o.m o.x p=some ⟨K,m,z⟩) (hm:iY o.m p m=some m2) (hs:gx o.K o.x p K y=some x2)
   (ho:Own g2.S w2 K m y (gc.cs j) (g2.F j)):pY w2 gc g2 j id .ms (.al id n p,some o) (.ms K m z) (some {o with m:=m2,x:=x2,log:=vo K p::o.log})
 |mv {n:Nat} {p:bI} {o:Obj} {arg:Arg} {r:Option Obj} (hr:BW o p=r):pY w2 gc g2 j id .mv (.al id n p,some o) arg r
theorem zM {P:Program}{S:Nat->Prop}{w w2:World}{g gc g2:Gh}{ob:Nat->Option (Option Obj)}:∀(ams:List AM) (vs:List bF) (args:List Arg) (vals:List Value) (l:List KV) (outs:List (Nat×Option Obj)) (n:Nat),
  eD ams vs l=some outs->fp w2 gc g2 n args l->args.length=ams.length->vals.length=ams.length->
  (∀(j:Nat) (am:AM) (v:bF) (arg:Arg) (x:Value),ams[j]? =some am->vs[j]? =some v->args[j]? =some arg->vals[j]? =some x->Link P S w g ob (gc.F (n+j)) (gc.pl (n+j)) (gc.cs (n+j)) am v arg x)->
  outs.map (·.1)=ev ams vs/\∀id r,(id,r)∈outs->∃(j:Nat) (am:AM) (v:bF) (arg:Arg),ams[j]? =some am/\vs[j]? =some v/\args[j]? =some arg/\pY w2 gc g2 (n+j) id am v arg r
 |[],vs,args,vals,l,outs,n,ho,hr,ha,hv,hl=>by
  cases vs with
  |nil=>
   cases l with
   |nil=>
    simp only[eD,Jq]at ho;subst ho;exact⟨rfl,λid r h=>by cases h⟩
   |cons q l=>simp[eD]at ho
  |cons v vs=>simp[eD]at ho
 |am::ams,[],args,vals,l,outs,n,ho,hr,ha,hv,hl=>by cases am<;>simp[eD]at ho
 |am::ams,v::vs,[],vals,l,outs,n,ho,hr,ha,hv,hl=>by simp at ha
 |am::ams,v::vs,arg::args,[],l,outs,n,ho,hr,ha,hv,hl=>by simp at hv
 |am::ams,v::vs,arg::args,x::vals,l,outs,n,ho,hr,ha,hv,hl=>by
  have h0:=hl 0 am v arg x rfl rfl rfl rfl;rw[KH]at h0;have rec_:∀(l':List KV) (outs':List (Nat×Option Obj)),eD ams vs l'=some outs'->fp w2 gc g2 (n+1) args l'->outs'.map (·.1)=ev ams vs/\∀id r,(id,r)∈outs'->
    ∃(j:Nat) (am':AM) (v':bF) (arg':Arg),(am::ams)[j]? =some am'/\(v::vs)[j]? =some v'/\(arg::args)[j]? =some arg'/\pY w2 gc g2 (n+j) id am' v' arg' r:=by
   intro l' outs' h1 h2;obtain⟨i1,i2⟩:=zM ams vs args vals l' outs' (n+1) h1 h2 (by simpa using ha) (by simpa using hv) (λj am' v' arg' x' a1 a2 a3 a4=>by
    have:=hl (j+1) am' v' arg' x' (by simpa using a1) (by simpa using a2) (by simpa using a3) (by simpa using a4)
    rwa [show n+(j+1)=n+1+j by omega]at this)
   refine⟨i1,λid r h=>?_⟩;obtain⟨j,am',v',arg',a1,a2,a3,a4⟩:=i2 id r h;exact⟨j+1,am',v',arg',by simpa using a1,by simpa using a2,by simpa using a3,by rwa [show n+(j+1)=n+1+j by omega]⟩
  unfold Link at h0
  split at h0
  ·-- mp
   rename_i id n' p o;obtain⟨_,_,_,K,m,z,b,off,rfl,hpl,_,hgp,_,_⟩:=h0;cases l with
   |nil=>exact hr.elim
   |cons q l=>
    obtain⟨⟨y,rfl,r1,r2⟩,r3⟩:=hr;simp only[eD,hgp]at ho
    split at ho
    ·cases ho
    ·rename_i hfx
     split at ho
     ·rename_i m2 x2 r hm hs hrest
      cases ho;obtain⟨i1,i2⟩:=rec_ l r hrest r3;refine⟨by simp[i1,ev],λid' r' h=>?_⟩;rcases JJ.1 h with h|h
      ·cases h
       exact⟨0,_,_,_,rfl,rfl,rfl,.mp hgp hm hs r1 r2 hfx⟩
      ·exact i2 id' r' h
     ·cases ho
  ·-- ms
   rename_i id n' p o;obtain⟨_,_,_,hpl,e,m,z,q,_,rfl,_,hgp,_,_⟩:=h0;cases l with
   |nil=>exact hr.elim
   |cons q l=>
    obtain⟨⟨y,rfl,r1⟩,r3⟩:=hr;simp only[eD,hgp]at ho
    split at ho
    ·rename_i m2 x2 r hm hs hrest
     cases ho;obtain⟨i1,i2⟩:=rec_ l r hrest r3;refine⟨by simp[i1,ev],λid' r' h=>?_⟩;rcases JJ.1 h with h|h
     ·cases h
      exact⟨0,_,_,_,rfl,rfl,rfl,.ms hgp hm hs r1⟩
     ·exact i2 id' r' h
    ·cases ho
  ·-- mv
   rename_i id n' p' o;obtain⟨_,_,_,_,K,m,y,_,rfl,_⟩:=h0;have hr':fp w2 gc g2 (n+1) args l:=by cases l<;>exact hr
   simp only[eD]at ho
   split at ho
   ·rename_i r hrest
    cases ho;obtain⟨i1,i2⟩:=rec_ l r hrest hr';refine⟨by simp[i1,ev],λid' r' h=>?_⟩;rcases JJ.1 h with h|h
    ·cases h
     exact⟨0,_,_,_,rfl,rfl,rfl,.mv rfl⟩
    ·exact i2 id' r' h
   ·cases ho
  ·obtain⟨_,_,K,z,rfl,_⟩:=h0
   have hr':fp w2 gc g2 (n+1) args l:=by cases l<;>exact hr
   have ho':eD ams vs l=some outs:=by simpa only[eD]using ho
   have ht:ev (.ro::ams) (v::vs)=ev ams vs:=by obtain⟨s,q⟩:=v;cases s<;>rfl
   rw[ht];exact rec_ l outs ho' hr'
  ·obtain⟨_,_,K,z,rfl,_⟩:=h0
   have hr':fp w2 gc g2 (n+1) args l:=by cases l<;>exact hr
   have ho':eD ams vs l=some outs:=by simpa only[eD]using ho
   have ht:ev (.rp::ams) (v::vs)=ev ams vs:=by obtain⟨s,q⟩:=v;cases s<;>rfl
   rw[ht];exact rec_ l outs ho' hr'
  ·rename_i Ks Kr
   obtain⟨_,_,f,rfl,_⟩:=h0;have hr':fp w2 gc g2 (n+1) args l:=by cases l<;>exact hr
   have ho':eD ams vs l=some outs:=by simpa only[eD]using ho
   have ht:ev (.fn Ks Kr::ams) (v::vs)=ev ams vs:=by obtain⟨s,q⟩:=v;cases s<;>rfl
   rw[ht];exact rec_ l outs ho' hr'
  ·rename_i f0 Fs Ks
   obtain⟨_,_,f,fs,caps,rfl,_⟩:=h0;have hr':fp w2 gc g2 (n+1) args l:=by cases l<;>exact hr
   have ho':eD ams vs l=some outs:=by simpa only[eD]using ho
   have ht:ev (.fc f0 Fs Ks::ams) (v::vs)=ev ams vs:=by obtain⟨s,q⟩:=v;cases s<;>rfl
   rw[ht];exact rec_ l outs ho' hr'
  ·exact h0.elim
theorem jq:∀{ams:List AM} {vs:List bF} {j:Nat} {am:AM} {v:bF} {id:Nat},ams[j]? =some am->vs[j]? =some v->dw am v=some id->id∈ev ams vs
 |[],_,_,_,_,_,h,_,_=>by simp at h
 |_::_,[],_,_,_,_,_,h,_=>by simp at h
 |am0::ams,v0::vs,0,am,v,id,h1,h2,h3=>by
  simp only[Kq,Jq]at h1 h2;subst h1;subst h2;rw[lT,h3];exact JA
 |am0::ams,v0::vs,j+1,am,v,id,h1,h2,h3=>by
  have:=jq (ams:=ams) (vs:=vs) (j:=j) (by simpa using h1) (by simpa using h2) h3;rw[lT]
  split
  ·exact JE _ this
  ·exact this
theorem rg:∀{ams:List AM} {vs:List bF} {i j:Nat} {am am':AM} {v v':bF} {id:Nat},(ev ams vs).Nodup->ams[i]? =some am->vs[i]? =some v->dw am v=some id->ams[j]? =some am'->vs[j]? =some v'->dw am' v'=some id->i=j
 |[],_,_,_,_,_,_,_,_,_,h,_,_,_,_,_=>by simp at h
 |_::_,[],_,_,_,_,_,_,_,_,_,h,_,_,_,_=>by simp at h
 |am0::ams,v0::vs,i,j,am,am',v,v',id,hn,h1,h2,h3,h4,h5,h6=>by
  rw[lT]at hn;have hn':(ev ams vs).Nodup:=by
   split at hn
   ·exact(LA.1 hn).2
   ·exact hn
  cases i with
  |zero=>
   simp only[Kq,Jq]at h1 h2;subst h1;subst h2;rw[h3]at hn;cases j with
   |zero=>rfl
   |succ j=>exact bJ (jq (by simpa using h4) (by simpa using h5) h6) (LA.1 hn).1
  |succ i=>
   cases j with
   |zero=>
    simp only[Kq,Jq]at h4 h5;subst h4;subst h5;rw[h6]at hn;exact bJ (jq (by simpa using h1) (by simpa using h2) h3) (LA.1 hn).1
   |succ j=>
    have:=rg (i:=i) (j:=j) hn' (by simpa using h1) (by simpa using h2) h3 (by simpa using h4) (by simpa using h5) h6;omega
end Go.Abs
