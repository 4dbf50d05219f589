/- The abstract interpreter of the elaborated code, and that what it answers is what the machine does: part 3. Conditions: none. -/
import Derived.MapKept
import Derived.LoopN
import Derived.Orders
import Derived.Test.YtkelpajcfmghiaaGreatDoorA2
open Array renaming all_eq_true_iff_forall_mem → MY,getD → MV,getD_eq_getD_getElem? → LK,getElem?_eq_some_iff → LO,toList_append → LU
open Bool renaming and_eq_true → Jm,eq_false_iff → JK,false_and → Li,false_eq_true → Jt,not_eq_true' → LM,or_eq_false_iff → K8,or_eq_true → KY
open Classical renaming byContradiction → LL
open Go.Abs.Env renaming get → M7,mk → KE,views → Mo
open Go.Abs.Kd renaming eq_of_beq → Ka
open Go.Abs.Oper renaming opds → Kw
open Go.Abs.Own renaming full → Oi
open Go.Abs.Slot renaming pt → O0
open Go.Call renaming operands → MU
open Go.Instr renaming loadAt → N8
open Go.Op renaming operands → Nq
open Go.Oper renaming upon_value → Nx,wp → OZ
open Go.Operand renaming tmp → NI
open Go.Region renaming binds → LF,ready → ND,wanted → KW
open Go.Result renaming andThen_ok → Js
open Go.Sem renaming run_bind → JC,run_pure → JP
open Go.World renaming size_alloc → Lk
open List renaming all_cons → Kh,all_eq_true → JS,any_eq_false → L9,append_assoc → JO,append_nil → Kv,foldl_append → O1,getElem?_append_left → Lf,getElem?_append_right → Lt,getElem?_cons_zero → Kq,getElem?_eq_none → N4,getElem?_eq_some_iff → JU,getElem?_map → Ly,getElem?_of_mem → Od,getElem?_take → Lm,getElem?_toArray → MR,getElem?_zip_eq_some → LR,length_erase_of_mem → NC,map_append → Kk,map_congr_left → Ml,map_cons → Jy,map_map → Lc,map_nil → Kz,mem_append → KC,mem_append_left → Ko,mem_append_right → Km,mem_cons → JJ,mem_cons_of_mem → JE,mem_cons_self → JA,mem_filter → Lw,mem_iff_getElem → Lp,mem_map → KG,mem_of_find?_eq_some → Mm,mem_of_getElem? → Lz,mem_range → LD,mem_singleton → JQ,mem_singleton_self → Mv,nil_append → Kg,nodup_cons → LA,pairwise_cons → OF,pairwise_iff_getElem → Nw,range → LI,range' → Oc,replicate → JZ,singleton_append → KO,sum_cons → JY
open List.cons renaming inj → MF,injEq → Ky
open Nat renaming add_zero → KH,beq_refl → MH,blt → Ll,eq_of_beq_eq_true → JM,le_of_ble_eq_true → JV,le_refl → JG,le_succ → Nn,le_trans → LW,lt_of_lt_of_le → JX,strongRecOn → NR,zero_add → KT,zero_le → JF
open Option renaming getD_some → LQ,map_eq_some_iff → L0,map_some → KR
open Option.some renaming inj → LY,injEq → Jq
open Prod.mk renaming injEq → JH
set_option linter.unusedVariables false
set_option linter.unusedSimpArgs false
namespace Go.Abs
variable {B:Base}
structure Cf (w w2:World) (g:Gh) (Sn:Nat->Prop) (id:Nat) (o o':Obj) (Fn:Nat->Prop) (csn:List Value):Prop where
 own:o'.hl=none->Own Sn w2 o'.K o'.m o'.x csn Fn/\PlOk w2 (g.pl id) csn
 hole:∀p,o'.hl=some p->sZ p=false/\Holed Sn w2 o' p Fn (g.pl id) csn
 hl0:o.hl=none
 box:o'.box=o.box
 par:o'.par=o.par
 size:o'.K.size=o.K.size
 cs:g.pl id=none->csn=g.cs id
 kx:DZ o'.K=DZ o.K
 fx:o.fx=true->csn=g.cs id
 log:o.log.length<=o'.log.length
 al:∀n p,n<=o.log.length->fu o' n p=true->fu o n p=true/\∀q cs' K' m' x',aS o.K o.m o.x p=some ⟨K',m',x'⟩->ck w p o.K (g.pl id) (g.cs id)=some (q,cs')->
  (o'.hl=none\/aV p=false)->∃m3 x3,aS o'.K o'.m o'.x p=some ⟨K',m3,x3⟩/\ck w2 p o'.K (g.pl id) csn=some (q,cs')
 pt:∀n p,n<=o.log.length->gy o' n p=true->gy o n p=true/\∀q cs' K' m' x',aS o.K o.m o.x p=some ⟨K',m',x'⟩->ck w p o.K (g.pl id) (g.cs id)=some (q,cs')->
  (o'.hl=none\/nG p=true\/(o'.hl=some p/\sZ p=false))->∃m3 x3 c3,aS o'.K o'.m o'.x p=some ⟨K',m3,x3⟩/\ck w2 p o'.K (g.pl id) csn=some (q,c3)
theorem yl {w:World}{p:bI}{K:Kd}{pl:Place}{cs:List Value}{b off:Nat}{c:List Value}(h:ck w p K pl cs=some (some (b,off),c))(hp:pl=none):aV p=true:=by
 cases hi:aV p with
 |true=>rfl
 |false=>subst hp;have:=lB p hi h;cases this
theorem lU:∀(p:bI) {K:Kd} {m:Md} {x:K.T} {K1:Kd} {m1:Md} {x1:K1.T},aV p=false->aS K m x p=some ⟨K1,m1,x1⟩->∀(m2:Md) (x2:K.T),∃m3 x3,aS K m2 x2 p=some ⟨K1,m3,x3⟩
 |[],K,m,x,K1,m1,x1,_,h,m2,x2=>by
  rw[cn]at h;cases h;exact⟨m2,x2,cn _ _ _⟩
 | .inn::p,.st k,m,x,K1,m1,x1,hi,h,m2,x2=>lU p (K:=k) (by simpa[aV]using hi) h m2 x2
 | .fst::p,.pair a b,m,x,K1,m1,x1,hi,h,m2,x2=>lU p (K:=a) (by simpa[aV]using hi) h m2.fst x2.1
 | .snd::p,.pair a b,m,x,K1,m1,x1,hi,h,m2,x2=>lU p (K:=b) (by simpa[aV]using hi) h m2.snd x2.2
 | .idx i::p,_,_,_,_,_,_,hi,_,_,_=>by simp[aV]at hi
 | .inn::_,.int _,_,_,_,_,_,_,h,_,_| .inn::_,.bool,_,_,_,_,_,_,h,_,_| .inn::_,.str,_,_,_,_,_,_,h,_,_| .inn::_,.err,_,_,_,_,_,_,h,_,_| .inn::_,.mp _ _,_,_,_,_,_,_,h,_,_| .inn::_,.fcell _ _ _,_,_,_,_,_,_,h,_,_| .inn::_,.raw _,_,_,_,_,_,_,h,_,_| .inn::_,.sl _,_,_,_,_,_,_,h,_,_| .inn::_,.pair _ _,_,_,_,_,_,_,h,_,_=>by simp[aS]at h
 | .fst::_,.int _,_,_,_,_,_,_,h,_,_| .fst::_,.bool,_,_,_,_,_,_,h,_,_| .fst::_,.str,_,_,_,_,_,_,h,_,_| .fst::_,.err,_,_,_,_,_,_,h,_,_| .fst::_,.mp _ _,_,_,_,_,_,_,h,_,_| .fst::_,.fcell _ _ _,_,_,_,_,_,_,h,_,_| .fst::_,.raw _,_,_,_,_,_,_,h,_,_| .fst::_,.sl _,_,_,_,_,_,_,h,_,_| .fst::_,.st _,_,_,_,_,_,_,h,_,_=>by simp[aS]at h
 | .snd::_,.int _,_,_,_,_,_,_,h,_,_| .snd::_,.bool,_,_,_,_,_,_,h,_,_| .snd::_,.str,_,_,_,_,_,_,h,_,_| .snd::_,.err,_,_,_,_,_,_,h,_,_| .snd::_,.mp _ _,_,_,_,_,_,_,h,_,_| .snd::_,.fcell _ _ _,_,_,_,_,_,_,h,_,_| .snd::_,.raw _,_,_,_,_,_,_,h,_,_| .snd::_,.sl _,_,_,_,_,_,_,h,_,_| .snd::_,.st _,_,_,_,_,_,_,h,_,_=>by simp[aS]at h
theorem GU {P:Program}{nt:Nat}{e:Env}{a:Act}{w w2:World}{g gc g2:Gh}(hg:InvG P B nt e a w g){S Sn:Nat->Prop}{j id:Nat}{am:AM}{v:bF}{arg:Arg}{xv:Value}{o':Obj}
  (hlink:Link P S w g e.obj (gc.F j) (gc.pl j) (gc.cs j) am v arg xv) (hout:pY w2 gc g2 j id am v arg (some o')) (hSn:∀b,g.S b->Sn b)
  (hSc:∀b o v,g.S b->w.pk b o=some v->w2.pk b o=some v)
  (hfr:∀b o,g.has id b->¬gc.F j b->¬sY (gc.pl j) arg.size b o->w2.pk b o=w.pk b o/\w2.frozen? ⟨b,o,none⟩=w.frozen? ⟨b,o,none⟩)
  (hconv:∀(K:Kd) (m:Md) (y:K.T) (cs:List Value) (F:Nat->Prop),((∃z,arg= .mp K m z)\/(∃z,arg= .ms K m z))->Own g2.S w2 K m y cs F->Own Sn w2 K m y cs F)
  (hF2:∀b,g2.F j b->g.has id b->gc.F j b):
  ∃o csn,e.obj id=some (some o)/\Cf w w2 g Sn id o o' (λb=>(g.F id b/\¬gc.F j b)\/g2.F j b) csn:=by
 cases hout with
 |mp hgp hm hs ho hp hfx=>
  rename_i n p o K m z y m2 x2;obtain⟨hob,hhl,hok,K',m',z',b,off,e1,hpl,_,hgp',hnav,f⟩:=hlink;cases e1;obtain⟨a1,a2⟩:=f.at_ b off hpl;have hhas:g.has id b:=by
   rcases a2 with⟨o0,e2,_⟩|h
   ·exact .inl ⟨o0,e2⟩
   ·exact .inr h
  have key:=f.set Sn w2 m m2 y x2 (g2.cs j) (g2.F j) hs hm hSn hSc (λb' o1 hF hn hq=>hfr b' o1 (.inr hF) hn hq)
   (λb' o1 hR hq=>by
    obtain⟨o0,e2,_⟩:=hR;exact hfr b' o1 (.inl ⟨o0,e2⟩) (λh=>(hg.plz id b' o0 e2).2.2.1 id (f.sub b' h)) hq)
   hp (hconv K m y _ _ (.inl ⟨_,rfl⟩) ho) (λb' h2 hF=>hF2 b' h2 (.inr hF)) (λb' o1 e2 h2=>(hg.plz id b' o1 e2).2.2.1 id (f.sub b' (hF2 b' h2 (.inl ⟨o1,e2⟩))))
   (λb' o1 e2 h2=>by
    rw[hpl]at e2;cases e2;exact a1 (hF2 b h2 hhas))
  refine⟨o,bV p o.K (g.cs id) (g2.cs j),hob,λ_=>⟨key.1,key.2.1⟩,(λp' hp'=>by rw[show _=none from hhl]at hp';cases hp'),hhl,rfl,rfl,rfl,λhpn=>?_,rfl,λhf=>?_,by simp,λn' p' hle hok'=>?_,λn' p' hle hok'=>?_⟩
  ·rw[hpl]at hnav
   exact ff p (yl hnav hpn) hnav
  ·refine ff p ?_ hnav
   cases hi:aV p with
   |true=>rfl
   |false=>exact bJ (by rw[hf,hi];rfl) hfx
  ·unfold fu at hok'
   simp only[du hle,Kh,Jm]at hok';have hh:gm p' p=false:=by simpa using hok'.1
   refine⟨hok'.2,λq cs' K1 m1 x1 h1 h2 _=>?_⟩;obtain⟨m3,x3,h3⟩:=jJ p p' hs hm h1 (λhpre=>by simp[gm,hpre]at hh);exact⟨m3,x3,h3,key.2.2.al p' _ _ h1 h2 hh⟩
  ·unfold gy at hok'
   simp only[du hle,Kh,Jm]at hok';have hh:iO p' p=false:=by simpa using hok'.1
   refine⟨hok'.2,λq cs' K1 m1 x1 h1 h2 _=>?_⟩;obtain⟨m3,x3,h3⟩:=jJ p p' hs hm h1 (λhpre=>by simpa[iO,hpre]using hh);obtain⟨c3,h4⟩:=key.2.2.pt p' _ _ _ h1 h2 hh;exact⟨m3,x3,c3,h3,h4⟩
 |ms hgp hm hs ho=>
  rename_i n p o K m z y m2 x2;obtain⟨hob,hhl,hok,hpl,K',m',z',q,hms,e1,_,hgp',hnav,f⟩:=hlink;cases e1;have noR:∀b o,¬sY (gc.pl j) 0 b o:=λb o ⟨o0,e2,_⟩=>by rw[hpl]at e2;cases e2
  have hq:∀b off,q=some (b,off)->g.has id b/\¬gc.F j b:=by
   intro b off e2;obtain⟨a1,a2⟩:=f.at_ b off e2;refine⟨?_,a1⟩;rcases a2 with⟨o0,e3,_⟩|h
   ·exact .inl ⟨o0,e3⟩
   ·exact .inr h
  have key:=f.set Sn w2 m m2 y x2 (gc.cs j) (g2.F j) hs hm hSn hSc (λb' o1 hF hn _=>hfr b' o1 (.inr hF) hn (noR b' o1))
   (λb' o1 hR _=>by
    obtain⟨o0,e2,_⟩:=hR;exact hfr b' o1 (.inl ⟨o0,e2⟩) (λh=>(hg.plz id b' o0 e2).2.2.1 id (f.sub b' h)) (noR b' o1))
   (f.ok.of_same λb' o1 hR=>by
    obtain⟨o0,e2,_⟩:=hR;obtain⟨h1,h2⟩:=hq b' o0 e2;exact hfr b' o1 h1 h2 (noR b' o1))
   (hconv _ _ y _ _ (.inr ⟨_,rfl⟩) ho) (λb' h2 hF=>hF2 b' h2 (.inr hF)) (λb' o1 e2 h2=>(hg.plz id b' o1 e2).2.2.1 id (f.sub b' (hF2 b' h2 (.inl ⟨o1,e2⟩))))
   (λb' o1 e2 h2=>by
    obtain⟨h3,h4⟩:=hq b' o1 e2;exact h4 (hF2 b' h2 h3))
  have hcase:(∃el mm,K= .sl el/\m= .own mm)\/vo K p=none:=by
   cases K with
   |sl el=>
    cases m with
    |own mm=>exact .inl ⟨el,mm,rfl,rfl⟩
    |ro=>cases hms
    |pr _ _=>cases hms
   |_=>exact .inr rfl
  refine⟨o,bV p o.K (g.cs id) (gc.cs j),hob,λ_=>⟨key.1,key.2.1⟩,(λp' hp'=>by rw[show _=none from hhl]at hp';cases hp'),hhl,rfl,rfl,rfl,λhpn=>eB p hnav,rfl,λ_=>eB p hnav,by simp,λn' p' hle hok'=>?_,λn' p' hle hok'=>?_⟩
  ·unfold fu at hok'
   rcases hcase with⟨el,mm,rfl,rfl⟩|hnone
   ·simp only[du hle,Kh,Jm]at hok'
    have hh:gm p' (p++[.idx 0])=false:=by simpa[vo]using hok'.1
    refine⟨hok'.2,λq cs' K1 m1 x1 h1 h2 _=>?_⟩;obtain⟨m3,x3,h3⟩:=nz p p' hs hm h1 (λhpre=>by simp[gm,hpre]at hh);exact⟨m3,x3,h3,key.2.2.ms p' _ _ h1 h2 ⟨el,rfl⟩ rfl hh⟩
   ·simp only[du hle,Kh,Jm,hnone]at hok'
    have hp0:p'=[]:=by
     cases p' with
     |nil=>rfl
     |cons s p'=>exact bJ hok'.1 (by simp)
    subst hp0;refine⟨hok'.2,λq cs' K1 m1 x1 h1 h2 _=>?_⟩;rw[cn]at h1;cases h1;refine⟨m2,x2,cn _ _ _,?_⟩;rw[eB p hnav];simpa only[ck]using h2
  ·unfold gy at hok'
   rcases hcase with⟨el,mm,rfl,rfl⟩|hnone
   ·simp only[du hle,Kh,Jm]at hok'
    have hh:iO p' (p++[.idx 0])=false:=by simpa[vo]using hok'.1
    refine⟨hok'.2,λq cs' K1 m1 x1 h1 h2 _=>?_⟩;obtain⟨m3,x3,h3⟩:=nz p p' hs hm h1 (λhpre=>by simpa[iO,hpre]using hh);obtain⟨c3,h4⟩:=key.2.2.mt p' _ _ _ h1 h2 ⟨el,rfl⟩ rfl hh;exact⟨m3,x3,c3,h3,h4⟩
   ·simp only[du hle,Kh,Jm,hnone]at hok'
    have hi:aV p'=false:=by simpa using hok'.1
    refine⟨hok'.2,λq cs' K1 m1 x1 h1 h2 _=>?_⟩;obtain⟨m3,x3,h3⟩:=lU p' hi h1 m2 x2;refine⟨m3,x3,cs',h3,?_⟩;rw[eB p hnav];exact jg p' hi h2
 |mv hr=>
  rename_i n p o;obtain⟨hob,hhl,_,hpl,K,m,z,q,rfl,_,hgp,hnav,f⟩:=hlink;have hO:=(hg.objs id o hob).own hhl;have noR:∀b o,¬sY (gc.pl j) 0 b o:=λb o ⟨o0,e2,_⟩=>by rw[hpl]at e2;cases e2
  have ho':sZ p=false/\o'={o with hl:=some p}:=by
   unfold BW at hr
   split at hr
   ·cases hr
   ·rename_i hq
    refine⟨JK.2 hq,?_⟩
    split at hr
    ·exact(LY hr).symm
    ·split at hr
     ·cases hr
     ·exact(LY hr).symm
  obtain⟨hq,rfl⟩:=ho';have hh:Holed Sn w2 {o with hl:=some p} p (λb=>g.F id b/\¬gc.F j b) (g.pl id) (g.cs id):=
   f.holeG hO.1.length hgp hnav (λb o1 hF hn=>hfr b o1 (.inr hF) hn (noR b o1)) (λb o1 hR=>by
    obtain⟨o0,e2,_⟩:=hR;exact hfr b o1 (.inl ⟨o0,e2⟩) (λh=>(hg.plz id b o0 e2).2.2.1 id (f.sub b h)) (noR b o1)) hSn hSc
  refine⟨o,g.cs id,hob,(λh=>by cases h),(λp' hp'=>by cases hp';exact⟨hq,hh.weaken λb hb=>.inl hb⟩),hhl,rfl,rfl,rfl,λ_=>rfl,rfl,λ_=>rfl,JG _,λn' p' _ hok'=>⟨hok',λq' c' K1 m1 x1 h1 h2 h3=>?_⟩,λn' p' _ hok'=>⟨hok',λq' c' K1 m1 x1 h1 h2 h3=>?_⟩⟩
  ·rcases h3 with h3|h3
   ·cases h3
   ·exact⟨m1,x1,h1,jg p' h3 h2⟩
  ·rcases h3 with h3|h3|⟨h3,_⟩
   ·cases h3
   ·obtain⟨c3,h4⟩:=lw (w2:=w2) p' h3 h2
    exact⟨m1,x1,c3,h1,h4⟩
   ·cases h3
    obtain⟨q2,c2,_,_,_,_,k2,_⟩:=hh;have:=f.nv w2 (λb o1 hF hn=>(hfr b o1 (.inr hF) hn (noR b o1)).1);rw[hnav]at h2;cases h2;exact⟨m1,x1,_,h1,this⟩
def Gh.called (g:Gh)(Sn:Nat->Prop)(outs:List (Nat×Option Obj))(Fn:Nat->Nat->Prop)(csn:Nat->List Value):Gh where
 S:=Sn
 F:=λi b=>match au outs i with|some (some _)=>Fn i b|some none=>False|none=>g.F i b
 pl:=λi=>match au outs i with|some none=>none|_=>g.pl i
 cs:=λi=>match au outs i with|some (some _)=>csn i|_=>g.cs i
theorem InvG.called {P:Program}{nt:Nat}{e:Env}{a:Act}{w w2:World}{g:Gh}(h:InvG P B nt e a w g){Sn:Nat->Prop}{outs:List (Nat×Option Obj)}{Fn:Nat->Nat->Prop}{csn:Nat->List Value}{W:Nat->Nat->Prop}
  (hx:Ext w w2 W) (hW:∀b o,W b o->∃id o0,e.obj id=some (some o0)/\(∃r,au outs id=some r)/\((∃off,g.pl id=some (b,off)/\off<=o/\o<off+o0.K.size)\/g.F id b))
  (hSn:∀b,g.S b->Sn b) (hSb:∀b,Sn b->g.S b\/(∃id r,au outs id=some r/\g.F id b)\/w.heap.size<=b) (hSsz:∀b,Sn b->b<w2.heap.size)
  (hSt:∀b,Sn b->(∀i,au outs i=none->¬g.F i b)/\(∀i o',au outs i=some (some o')->¬Fn i b)/\∀i off,g.pl i≠some (b,off))
  (hFn:∀i o',au outs i=some (some o')->∀b,Fn i b->((∃id r,au outs id=some r/\g.F id b)\/w.heap.size<=b)/\b<w2.heap.size/\∀k,k≠i->∀o2,au outs k=some (some o2)->¬Fn k b)
  (hobs:∀i r,au outs i=some r->∃o,e.obj i=some (some o)/\∀o',r=some o'->Cf w w2 g Sn i o o' (Fn i) (csn i)):
  InvG P B nt ⟨e.slots,outs++e.objs⟩ a w2 (g.called Sn outs Fn csn):=by
 have hobj:∀i,(KE e.slots (outs++e.objs)).obj i=match au outs i with|some r=>some r|none=>e.obj i:=by
  intro i;show au (outs++e.objs) i=_;rw[eE];cases au outs i<;>rfl
 have base_le:B.w0.heap.size<=w.heap.size:=h.ext.size;have Fold:∀i b,(g.called Sn outs Fn csn).F i b->(∃o',au outs i=some (some o')/\Fn i b)\/(au outs i=none/\g.F i b):=by
  intro i b hF;simp only[Gh.called]at hF
  split at hF
  ·exact .inl ⟨_,by assumption,hF⟩
  ·exact hF.elim
  ·exact .inr ⟨by assumption,hF⟩
 have plold:∀i b off,(g.called Sn outs Fn csn).pl i=some (b,off)->g.pl i=some (b,off)/\au outs i≠some none:=by
  intro i b off hp;simp only[Gh.called]at hp
  split at hp
  ·cases hp
  ·rename_i hne
   exact⟨hp,hne⟩
 have Wlt:∀b o,W b o->b<w.heap.size/\¬g.S b:=by
  intro b o hw;obtain⟨id,o0,_,_,h1⟩:=hW b o hw;refine h.has_lt (i:=id) ?_;rcases h1 with⟨off,e1,_⟩|h1
  ·exact .inl ⟨off,e1⟩
  ·exact .inr h1
 have Whas:∀b o,W b o->∃id r,au outs id=some r/\g.has id b:=by
  intro b o hw;obtain⟨id,o0,_,⟨r,hr⟩,h1⟩:=hW b o hw;refine⟨id,r,hr,?_⟩;rcases h1 with⟨off,e1,_⟩|h1
  ·exact .inl ⟨off,e1⟩
  ·exact .inr h1
 refine h.change (λi=>∃r,au outs i=some r) rfl (h.ext.step hx ?_) hSn (λb o v hb hv=>hx.same (λhw=>(Wlt b o hw).2 hb) hv) hSsz ?_ ?_ ?_ ?_ ?_ ?_ ?_ ?_ ?_ ?_ ?_
 ·intro b o hb hw
  obtain⟨id,o0,ho0,_,h1⟩:=hW b o hw;rcases h1 with⟨off,e1,h2,h3⟩|h1
  ·rcases(h.objs id o0 ho0).plx b off e1 with(h4|h4)|h4
   ·exact .inl h4
   ·omega
   ·exact .inr (h4.2 o h2 h3)
  ·rcases h.Fb id b h1 with h4|h4
   ·exact .inl h4
   ·omega
 ·intro i b hF
  rcases Fold i b hF with⟨o',h1,h2⟩|⟨h1,h2⟩
  ·exact(hFn i o' h1 b h2).2.1
  ·exact JX (h.Fsz i b h2) hx.size
 ·intro b hb
  rcases hSb b hb with h1|⟨id,r,_,h1⟩|h1
  ·exact h.Sb b h1
  ·rcases h.Fb id b h1 with h2|h2
   ·exact .inr (.inl h2)
   ·exact .inr (.inr h2)
  ·exact .inr (.inr (by omega))
 ·intro i b hF
  rcases Fold i b hF with⟨o',h1,h2⟩|⟨h1,h2⟩
  ·rcases(hFn i o' h1 b h2).1 with⟨id,r,_,h3⟩|h3
   ·exact h.Fb id b h3
   ·exact .inr (by omega)
  ·exact h.Fb i b h2
 ·intro i b hF hS
  rcases Fold i b hF with⟨o',h1,h2⟩|⟨h1,h2⟩
  ·exact(hSt b hS).2.1 i o' h1 h2
  ·exact(hSt b hS).1 i h1 h2
 ·intro i k b hne hF hF'
  rcases Fold i b hF with⟨o',h1,h2⟩|⟨h1,h2⟩<;>rcases Fold k b hF' with⟨o2,h3,h4⟩|⟨h3,h4⟩
  ·exact(hFn i o' h1 b h2).2.2 k (λe=>hne e.symm) o2 h3 h4
  ·rcases(hFn i o' h1 b h2).1 with⟨id,r,h5,h6⟩|h5
   ·have:=h.has_one (.inr h6) (.inr h4)
    subst this;rw[h3]at h5;cases h5
   ·have:=h.Fsz k b h4;omega
  ·rcases(hFn k o2 h3 b h4).1 with⟨id,r,h5,h6⟩|h5
   ·have:=h.has_one (.inr h6) (.inr h2)
    subst this;rw[h1]at h5;cases h5
   ·have:=h.Fsz i b h2;omega
  ·exact h.FF i k b hne h2 h4
 ·intro i b off hp
  obtain⟨h1,_⟩:=plold i b off hp;obtain⟨h3,h4,h5,h6⟩:=h.plz i b off h1;refine⟨JX h3 hx.size,λhS=>(hSt b hS).2.2 i off h1,λk hF=>?_,λk off' hp'=>h6 k off' (plold k b off' hp').1⟩;rcases Fold k b hF with⟨o',h7,h8⟩|⟨h7,h8⟩
  ·rcases(hFn k o' h7 b h8).1 with⟨id,r,_,h9⟩|h9
   ·exact h5 id h9
   ·omega
  ·exact h5 k h8
 ·intro i hi
  have hl:au outs i=none:=by
   cases hq:au outs i with
   |none=>rfl
   |some r=>exact bJ ⟨r,hq⟩ hi
  refine⟨by rw[hobj,hl],?_,?_,?_,λb o hF=>hx.cell b o (h.Fsz i b hF) (λhw=>?_),λb off hp o=>hx.cell b o (h.plz i b off hp).1 (λhw=>?_)⟩
  ·funext b;simp[Gh.called,hl]
  ·simp[Gh.called,hl]
  ·simp[Gh.called,hl]
  ·obtain⟨id,r,h1,h2⟩:=Whas b o hw
   have:=h.has_one h2 (.inr hF);subst this;rw[hl]at h1;cases h1
  ·obtain⟨id,r,h1,h2⟩:=Whas b o hw
   have:=h.has_one h2 (.inl ⟨off,hp⟩);subst this;rw[hl]at h1;cases h1
 ·rintro i ⟨r,hr⟩ hno
  cases r with
  |some o'=>exact bJ (by rw[hobj,hr]) (hno o')
  |none=>exact⟨λb hF=>by simp[Gh.called,hr]at hF,by simp[Gh.called,hr]⟩
 ·rintro i o1 ⟨r,hr⟩ ho1
  rw[hobj,hr]at ho1;simp only[Jq]at ho1;subst ho1;obtain⟨o,ho,hk⟩:=hobs i _ hr;have k:=hk o1 rfl;have O:=h.objs i o ho;have gF:(g.called Sn outs Fn csn).F i=Fn i:=by funext b;simp[Gh.called,hr]
  have gp:(g.called Sn outs Fn csn).pl i=g.pl i:=by simp[Gh.called,hr]
  have gc:(g.called Sn outs Fn csn).cs i=csn i:=by simp[Gh.called,hr]
  refine⟨λhn=>by rw[gF,gp,gc];exact k.own hn,(λp hp _=>by rw[gF,gp,gc];exact(k.hole p hp).2),(by rw[gp,k.box];exact O.box),(λhp=>?_),(λb off hp=>?_),λq off hq=>?_⟩
  rotate_left 2
  ·obtain⟨_,h1,h2⟩:=mz hq
   cases hh:o1.hl with
   |none=>exact bJ hh h1
   |some p=>have:=h2 p hh;rw[(k.hole p hh).1]at this;cases this
  ·rw[gp,gc]
   rw[k.par]at hp;have hpk:=O.par hp;unfold ny at hpk⊢;rw[k.box,k.kx]
   by_cases hf:(o.box&&DZ o.K)=true
   ·rw[ab hf]at hpk⊢
    rw[k.fx (by unfold Obj.fx;rw[hp,Bool.true_and,hf])];exact hpk
   ·rw[ao hf]at hpk⊢
    obtain⟨h1,h2⟩:=hpk;refine⟨h1,λhb=>?_⟩;have hpn:g.pl i=none:=by
     have:=O.box;rw[hb]at this;cases hq:g.pl i with
     |none=>rfl
     |some q=>rw[hq]at this;cases this
    rw[k.cs hpn];exact h2 hb
  ·rw[gp]at hp
   rw[k.par,k.size];exact O.plx b off hp
 ·rintro i ⟨r,hr⟩ n p v hs
  cases r with
  |none=>
   have e1:(KE e.slots (outs++e.objs)).obj i=some none:=by rw[hobj,hr]
   exact⟨⟨by rw[e1];simp,(λo ho=>by rw[e1]at ho;cases ho)⟩,(λo ho=>by rw[e1]at ho;cases ho)⟩
  |some o1=>
   have e1:(KE e.slots (outs++e.objs)).obj i=some (some o1):=by rw[hobj,hr]
   obtain⟨o,ho,hk⟩:=hobs i _ hr;have k:=hk o1 rfl;have hle:=hs.1.2 o ho;refine⟨⟨by rw[e1];simp,λo2 ho2=>by rw[e1]at ho2;cases ho2;exact LW hle k.log⟩,λo2 ho2 hok2 hcond=>?_⟩;rw[e1]at ho2;cases ho2;obtain⟨h1,h2⟩:=k.al n p hle hok2;obtain⟨q,c1,K1,m1,x1,a1,a2,a3⟩:=hs.2 o ho h1 (.inl k.hl0);obtain⟨m3,x3,b1,b2⟩:=h2 q c1 K1 m1 x1 a1 a2 hcond;exact⟨q,c1,K1,m3,x3,b1,by simpa[Gh.called,hr]using b2,a3⟩
 ·rintro i ⟨r,hr⟩ n p v hs
  cases r with
  |none=>
   have e1:(KE e.slots (outs++e.objs)).obj i=some none:=by rw[hobj,hr]
   exact⟨⟨by rw[e1];simp,(λo ho=>by rw[e1]at ho;cases ho)⟩,(λo ho=>by rw[e1]at ho;cases ho)⟩
  |some o1=>
   have e1:(KE e.slots (outs++e.objs)).obj i=some (some o1):=by rw[hobj,hr]
   obtain⟨o,ho,hk⟩:=hobs i _ hr;have k:=hk o1 rfl;have hle:=hs.1.2 o ho;refine⟨⟨by rw[e1];simp,λo2 ho2=>by rw[e1]at ho2;cases ho2;exact LW hle k.log⟩,λo2 ho2 hok2 hcond=>?_⟩;rw[e1]at ho2;cases ho2;obtain⟨h1,h2⟩:=k.pt n p hle hok2;obtain⟨b,off,c1,K1,m1,x1,a1,a2,a3⟩:=hs.2 o ho h1 (.inl k.hl0);obtain⟨m3,x3,c3,b1,b2⟩:=h2 _ c1 K1 m1 x1 a1 a2 hcond;exact⟨b,off,c3,K1,m3,x3,b1,by simpa[Gh.called,hr]using b2,a3⟩
variable {B:Base}
def Gh.adopt (g:Gh)(d:Nat)(Fd:Nat->Prop)(pl:Place)(cs:List Value):Gh where
 S:=g.S
 F:=λi b=>if i=d then Fd b else g.F i b
 pl:=λi=>if i=d then pl else g.pl i
 cs:=λi=>if i=d then cs else g.cs i
def Gh.learn (g:Gh)(X:Nat->Prop):Gh:={g with S:=λb=>g.S b\/X b}
def ym (B:Base)(w:World)(g:Gh)(b:Nat):Prop:=b<w.heap.size/\¬g.S b/\(∀i,¬g.has i b)/\(B.Fx b\/B.w0.heap.size<=b)
theorem InvG.adopt {P:Program}{nt:Nat}{e:Env}{a:Act}{w:World}{g:Gh}(h:InvG P B nt e a w g){d:Nat}(hd:e.obj d=none)(Fd:Nat->Prop)(pl:Place)(cs:List Value)(ob:Obj)(hfree:∀b,Fd b->ym B w g b)(hfp:∀b off,pl=some (b,off)->ym B w g b/\¬Fd b)(hplok:PlOk w pl cs)
  (hown:Own g.S w ob.K ob.m ob.x cs Fd) (hbox:ob.box=pl.isSome) (hhl:ob.hl=none) (hpar:ob.par=false):InvG P B nt ⟨e.slots,(d,some ob)::e.objs⟩ a w (g.adopt d Fd pl cs):=by
 have hobj:∀i,(KE e.slots ((d,some ob)::e.objs)).obj i=if i=d then some (some ob)else e.obj i:=by
  intro i;show au ((d,some ob)::e.objs) i=_
  by_cases hi:i=d
  ·subst hi;rw[aQ,ab rfl]
  ·rw[aX (λe=>hi e.symm),ao hi];rfl
 have Fold:∀i b,(g.adopt d Fd pl cs).F i b->(i=d/\Fd b)\/(i≠d/\g.F i b):=by
  intro i b hF;simp only[Gh.adopt]at hF
  split at hF
  ·exact .inl ⟨by assumption,hF⟩
  ·exact .inr ⟨by assumption,hF⟩
 have plold:∀i b off,(g.adopt d Fd pl cs).pl i=some (b,off)->(i=d/\pl=some (b,off))\/(i≠d/\g.pl i=some (b,off)):=by
  intro i b off hp;simp only[Gh.adopt]at hp
  split at hp
  ·exact .inl ⟨by assumption,hp⟩
  ·exact .inr ⟨by assumption,hp⟩
 refine h.change (λi=>i=d) rfl h.ext (λ_ h=>h) (λ_ _ _ _ h=>h) h.Ssz ?_ h.Sb ?_ ?_ ?_ ?_ ?_ ?_ ?_ ?_ ?_
 ·intro i b hF
  rcases Fold i b hF with⟨_,h1⟩|⟨_,h1⟩
  ·exact(hfree b h1).1
  ·exact h.Fsz i b h1
 ·intro i b hF
  rcases Fold i b hF with⟨_,h1⟩|⟨_,h1⟩
  ·exact(hfree b h1).2.2.2
  ·exact h.Fb i b h1
 ·intro i b hF
  rcases Fold i b hF with⟨_,h1⟩|⟨_,h1⟩
  ·exact(hfree b h1).2.1
  ·exact h.FS i b h1
 ·intro i k b hne hF hF'
  rcases Fold i b hF with⟨h1,h2⟩|⟨h1,h2⟩<;>rcases Fold k b hF' with⟨h3,h4⟩|⟨h3,h4⟩
  ·exact hne (h1.trans h3.symm)
  ·exact(hfree b h2).2.2.1 k (.inr h4)
  ·exact(hfree b h4).2.2.1 i (.inr h2)
  ·exact h.FF i k b hne h2 h4
 ·intro i b off hp
  rcases plold i b off hp with⟨e0,hp⟩|⟨e0,hp⟩
  ·obtain⟨⟨f1,f2,f3,f4⟩,f5⟩:=hfp b off hp
   refine⟨f1,f2,λk hF=>?_,λk off' hp'=>?_⟩
   ·rcases Fold k b hF with⟨_,h1⟩|⟨_,h1⟩
    ·exact f5 h1
    ·exact f3 k (.inr h1)
   ·rcases plold k b off' hp' with⟨e1,_⟩|⟨_,h1⟩
    ·exact e0.trans e1.symm
    ·exact bJ (.inl ⟨off',h1⟩) (f3 k)
  ·obtain⟨h3,h4,h5,h6⟩:=h.plz i b off hp
   refine⟨h3,h4,λk hF=>?_,λk off' hp'=>?_⟩
   ·rcases Fold k b hF with⟨_,h1⟩|⟨_,h1⟩
    ·exact(hfree b h1).2.2.1 i (.inl ⟨off,hp⟩)
    ·exact h5 k h1
   ·rcases plold k b off' hp' with⟨_,h1⟩|⟨_,h1⟩
    ·exact bJ (.inl ⟨off,hp⟩) ((hfp b off' h1).1.2.2.1 i)
    ·exact h6 k off' h1
 ·intro i hi
  refine⟨by rw[hobj,ao hi],?_,?_,?_,λ_ _ _=>⟨rfl,rfl⟩,λ_ _ _ _=>⟨rfl,rfl⟩⟩
  ·funext b;simp[Gh.adopt,hi]
  ·simp[Gh.adopt,hi]
  ·simp[Gh.adopt,hi]
 ·intro i hi hno
  exact bJ (by rw[hobj,ab hi]) (hno ob)
 ·intro i o' hi ho'
  rw[hobj,ab hi]at ho';cases ho';subst hi;refine⟨λ_=>?_,(λp hp=>by rw[hhl]at hp;cases hp),(by simp[Gh.adopt,hbox]),(λhp=>by rw[hpar]at hp;cases hp),(λb off hp=>?_),λq off hq=>lQ hhl hq⟩
  ·simp only[Gh.adopt,ab]
   exact⟨hown,hplok⟩
  ·simp only[Gh.adopt,ab]at hp
   exact .inl (hfp b off hp).1.2.2.2
 ·intro i hi n p v hs
  subst hi;exact bJ hd hs.1.1
 ·intro i hi n p v hs
  subst hi;exact bJ hd hs.1.1
theorem InvG.learn {P:Program}{nt:Nat}{e:Env}{a:Act}{w:World}{g:Gh}(h:InvG P B nt e a w g)(X:Nat->Prop)(hX:∀b,X b->b<w.heap.size/\(∀i,¬g.has i b)/\(B.Fx b\/B.w0.heap.size<=b)):InvG P B nt e a w (g.learn X):=by
 refine h.change (e':=e) (λ_=>False) rfl h.ext (λ_ h=>.inl h) (λ_ _ _ _ h=>h) ?_ h.Fsz ?_ h.Fb ?_ h.FF ?_ (λi _=>⟨rfl,rfl,rfl,rfl,λ_ _ _=>⟨rfl,rfl⟩,λ_ _ _ _=>⟨rfl,rfl⟩⟩) (λ_ h=>h.elim) (λ_ _ h=>h.elim) (λ_ h=>h.elim) (λ_ h=>h.elim)
 ·rintro b (hb|hb)
  ·exact h.Ssz b hb
  ·exact(hX b hb).1
 ·rintro b (hb|hb)
  ·exact h.Sb b hb
  ·exact .inr (hX b hb).2.2
 ·rintro i b hF (hb|hb)
  ·exact h.FS i b hF hb
  ·exact(hX b hb).2.1 i (.inr hF)
 ·intro i b off hp
  obtain⟨h3,h4,h5,h6⟩:=h.plz i b off hp;refine⟨h3,?_,h5,h6⟩;rintro(hb|hb)
  ·exact h4 hb
  ·exact(hX b hb).2.1 i (.inl ⟨off,hp⟩)
theorem SlotRep0.carry {P:Program}{g g':Gh}{w:World}{ob ob':Nat->Option (Option Obj)}(hS:∀b,g.S b->g'.S b)(hob:∀i,ob i≠none->ob' i=ob i/\g'.pl i=g.pl i/\g'.cs i=g.cs i)
  {s:Slot} {v:Value} (h:SlotRep0 P g w ob s v):SlotRep0 P g' w ob' s v:=by
 have ha:∀id n p v,pT g w ob id n p v->pT g' w ob' id n p v:=by
  rintro id n p v ⟨⟨h1,h2⟩,h3⟩;obtain⟨e1,e2,e3⟩:=hob id h1;refine⟨⟨by rw[e1];exact h1,by rw[e1];exact h2⟩,?_⟩;rw[e1,e2,e3];exact h3
 have hp:∀id n p v,nx g w ob id n p v->nx g' w ob' id n p v:=by
  rintro id n p v ⟨⟨h1,h2⟩,h3⟩;obtain⟨e1,e2,e3⟩:=hob id h1;refine⟨⟨by rw[e1];exact h1,by rw[e1];exact h2⟩,?_⟩;rw[e1,e2,e3];exact h3
 cases s with
 |dead=>trivial
 |un=>exact h
 |nils=>exact h
 |v K x=>obtain⟨cs,h1,h2⟩:=h;exact⟨cs,h1.mono hS (λ_ _ _ _ h=>h),h2⟩
 |rp K x=>exact PtrRO.mono hS (λ_ _ _ _ h=>h) h
 |al id n p=>exact ha id n p v h
 |sub e id n l r=>exact SubRep.imp (λv=>ha id n [] v) h
 |pt id n p=>exact hp id n p v h
 |fv f fs caps=>exact FvRep.imp hS (λ_ _ _ _ h=>h) (λid n v=>hp id n [] v) h
 |fvr=>exact h
 |clo Ks Kr f=>exact CloRep.mono hS (λ_ _ _ _ h=>h) h
 |tup l=>exact h
theorem TupRep.carry {P:Program}{g g':Gh}{w:World}{ob ob':Nat->Option (Option Obj)}(hS:∀b,g.S b->g'.S b)(hob:∀i,ob i≠none->ob' i=ob i/\g'.pl i=g.pl i/\g'.cs i=g.cs i):
  ∀{l:List Slot} {vs:List Value},TupRep P g w ob l vs->TupRep P g' w ob' l vs
 |[],_,h=>h
 |s::l,_,⟨v,r,e,h1,h2⟩=>⟨v,r,e,h1.carry hS hob,h2.carry hS hob⟩
theorem RetRep.mono {S S':Nat->Prop}{w:World}{F:Nat->Prop}{cs:List Value}{r:RV}{v:Value}(hS:∀b,S b->S' b)(h:RetRep S w F cs r v):RetRep S' w F cs r v:=by
 cases r with
 |ro K x=>exact⟨h.1,h.2.1.mono hS (λ_ _ _ _ h=>h),h.2.2⟩
 |own K m x=>exact⟨h.1.mono hS (λ_ _ _ _ h=>h) (λ_ h=>h) (λ_ _ _=>⟨rfl,rfl⟩),h.2⟩
 |bx K m x=>
  obtain⟨b,off,h1,h2,h3,h4⟩:=h;exact⟨b,off,h1,h2,h3.mono hS (λ_ _ _ _ h=>h) (λ_ h=>h) (λ_ _ _=>⟨rfl,rfl⟩),h4⟩
theorem zN {P:Program}{nt:Nat}{e:Env}{a:Act}{w:World}{g:Gh}(h:InvG P B nt e a w g)(mds:List (Nat×Md)){d:Nat}(hd:e.obj d=none){r:RV}{v:Value}{Fr:Nat->Prop}{cs:List Value}
  (hr:RetRep g.S w Fr cs r v) (hfree:∀b,Fr b->ym B w g b):
  ∃g',InvG P B nt ⟨e.slots,(im mds d r).2++e.objs⟩ a w g'/\SlotRep0 P g' w (KE e.slots ((im mds d r).2++e.objs)).obj (im mds d r).1 v/\(im mds d r).1.isTup=false/\
   (∀b,g.S b->g'.S b)/\(∀b,g'.S b->g.S b\/Fr b)/\(∀i b,g'.has i b->g.has i b\/Fr b)/\
   (∀i,e.obj i≠none->(KE e.slots ((im mds d r).2++e.objs)).obj i=e.obj i/\g'.pl i=g.pl i/\g'.cs i=g.cs i)/\(∀i,i≠d->(KE e.slots ((im mds d r).2++e.objs)).obj i=e.obj i):=by
 have frozen:∀K x cs,RO (λb=>g.S b\/Fr b) w K x cs->VRep K cs v->∃g',InvG P B nt ⟨e.slots,e.objs⟩ a w g'/\SlotRep0 P g' w e.obj (.v K x) v/\(∀b,g.S b->g'.S b)/\(∀b,g'.S b->g.S b\/Fr b)/\(∀i b,g'.has i b->g.has i b\/Fr b)/\
   (∀i,e.obj i≠none->e.obj i=e.obj i/\g'.pl i=g.pl i/\g'.cs i=g.cs i):=by
  intro K x cs h1 h2;exact⟨g.learn Fr,h.learn Fr (λb hb=>⟨(hfree b hb).1,(hfree b hb).2.2.1,(hfree b hb).2.2.2⟩),⟨cs,h1,h2⟩,λ_ h=>.inl h,λ_ h=>h,λ_ _ h=>.inl h,λ_ _=>⟨rfl,rfl,rfl⟩⟩
 cases r with
 |ro K x=>
  obtain⟨h1,h2,h3⟩:=hr;obtain⟨g',k1,k2,k3,k4,k5,k6⟩:=frozen K x cs (h2.mono (λ_ h=>.inl h) (λ_ _ _ _ h=>h)) h3;exact⟨g',k1,k2,rfl,k3,k4,k5,k6,λ_ _=>rfl⟩
 |own K m x=>
  obtain⟨h1,h2⟩:=hr;cases hl:au mds d with
  |none=>
   obtain⟨g',k1,k2,k3,k4,k5,k6⟩:=frozen K x cs (Own.toRO (λ_ h=>.inl h) (λ_ h=>.inr h) h1) h2;simp only[im,hl];exact⟨g',k1,k2,rfl,k3,k4,k5,k6,λ_ _=>rfl⟩
  |some md=>
   simp only[im,hl];have hobj:∀i,(KE e.slots ([(d,some (⟨K,m,x,false,false,[],none⟩:Obj))]++e.objs)).obj i=if i=d then some (some ⟨K,m,x,false,false,[],none⟩)else e.obj i:=by
    intro i;show au ((d,some (⟨K,m,x,false,false,[],none⟩:Obj))::e.objs) i=_
    by_cases hi:i=d
    ·subst hi;rw[aQ,ab rfl]
    ·rw[aX (λe=>hi e.symm),ao hi];rfl
   refine⟨g.adopt d Fr none cs,h.adopt hd Fr none cs ⟨K,m,x,false,false,[],none⟩ hfree (λ_ _ h=>by cases h) (λ_ _ h=>by cases h) h1 rfl rfl rfl,⟨⟨by rw[hobj,ab rfl];simp,λ_ _=>JF _⟩,λo2 ho2 _ _=>?_⟩,rfl,λ_ h=>h,λ_ h=>.inl h,λi b hb=>?_,λi hi=>?_,λi hi=>by rw[hobj,ao hi]⟩
   ·rw[hobj,ab rfl]at ho2
    cases ho2;exact⟨none,cs,K,m,x,cn _ _ _,by simp only[ck,Gh.adopt,ab],h2⟩
   ·rcases hb with⟨off,hb⟩|hb
    ·simp only[Gh.adopt]at hb
     split at hb
     ·cases hb
     ·exact .inl (.inl ⟨off,hb⟩)
    ·simp only[Gh.adopt]at hb
     split at hb
     ·exact .inr hb
     ·exact .inl (.inr hb)
   ·have hne:i≠d:=λe1=>by subst e1;exact hi hd
    exact⟨by rw[hobj,ao hne],by simp[Gh.adopt,hne],by simp[Gh.adopt,hne]⟩
 |bx K m x=>
  obtain⟨b,off,hb,rfl,h1,h2⟩:=hr;simp only[im];have hobj:∀i,(KE e.slots ([(d,some (⟨K,m,x,true,false,[],none⟩:Obj))]++e.objs)).obj i=if i=d then some (some ⟨K,m,x,true,false,[],none⟩)else e.obj i:=by
   intro i;show au ((d,some (⟨K,m,x,true,false,[],none⟩:Obj))::e.objs) i=_
   by_cases hi:i=d
   ·subst hi;rw[aQ,ab rfl]
   ·rw[aX (λe=>hi e.symm),ao hi];rfl
  refine⟨g.adopt d (λb'=>Fr b'/\b'≠b) (some (b,off)) cs,h.adopt hd (λb'=>Fr b'/\b'≠b) (some (b,off)) cs ⟨K,m,x,true,false,[],none⟩ (λb' hb'=>hfree b' hb'.1) (λb' off' e1=>by cases e1;exact⟨hfree b hb,λhh=>hh.2 rfl⟩) h2 h1 rfl rfl rfl,⟨⟨by rw[hobj,ab rfl];simp,λ_ _=>JF _⟩,λo2 ho2 _ _=>?_⟩,rfl,λ_ h=>h,λ_ h=>.inl h,λi b' hb'=>?_,λi hi=>?_,λi hi=>by rw[hobj,ao hi]⟩
  ·rw[hobj,ab rfl]at ho2
   cases ho2;exact⟨b,off,cs,K,m,x,cn _ _ _,by simp only[ck,Gh.adopt,ab],rfl⟩
  ·rcases hb' with⟨off',hb'⟩|hb'
   ·simp only[Gh.adopt]at hb'
    split at hb'
    ·cases hb'
     exact .inr hb
    ·exact .inl (.inl ⟨off',hb'⟩)
   ·simp only[Gh.adopt]at hb'
    split at hb'
    ·exact .inr hb'.1
    ·exact .inl (.inr hb')
  ·have hne:i≠d:=λe1=>by subst e1;exact hi hd
   exact⟨by rw[hobj,ao hne],by simp[Gh.adopt,hne],by simp[Gh.adopt,hne]⟩
theorem Ej {d i j:Nat}(h:sub d i=sub d j):i=j:=by unfold sub at h;omega
theorem vX {P:Program}{nt:Nat}{a:Act}{w:World}(mds:List (Nat×Md)){d:Nat}:∀(l:List RV) (i:Nat) {e:Env} {g:Gh},InvG P B nt e a w g->∀(vals:List Value) (Fr:Nat->Nat->Prop) (csr:Nat->List Value),vals.length=l.length->
  (∀k r u,l[k]? =some r->vals[k]? =some u->RetRep g.S w (Fr k) (csr k) r u)->(∀k,k<l.length->e.obj (sub d (i+k))=none)->(∀k b,Fr k b->ym B w g b)->(∀k k' b,k≠k'->Fr k b->¬Fr k' b)->
  ∃g',InvG P B nt ⟨e.slots,(fG mds d i l).2++e.objs⟩ a w g'/\TupRep P g' w (KE e.slots ((fG mds d i l).2++e.objs)).obj (fG mds d i l).1 vals/\
   (∀b,g.S b->g'.S b)/\(∀b,g'.S b->g.S b\/∃k,Fr k b)/\(∀j b,g'.has j b->g.has j b\/∃k,Fr k b)/\
   (∀j,(∀k,k<l.length->j≠sub d (i+k))->(KE e.slots ((fG mds d i l).2++e.objs)).obj j=e.obj j)
 |[],i,e,g,h,vals,Fr,csr,hl,_,_,_,_=>by
  have:vals=[]:=List.length_eq_zero_iff.1 hl;subst this;exact⟨g,h,rfl,λ_ h=>h,λ_ h=>.inl h,λ_ _ h=>.inl h,λ_ _=>rfl⟩
 |r::l,i,e,g,h,vals,Fr,csr,hl,hr,hf,hfree,hdis=>by
  cases vals with
  |nil=>simp at hl
  |cons v vals=>
   obtain⟨g1,k1,k2,k3,k4,k5,k6⟩:=vX mds l (i+1) h vals (λk=>Fr (k+1)) (λk=>csr (k+1)) (by simpa using hl) (λk r' u h1 h2=>hr (k+1) r' u (by simpa using h1) (by simpa using h2))
    (λk hk=>by have:=hf (k+1) (by simp;omega);rwa [show i+(k+1)=i+1+k by omega]at this) (λk b hb=>hfree (k+1) b hb) (λk k' b hne=>hdis (k+1) (k'+1) b (by omega))
   have hd0:(KE e.slots ((fG mds d (i+1) l).2++e.objs)).obj (sub d i)=none:=by
    rw[k6 _ (λk _ e1=>by have:=Ej e1;omega)];have:=hf 0 (by simp);simpa using this
   have hfree1:∀b,Fr 0 b->ym B w g1 b:=by
    intro b hb;obtain⟨h1,h2,h3,h4⟩:=hfree 0 b hb;refine⟨h1,λhS=>?_,λj hj=>?_,h4⟩
    ·rcases k4 b hS with h5|⟨k,h5⟩
     ·exact h2 h5
     ·exact hdis 0 (k+1) b (by omega) hb h5
    ·rcases k5 j b hj with h5|⟨k,h5⟩
     ·exact h3 j h5
     ·exact hdis 0 (k+1) b (by omega) hb h5
   obtain⟨g2,m1,m2,m3,m4,m5,m6,m7,m8⟩:=zN k1 mds hd0 ((hr 0 r v rfl rfl).mono k3) hfree1;refine⟨g2,?_,?_,λb hb=>m4 b (k3 b hb),λb hb=>?_,λj b hj=>?_,λj hj=>?_⟩
   ·simpa only[fG,JO]using m1
   ·refine⟨v,vals,rfl,?_,?_⟩
    ·simpa only[fG,JO]using m2
    ·have:=k2.carry (ob':=(KE e.slots ((im mds (sub d i) r).2++((fG mds d (i+1) l).2++e.objs))).obj) m4 m7
     simpa only[fG,JO]using this
   ·rcases m5 b hb with h1|h1
    ·rcases k4 b h1 with h2|⟨k,h2⟩
     ·exact .inl h2
     ·exact .inr ⟨k+1,h2⟩
    ·exact .inr ⟨0,h1⟩
   ·rcases m6 j b hj with h1|h1
    ·rcases k5 j b h1 with h2|⟨k,h2⟩
     ·exact .inl h2
     ·exact .inr ⟨k+1,h2⟩
    ·exact .inr ⟨0,h1⟩
   ·have h1:=m8 j (by have:=hj 0 (by simp);simpa using this)
    have h2:=k6 j (λk hk=>by have:=hj (k+1) (by simp;omega);rwa [show i+(k+1)=i+1+k by omega]at this);simp only[fG,JO];exact h1.trans h2
variable {B:Base}
theorem vY {α:Type}{l:List (Nat×α)}(hn:(l.map (·.1)).Nodup){i:Nat}{x:α}(h:(i,x)∈l):au l i=some x:=oa hn h
theorem jY {α:Type}:∀{l:List (Nat×α)} {i:Nat} {x:α},au l i=some x->(i,x)∈l
 |[],_,_,h=>by simp[au]at h
 |(j,y)::l,i,x,h=>by
  by_cases hj:j=i
  ·subst hj;rw[aQ]at h;cases h;exact JA
  ·rw[aX hj]at h;exact JE _ (jY h)
theorem tm {α:Type}:∀{l:List (Nat×α)} {i:Nat},i∉l.map (·.1)->au l i=none
 |[],_,_=>rfl
 |(j,y)::l,i,h=>by
  simp only[Jy,JJ,not_or]at h;rw[aX (λe=>h.1 e.symm)];exact tm h.2
theorem yn (v:bF):dw .ro v=none:=by obtain⟨s,q⟩:=v;cases s<;>rfl
theorem yo (v:bF):dw .rp v=none:=by obtain⟨s,q⟩:=v;cases s<;>rfl
theorem yp (Ks:List Kd)(Kr:Kd)(v:bF):dw (.fn Ks Kr) v=none:=by obtain⟨s,q⟩:=v;cases s<;>rfl
theorem yq (f:Nat)(Fs Ks:List Kd)(v:bF):dw (.fc f Fs Ks) v=none:=by obtain⟨s,q⟩:=v;cases s<;>rfl
theorem called {c:fS}{nt:Nat}{e:Env}{a:Act}{w w2:World}{g:Gh}(hg:InvG c.P B nt e a w g){ams:List AM}{xs:List Operand}{vs:List bF}{args:List Arg}{F:Nat->Nat->Prop}{pl:Nat->Place}{cs:Nat->List Value}
  {g2:Gh} {res:oS} {v:Value} {outs:List (Nat×Option Obj)}
  (hvs:xs.map (λx=>e.view (e.opd x))=vs) (hl1:args.length=xs.length) (hl2:ams.length=xs.length) (hrest:∀j,args.length<=j->(∀b,¬F j b)/\pl j=none)
  (hlink:∀(j:Nat) (am:AM) (v:bF) (arg:Arg) (x:Operand),ams[j]? =some am->vs[j]? =some v->args[j]? =some arg->xs[j]? =some x->zL c.P (gn ams vs) w g e.obj (F j) (pl j) (cs j) am v arg (a.eval x))
  (hnd:(ev ams vs).Nodup) (hdis:∀i,i∈gn ams vs->i∉ev ams vs) (hd:Cc w w2 args ⟨g.lend (gn ams vs),F,pl,cs⟩ g2 res v)
  (hfull:gn ams vs=[]\/(res.rets.all I5=true/\args.all zC=true)) (ho:eD ams vs res.outs=some outs):
  ∃g1,InvG c.P B nt ⟨e.slots,outs++e.objs⟩ a w2 g1/\(∀i,au outs i≠none->e.obj i≠none)/\(∀(r:RV) (F:Nat->Prop) (cs:List Value) (u:Value),r∈res.rets->RetRep g2.S w2 F cs r u->RetRep g1.S w2 F cs r u)/\
   (∀i b,args.length<=i->g2.F i b->ym B w2 g1 b):=by
 have hxl:vs.length=xs.length:=by rw[← hvs];simp
 have at_:∀j,j<xs.length->∃am v arg x,ams[j]? =some am/\vs[j]? =some v/\args[j]? =some arg/\xs[j]? =some x:=λj hj=>
  ⟨ams[j]'(by omega),vs[j]'(by omega),args[j]'(by omega),xs[j],by simp,by simp,by simp,by simp⟩
 have atF:∀j b,F j b->∃id am v,ams[j]? =some am/\vs[j]? =some v/\dw am v=some id/\g.F id b:=by
  intro j b hF
  by_cases hj:j<xs.length
  ·obtain⟨am,v,arg,x,a1,a2,a3,a4⟩:=at_ j hj
   obtain⟨id,h1,h2⟩:=(hlink j am v arg x a1 a2 a3 a4).sub b hF;exact⟨id,am,v,a1,a2,h1,h2⟩
  ·exact bJ hF ((hrest j (by omega)).1 b)
 have atP:∀j b off,pl j=some (b,off)->∃id am v,ams[j]? =some am/\vs[j]? =some v/\dw am v=some id/\g.has id b/\¬F j b:=by
  intro j b off hp
  by_cases hj:j<xs.length
  ·obtain⟨am,v,arg,x,a1,a2,a3,a4⟩:=at_ j hj
   obtain⟨⟨id,h1,h2⟩,h3⟩:=(hlink j am v arg x a1 a2 a3 a4).place b off hp;exact⟨id,am,v,a1,a2,h1,h2,h3⟩
  ·rw[(hrest j (by omega)).2]at hp;cases hp
 have tobj:∀id,id∈ev ams vs->∃o,e.obj id=some (some o):=by
  have:∀(ams:List AM) (vs:List bF) (xs:List Operand),xs.map (λx=>e.view (e.opd x))=vs->ams.length=xs.length->
    (∀(j:Nat) (am:AM) (v:bF) (x:Operand),ams[j]? =some am->vs[j]? =some v->xs[j]? =some x->∀id,dw am v=some id->∃o,e.obj id=some (some o))->∀id,id∈ev ams vs->∃o,e.obj id=some (some o):=by
   intro ams
   induction ams with
   |nil=>intro vs xs _ _ _ id h;cases vs<;>simp[ev]at h
   |cons am ams ih=>
    intro vs xs hv hl hk id h;cases xs with
    |nil=>simp at hl
    |cons x xs=>
     cases vs with
     |nil=>simp at hv
     |cons v vs=>
      simp only[Jy,Ky]at hv;rw[lT]at h;have ih':=ih vs xs hv.2 (by simpa using hl) (λj am' v' x' h1 h2 h3=>hk (j+1) am' v' x' (by simpa using h1) (by simpa using h2) (by simpa using h3))
      split at h
      ·rename_i id' hid
       rcases JJ.1 h with rfl|h
       ·exact hk 0 am v x rfl rfl rfl id hid
       ·exact ih' id h
      ·exact ih' id h
  refine this ams vs xs hvs hl2 λj am v x h1 h2 h3 id h4=>?_
  have hj:j<xs.length:=(JU.1 h3).1;have hlk:=(hlink j am v (args[j]'(by omega)) x h1 h2 (by simp) h3).link;unfold Link at hlk
  split at hlk
  ·cases h4;exact⟨_,hlk.1⟩
  ·cases h4;exact⟨_,hlk.1⟩
  ·cases h4;exact⟨_,hlk.1⟩
  ·rw[yn]at h4;cases h4
  ·rw[yo]at h4;cases h4
  ·rw[yp]at h4;cases h4
  ·rw[yq]at h4;cases h4
  ·exact hlk.elim
 obtain⟨keys,hat⟩:=zM (P:=c.P) (S:=g.lend (gn ams vs)) (w:=w) (w2:=w2) (g:=g) (gc:=⟨g.lend (gn ams vs),F,pl,cs⟩) (g2:=g2) (ob:=e.obj) ams vs args (xs.map a.eval) res.outs outs 0 ho hd.outs (by omega) (by simp;omega)
  (λj am v arg x h1 h2 h3 h4=>by
   rw[KT];simp only[Ly,L0]at h4;obtain⟨y,h5,rfl⟩:=h4;exact(hlink j am v arg y h1 h2 h3 h5).link)
 have hkn:(outs.map (·.1)).Nodup:=by rw[keys];exact hnd
 have hlk:∀i r,au outs i=some r->i∈ev ams vs/\∃(j:Nat) (am:AM) (v:bF) (arg:Arg),ams[j]? =some am/\vs[j]? =some v/\args[j]? =some arg/\pY w2 ⟨g.lend (gn ams vs),F,pl,cs⟩ g2 j i am v arg r:=by
  intro i r h;have hm:=jY h;obtain⟨j,am,v,arg,h1,h2,h3,h4⟩:=hat i r hm;rw[KT]at h4;exact⟨keys▸KG.2 ⟨_,hm,rfl⟩,j,am,v,arg,h1,h2,h3,h4⟩
 have hno:∀i,au outs i=none->i∉ev ams vs:=by
  intro i h hi;rw[← keys]at hi;obtain⟨⟨i',r⟩,h1,rfl⟩:=KG.1 hi;rw[vY hkn h1]at h;cases h
 have hsome:∀i,i∈ev ams vs->∃r,au outs i=some r:=by
  intro i hi;cases h:au outs i with
  |none=>exact bJ hi (hno i h)
  |some r=>exact⟨r,rfl⟩
 have outTaken:∀{j i:Nat} {am:AM} {v:bF} {arg:Arg} {r:Option Obj},pY w2 ⟨g.lend (gn ams vs),F,pl,cs⟩ g2 j i am v arg r->dw am v=some i:=by
  intro j i am v arg r h;cases h<;>rfl
 let Sn:Nat->Prop:=λb=>if gn ams vs=[]then g2.S b else g.S b
 have hSn:∀b,g.S b->Sn b:=by
  intro b hb;show if gn ams vs=[]then g2.S b else g.S b
  split
  ·exact hd.S b (.inl hb)
  ·exact hb
 have SnS:∀b,Sn b->g2.S b:=by
  intro b hb
  by_cases hl:gn ams vs=[]
  ·simpa only[Sn,ab hl]using hb
  ·simp only[Sn,ao hl]at hb
   exact hd.S b (.inl hb)
 have noLend:∀b,gn ams vs=[]->g.lend (gn ams vs) b->g.S b:=by
  intro b hl hb;rcases hb with hb|⟨i,hi,_⟩
  ·exact hb
  ·rw[hl]at hi;cases hi
 have hSb:∀b,Sn b->g.S b\/(∃j,F j b)\/w.heap.size<=b:=by
  intro b hb
  by_cases hl:gn ams vs=[]
  ·simp only[Sn,ab hl]at hb
   rcases hd.Sb b hb with h|h|h
   ·exact .inl (noLend b hl h)
   ·exact .inr (.inl h)
   ·exact .inr (.inr h)
  ·simp only[Sn,ao hl]at hb
   exact .inl hb
 have conv:∀(arg:Arg),arg∈args->∀(K:Kd) (m:Md) (y:K.T) (cs:List Value) (F':Nat->Prop),((∃z,arg= .mp K m z)\/(∃z,arg= .ms K m z))->Own g2.S w2 K m y cs F'->Own Sn w2 K m y cs F':=by
  intro arg harg K m y cs F' hk ho
  by_cases hl:gn ams vs=[]
  ·simp only[Sn,ab hl];exact ho
  ·simp only[Sn,ao hl]
   rcases hfull with h|⟨_,h⟩
   ·exact bJ h hl
   ·have hf:=JS.1 h arg harg
    rcases hk with⟨z,rfl⟩|⟨z,rfl⟩
    ·exact Oi hf ho
    ·exact Oi hf ho
 have hW:∀b o,Wr args ⟨g.lend (gn ams vs),F,pl,cs⟩ b o->∃(j id:Nat) (am:AM) (v:bF),ams[j]? =some am/\vs[j]? =some v/\dw am v=some id/\g.has id b/\
   (F j b\/∃arg off,args[j]? =some arg/\pl j=some (b,off)/\off<=o/\o<off+arg.size):=by
  rintro b o (⟨j,hF⟩|⟨j,arg,off,h1,h2,h3,h4⟩)
  ·obtain⟨id,am,v,k1,k2,k3,k4⟩:=atF j b hF
   exact⟨j,id,am,v,k1,k2,k3,.inr k4,.inl hF⟩
  ·obtain⟨id,am,v,k1,k2,k3,k4,_⟩:=atP j b off h2
   have hj:j<args.length:=by
    have:j<ams.length:=(JU.1 k1).1;omega
   exact⟨j,id,am,v,k1,k2,k3,k4,.inr ⟨arg,off,h1,h2,h3,h4⟩⟩
 have hF2:∀j b,g2.F j b->(∃i,F i b)\/w.heap.size<=b:=hd.Fb
 have same:∀(j j' id id' b:Nat) (am am':AM) (v v':bF),ams[j]? =some am->vs[j]? =some v->dw am v=some id->g.has id b->ams[j']? =some am'->vs[j']? =some v'->dw am' v'=some id'->g.has id' b->j=j':=by
  intro j j' id id' b am am' v v' h1 h2 h3 h4 h5 h6 h7 h8;have:=hg.has_one h4 h8;subst this;exact rg hnd h1 h2 h3 h5 h6 h7
 have one:∀i,∃(p:(Nat->Prop)×List Value),∀r,au outs i=some r->∃o,e.obj i=some (some o)/\∀o',r=some o'->Cf w w2 g Sn i o o' p.1 p.2/\
   (∀b,p.1 b->(g.F i b/\∀j,¬F j b)\/∃(j:Nat) (am:AM) (v:bF),ams[j]? =some am/\vs[j]? =some v/\dw am v=some i/\g2.F j b):=by
  intro i;cases hl:au outs i with
  |none=>exact⟨⟨λ_=>False,[]⟩,λr h=>by cases h⟩
  |some r=>
   obtain⟨hit,j,am,v,arg,h1,h2,h3,h4⟩:=hlk i r hl;obtain⟨o0,ho0⟩:=tobj i hit;have hti:=outTaken h4;have hj:j<xs.length:=by
    have:j<ams.length:=(JU.1 h1).1;omega
   cases r with
   |none=>exact⟨⟨λ_=>False,[]⟩,λr h=>⟨o0,ho0,λo' h'=>by cases h;cases h'⟩⟩
   |some o'=>
    have hlk1:=hlink j am v arg xs[j] h1 h2 h3 (by simp);obtain⟨o,csn,k1,k2⟩:=GU hg (S:=g.lend (gn ams vs)) (Sn:=Sn) hlk1.link h4 hSn
     (λb o v hb hv=>hd.ext.same (λhw=>by
      obtain⟨j',id',am',v',_,_,_,h8,_⟩:=hW b o hw;exact(hg.has_lt h8).2 hb) hv)
     (λb o hb hn hq=>hd.ext.cell b o (hg.has_lt hb).1 (λhw=>by
      obtain⟨j',id',am',v',h5,h6,h7,h8,h9⟩:=hW b o hw;have:=same j j' i id' b am am' v v' h1 h2 hti hb h5 h6 h7 h8;subst this;rcases h9 with h9|⟨arg',off,a1,a2,a3,a4⟩
      ·exact hn h9
      ·rw[h3]at a1
       cases a1;exact hq ⟨off,a2,a3,a4⟩))
     (conv arg (Lz h3))
     (λb h2F hb=>by
      rcases hF2 j b h2F with⟨i',hi'⟩|h5
      ·obtain⟨id',am',v',h5,h6,h7,h8⟩:=atF i' b hi'
       have:=same j i' i id' b am am' v v' h1 h2 hti hb h5 h6 h7 (.inr h8);subst this;exact hi'
      ·have:=(hg.has_lt hb).1;omega)
    refine⟨⟨λb=>(g.F i b/\¬F j b)\/g2.F j b,csn⟩,λr' h=>⟨o,k1,λo1 h'=>?_⟩⟩;cases h;cases h';refine⟨k2,?_⟩;rintro b (⟨a1,a2⟩|a1)
    ·refine .inl ⟨a1,λj' hF=>?_⟩
     obtain⟨id',am',v',h5,h6,h7,h8⟩:=atF j' b hF;have:=same j j' i id' b am am' v v' h1 h2 hti (.inr a1) h5 h6 h7 (.inr h8);subst this;exact a2 hF
    ·exact .inr ⟨j,am,v,h1,h2,hti,a1⟩
 obtain⟨fam,hfam⟩:=Classical.axiomOfChoice one;have FnOld:∀i o' b,au outs i=some (some o')->(fam i).1 b->(g.F i b/\∀j,¬F j b)\/∃(j:Nat) (am:AM) (v:bF),ams[j]? =some am/\vs[j]? =some v/\dw am v=some i/\g2.F j b:=by
  intro i o' b h hb;obtain⟨o,_,hk⟩:=hfam i _ h;exact(hk o' rfl).2 b hb
 have jlen:∀{j:Nat} {am:AM},ams[j]? =some am->j<args.length:=by
  intro j am h;have:j<ams.length:=(JU.1 h).1;omega
 have hI:=hg.called (Sn:=Sn) (outs:=outs) (Fn:=λi=>(fam i).1) (csn:=λi=>(fam i).2) hd.ext
  (λb o hw=>by
   obtain⟨j,id,am,v,h1,h2,h3,h4,h5⟩:=hW b o hw;have hit:=jq h1 h2 h3;obtain⟨o0,ho0⟩:=tobj id hit;refine⟨id,o0,ho0,hsome id hit,?_⟩;rcases h5 with h5|⟨arg,off,a1,a2,a3,a4⟩
   ·obtain⟨id',am',v',b1,b2,b3,b4⟩:=atF j b h5
    rw[h1]at b1;cases b1;rw[h2]at b2;cases b2;rw[h3]at b3;cases b3;exact .inr b4
   ·have hj:j<xs.length:=by have:=jlen h1;omega
    have hl1:=(hlink j am v arg xs[j] h1 h2 a1 (by simp)).link;unfold Link at hl1
    split at hl1
    ·cases h3
     obtain⟨c1,_,_,K,m,z,b',off',rfl,c2,_,_,_,f⟩:=hl1;rw[c1]at ho0;cases ho0;rw[a2]at c2;cases c2;rcases(f.at_ b off a2).2 with⟨o1,d1,d2,d3⟩|d1
     ·have:o<off+K.size:=a4
      exact .inl ⟨o1,d1,by omega,by omega⟩
     ·exact .inr d1
    ·obtain⟨_,_,_,c1,_⟩:=hl1
     rw[a2]at c1;cases c1
    ·obtain⟨_,_,_,c1,_⟩:=hl1
     rw[a2]at c1;cases c1
    ·rw[a2]at hl1;cases hl1.2.1
    ·rw[a2]at hl1;cases hl1.2.1
    ·rw[a2]at hl1;cases hl1.2.1
    ·rw[a2]at hl1;cases hl1.2.1
    ·exact hl1.elim)
  hSn
  (λb hb=>by
   rcases hSb b hb with h|⟨j,h⟩|h
   ·exact .inl h
   ·obtain⟨id,am,v,k1,k2,k3,k4⟩:=atF j b h
    obtain⟨r,hr⟩:=hsome id (jq k1 k2 k3);exact .inr (.inl ⟨id,r,hr,k4⟩)
   ·exact .inr (.inr h))
  (λb hb=>hd.Ssz b (SnS b hb))
  (λb hb=>by
   refine⟨λi hi hF=>?_,λi o' hi hF=>?_,λi off hp=>?_⟩
   ·rcases hSb b hb with h|⟨j,h⟩|h
    ·exact hg.FS i b hF h
    ·obtain⟨id,am,v,k1,k2,k3,k4⟩:=atF j b h
     have:=hg.has_one (.inr hF) (.inr k4);subst this;exact hno i hi (jq k1 k2 k3)
    ·have:=hg.Fsz i b hF;omega
   ·rcases FnOld i o' b hi hF with⟨h1,h2⟩|⟨j,am,v,_,_,_,h4⟩
    ·rcases hSb b hb with h|⟨j,h⟩|h
     ·exact hg.FS i b h1 h
     ·exact h2 j h
     ·have:=hg.Fsz i b h1;omega
    ·exact hd.FS j b h4 (SnS b hb)
   ·rcases hSb b hb with h|⟨j,h⟩|h
    ·exact(hg.plz i b off hp).2.1 h
    ·obtain⟨id,am,v,k1,k2,k3,k4⟩:=atF j b h
     exact(hg.plz i b off hp).2.2.1 id k4
    ·have:=(hg.plz i b off hp).1;omega)
  (λi o' hi b hF=>by
   refine⟨?_,?_,λk hki o2 hk hF'=>?_⟩
   ·rcases FnOld i o' b hi hF with⟨h1,_⟩|⟨j,am,v,_,_,_,h4⟩
    ·exact .inl ⟨i,_,hi,h1⟩
    ·rcases hF2 j b h4 with⟨j',h5⟩|h5
     ·obtain⟨id,am,v,k1,k2,k3,k4⟩:=atF j' b h5
      obtain⟨r,hr⟩:=hsome id (jq k1 k2 k3);exact .inl ⟨id,r,hr,k4⟩
     ·exact .inr h5
   ·rcases FnOld i o' b hi hF with⟨h1,_⟩|⟨j,am,v,_,_,_,h4⟩
    ·exact JX (hg.Fsz i b h1) hd.ext.size
    ·exact hd.Fsz j b h4
   ·have cross:∀i' j',g.F i' b->(∀j,¬F j b)->g2.F j' b->False:=by
     intro i' j' h1 h2 h3;rcases hF2 j' b h3 with⟨j'',h5⟩|h5
     ·exact h2 j'' h5
     ·have:=hg.Fsz i' b h1;omega
    rcases FnOld i o' b hi hF with⟨h1,h2⟩|⟨j,am,v,h1,h2,h3,h4⟩<;>rcases FnOld k o2 b hk hF' with⟨h5,h6⟩|⟨j',am',v',h5,h6,h7,h8⟩
    ·exact hki (hg.has_one (.inr h5) (.inr h1))
    ·exact cross i j' h1 h2 h8
    ·exact cross k j h5 h6 h4
    ·by_cases hjj:j=j'
     ·subst hjj
      rw[h1]at h5;cases h5;rw[h2]at h6;cases h6;rw[h3]at h7;cases h7;exact hki rfl
     ·exact hd.FF j j' b hjj h4 h8)
  (λi r hi=>by
   obtain⟨o,h1,h2⟩:=hfam i r hi;exact⟨o,h1,λo' h3=>(h2 o' h3).1⟩)
 refine⟨_,hI,λi hi h0=>?_,λr F' cs' u hr hrep=>?_,λi b hi hF=>?_⟩
 ·cases hl:au outs i with
  |none=>exact hi hl
  |some r=>
   obtain⟨o,h1⟩:=tobj i (hlk i r hl).1;rw[h0]at h1;cases h1
 ·show RetRep Sn w2 F' cs' r u
  by_cases hl:gn ams vs=[]
  ·have:Sn=g2.S:=by funext b;simp only[Sn,ab hl]
   rw[this];exact hrep
  ·rcases hfull with h|⟨h,_⟩
   ·exact bJ h hl
   ·have hf:=JS.1 h r hr
    cases r with
    |ro K x=>exact⟨hrep.1,hrep.2.1.flat hf,hrep.2.2⟩
    |own K m x=>exact⟨Oi hf hrep.1,hrep.2⟩
    |bx K m x=>
     obtain⟨b,off,h1,h2,h3,h4⟩:=hrep;exact⟨b,off,h1,h2,Oi hf h3,h4⟩
 ·refine⟨hd.Fsz i b hF,λhS=>hd.FS i b hF (SnS b hS),λk hk=>?_,?_⟩
  ·rcases hk with⟨off,hk⟩|hk
   ·simp only[Gh.called]at hk
    have hp:g.pl k=some (b,off):=by
     split at hk
     ·cases hk
     ·exact hk
    rcases hF2 i b hF with⟨j,h5⟩|h5
    ·obtain⟨id,am,v,k1,k2,k3,k4⟩:=atF j b h5
     exact(hg.plz k b off hp).2.2.1 id k4
    ·have:=(hg.plz k b off hp).1;omega
   ·simp only[Gh.called]at hk
    split at hk
    ·rename_i o' hl
     rcases FnOld k o' b hl hk with⟨h1,h2⟩|⟨j,am,v,h1,_,_,h4⟩
     ·rcases hF2 i b hF with⟨j,h5⟩|h5
      ·exact h2 j h5
      ·have:=hg.Fsz k b h1;omega
     ·have:i≠j:=by have:=jlen h1;omega
      exact hd.FF i j b this hF h4
    ·exact hk
    ·rename_i hl
     rcases hF2 i b hF with⟨j,h5⟩|h5
     ·obtain⟨id,am,v,k1,k2,k3,k4⟩:=atF j b h5
      have:=hg.has_one (.inr hk) (.inr k4);subst this;exact hno k hl (jq k1 k2 k3)
     ·have:=hg.Fsz k b hk;omega
  ·rcases hF2 i b hF with⟨j,h5⟩|h5
   ·obtain⟨id,am,v,_,_,_,k4⟩:=atF j b h5
    exact hg.Fb id b k4
   ·have:B.w0.heap.size<=w.heap.size:=hg.ext.size
    exact .inr (by omega)
variable {B:Base}
theorem Cg {c:fS}{nt:Nat}{e:Env}{a:Act}{w:World}{g:Gh}(hg:InvG c.P B nt e a w g){ams:List AM}{xs:List Operand}{vs:List bF}{args:List Arg}{F:Nat->Nat->Prop}{pl:Nat->Place}{cs:Nat->List Value}
  (hvs:xs.map (λx=>e.view (e.opd x))=vs) (hl1:args.length=xs.length) (hl2:ams.length=xs.length) (hrest:∀j,args.length<=j->(∀b,¬F j b)/\pl j=none)
  (hlink:∀(j:Nat) (am:AM) (v:bF) (arg:Arg) (x:Operand),ams[j]? =some am->vs[j]? =some v->args[j]? =some arg->xs[j]? =some x->zL c.P (gn ams vs) w g e.obj (F j) (pl j) (cs j) am v arg (a.eval x))
  (hnd:(ev ams vs).Nodup) (hdis:∀i,i∈gn ams vs->i∉ev ams vs):
  tl c.P w args (xs.map a.eval) ⟨g.lend (gn ams vs),F,pl,cs⟩:=by
 have hxl:vs.length=xs.length:=by rw[← hvs];simp
 have at_:∀j,j<xs.length->∃am v arg x,ams[j]? =some am/\vs[j]? =some v/\args[j]? =some arg/\xs[j]? =some x:=λj hj=>
  ⟨ams[j]'(by omega),vs[j]'(by omega),args[j]'(by omega),xs[j],by simp,by simp,by simp,by simp⟩
 have atF:∀j b,F j b->∃id am v,ams[j]? =some am/\vs[j]? =some v/\dw am v=some id/\g.F id b:=by
  intro j b hF
  by_cases hj:j<xs.length
  ·obtain⟨am,v,arg,x,a1,a2,a3,a4⟩:=at_ j hj
   obtain⟨id,h1,h2⟩:=(hlink j am v arg x a1 a2 a3 a4).sub b hF;exact⟨id,am,v,a1,a2,h1,h2⟩
  ·exact bJ hF ((hrest j (by omega)).1 b)
 have atP:∀j b off,pl j=some (b,off)->∃id am v,ams[j]? =some am/\vs[j]? =some v/\dw am v=some id/\g.has id b/\¬F j b:=by
  intro j b off hp
  by_cases hj:j<xs.length
  ·obtain⟨am,v,arg,x,a1,a2,a3,a4⟩:=at_ j hj
   obtain⟨⟨id,h1,h2⟩,h3⟩:=(hlink j am v arg x a1 a2 a3 a4).place b off hp;exact⟨id,am,v,a1,a2,h1,h2,h3⟩
  ·rw[(hrest j (by omega)).2]at hp;cases hp
 have same:∀(j j' id id' b:Nat) (am am':AM) (v v':bF),ams[j]? =some am->vs[j]? =some v->dw am v=some id->g.has id b->ams[j']? =some am'->vs[j']? =some v'->dw am' v'=some id'->g.has id' b->j=j':=by
  intro j j' id id' b am am' v v' h1 h2 h3 h4 h5 h6 h7 h8;have:=hg.has_one h4 h8;subst this;exact rg hnd h1 h2 h3 h5 h6 h7
 have noL:∀(j b:Nat) (am:AM) (v:bF) (id:Nat),ams[j]? =some am->vs[j]? =some v->dw am v=some id->g.has id b->¬g.lend (gn ams vs) b:=by
  rintro j b am v id h1 h2 h3 h4 (h5|⟨i,h5,h6⟩)
  ·exact(hg.has_lt h4).2 h5
  ·have:=hg.has_one h4 h6
   subst this;exact hdis id h5 (jq h1 h2 h3)
 refine⟨by simp[hl1],λj arg v h1 h2=>?_,hrest,?_,?_,?_,?_,?_,hg.globw.mono (λb hb=>.inl hb) (λ_ _=>rfl)⟩
 ·have hj:j<args.length:=(JU.1 h1).1
  simp only[Ly,L0]at h2;obtain⟨x,h3,rfl⟩:=h2;obtain⟨am,v,_,_,a1,a2,_,_⟩:=at_ j (by omega);exact(hlink j am v arg x a1 a2 h1 h3).link.rep (λb hb=>.inl hb)
 ·rintro b (hb|⟨i,_,hb⟩)
  ·exact hg.Ssz b hb
  ·exact(hg.has_lt hb).1
 ·intro j b hF
  obtain⟨id,am,v,_,_,_,h4⟩:=atF j b hF;exact hg.Fsz id b h4
 ·intro j b hF
  obtain⟨id,am,v,h1,h2,h3,h4⟩:=atF j b hF;exact noL j b am v id h1 h2 h3 (.inr h4)
 ·intro i j b hne hF hF'
  obtain⟨id,am,v,h1,h2,h3,h4⟩:=atF i b hF;obtain⟨id',am',v',h5,h6,h7,h8⟩:=atF j b hF';exact hne (same i j id id' b am am' v v' h1 h2 h3 (.inr h4) h5 h6 h7 (.inr h8))
 ·intro i b off hp
  obtain⟨id,am,v,h1,h2,h3,h4,h5⟩:=atP i b off hp;refine⟨(hg.has_lt h4).1,noL i b am v id h1 h2 h3 h4,λj hF=>?_,λj off' hp'=>?_⟩
  ·obtain⟨id',am',v',k5,k6,k7,k8⟩:=atF j b hF
   have:=same i j id id' b am am' v v' h1 h2 h3 h4 k5 k6 k7 (.inr k8);subst this;exact h5 hF
  ·obtain⟨id',am',v',k5,k6,k7,k8,_⟩:=atP j b off' hp'
   exact same i j id id' b am am' v v' h1 h2 h3 h4 k5 k6 k7 k8
section
variable {c:fS} {nt:Nat} {o:Oper} {Ω:Type} {k:bW->Option Ω} {out:Ω} {fr:Bool}
theorem rh (a:Act)(v:Value):a.put none v=a:=rfl
theorem Ek {w:World}{g:Gh}{n:Nat}{l:List RV}{v:Value}(h:qy w g n l v)(h2:2<=l.length):∃vs:Array Value,v= .tuple vs/\vs.size=l.length/\∀i r u,l[i]? =some r->vs[i]? =some u->RetRep g.S w (g.F (n+i)) (g.cs (n+i)) r u:=by
 cases l with
 |nil=>simp at h2
 |cons r l=>
  cases l with
  |nil=>simp at h2
  |cons r2 l=>exact h
theorem El {outs:List (Nat×Option Obj)}{mds:List (Nat×Md)}{rets:List RV}(hk:oU nt mds o.dst fr outs rets k=some out):
  ∃d,k d=some out/\(∀e:Env,fresh e o.dst=fr->∀a w2 g1 g2 n v,InvG c.P B nt ⟨e.slots,outs++e.objs⟩ a w2 g1->(∀i,au outs i≠none->e.obj i≠none)->
   qy w2 g2 n rets v->(∀(r:RV) (F:Nat->Prop) (cs:List Value) (u:Value),r∈rets->RetRep g2.S w2 F cs r u->RetRep g1.S w2 F cs r u)->(∀i b,n<=i->g2.F i b->ym B w2 g1 b)->
   (∀i j b,i≠j->g2.F i b->¬g2.F j b)->∃g',InvG c.P B nt (e.apply d) (a.put o.dst v) w2 g'):=by
 have hfreshd:∀(e:Env) (d i:Nat) (g1:Gh),fresh e (some d)=true->(∀i,au outs i≠none->e.obj i≠none)->(i=d\/∃k,k<4/\i=sub d k)->(KE e.slots (outs++e.objs)).obj i=none:=by
  intro e d i g1 hf ho hi;simp only[fresh,Jm]at hf;have h0:e.obj i=none:=by
   rcases hi with rfl|⟨k,hk,rfl⟩
   ·simpa using hf.1.1.1.1
   ·match k,hk with
    |0,_=>simpa using hf.1.1.1.2
    |1,_=>simpa using hf.1.1.2
    |2,_=>simpa using hf.1.2
    |3,_=>simpa using hf.2
  show au (outs++e.objs) i=none;rw[eE];cases hl:au outs i with
  |some r=>exact bJ h0 (ho i (by rw[hl];simp))
  |none=>exact h0
 unfold oU at hk
 split at hk
 ·rename_i hdst
  split at hk
  ·refine⟨_,hk,λe _ a w2 g1 g2 n v hI _ _ _ _ _=>⟨g1,?_⟩⟩
   rw[hdst,rh];exact hI
  ·cases hk
 ·rename_i d hdst
  split at hk
  ·rename_i hc
   rw[Jm]at hc;have hlt:d<nt:=JV hc.1
   split at hk
   ·refine⟨_,hk,λe _ a w2 g1 g2 n v hI _ _ _ _ _=>⟨g1,?_⟩⟩
    rw[hdst];exact hI.put hlt (s:=.dead) trivial
   ·rename_i r
    refine⟨_,hk,λe hfr a w2 g1 g2 n v hI ho hr hconv hfree hFF=>?_⟩;rw[hdst]at hfr;obtain⟨g',k1,k2,k3,_⟩:=zN hI mds (hfreshd e d d g1 (hfr.trans hc.2) ho (.inl rfl)) (hconv r _ _ _ (by simp) hr) (λb hb=>hfree n b (JG _) hb);refine⟨g',?_⟩;rw[hdst];have:=k1.put hlt (s:=(im mds d r).1) (v:=v) ((SlotRep.iff0 k3).2 k2);simpa only[Env.apply,Env.put,JO,KO]using this
   ·rename_i l hne1 hne2
    split at hk
    ·rename_i hl4
     have hl4:=JV hl4;refine⟨_,hk,λe hfr a w2 g1 g2 n v hI ho hr hconv hfree hFF=>?_⟩;rw[hdst]at hfr;have h2:2<=rets.length:=by
      cases rets with
      |nil=>exact bJ rfl hne1
      |cons r l=>cases l with
       |nil=>exact bJ rfl (hne2 r)
       |cons r2 l=>simp
     obtain⟨vs,rfl,hsz,hvs⟩:=Ek hr h2;obtain⟨g',k1,k2,_⟩:=vX mds rets 0 hI vs.toList (λi=>g2.F (n+i)) (λi=>g2.cs (n+i)) (by simpa using hsz) (λi r u h3 h4=>hconv r _ _ _ (Lz h3) (hvs i r u h3 (by simpa using h4)))
      (λi hi=>by rw[KT];exact hfreshd e d _ g1 (hfr.trans hc.2) ho (.inr ⟨i,by omega,rfl⟩)) (λi b hb=>hfree _ b (by omega) hb) (λi j b hne=>hFF _ _ b (by omega))
     refine⟨g',?_⟩;rw[hdst];have:=k1.put hlt (s:=.tup (fG mds d 0 rets).1) (v:=.tuple vs) ⟨vs,rfl,k2⟩;simpa only[Env.apply,Env.put,JO,KO]using this
    ·cases hk
  ·cases hk
structure Spill (P:Program) (B:Base) (nt:Nat) (e:Env) (a:Act) (w:World) (g:Gh) (nt':Nat) (e':Env) (a':Act):Prop where
 inv:InvG P B nt' e' a' w g
 objs:e'.objs=e.objs
 back:∀objs w2 g1,InvG P B nt' ⟨e'.slots,objs⟩ a' w2 g1->InvG P B nt ⟨e.slots,objs⟩ a w2 g1
theorem Spill.refl {P:Program}{nt:Nat}{e:Env}{a:Act}{w:World}{g:Gh}(h:InvG P B nt e a w g):Spill P B nt e a w g nt e a:=⟨h,rfl,λ_ _ _ h=>h⟩
theorem ri {α:Type}:∀{l:List (Nat×α)} {i:Nat},(l.map (·.1)).sum<i->au l i=none
 |[],_,_=>rfl
 |(j,y)::l,i,h=>by
  simp only[Jy,JY]at h;rw[aX (by omega)];exact ri (by omega)
def vZ {α:Type}(N:Nat):List α->List (Nat×α)
 |[]=>[]
 |x::l=>(N,x)::vZ (N+1) l
theorem nd {α:Type}:∀{l:List α} {N:Nat} {i:Nat},au (vZ N l) i=if N<=i then l[i - N]? else none
 |[],N,i=>by simp[vZ,au]
 |x::l,N,i=>by
  unfold vZ
  by_cases h:N=i
  ·subst h;rw[aQ];simp
  ·rw[aX h,nd (l:=l)]
   by_cases h2:N+1<=i
   ·rw[ab h2,ab (by omega),show i - N=(i - (N+1))+1 by omega,List.getElem?_cons_succ]
   ·rw[ao h2,ao (by omega)]
theorem FM {P:Program}{nt:Nat}{e:Env}{a:Act}{w:World}{g:Gh}(hg:InvG P B nt e a w g)(L:List (Slot×Value))(hL:∀q,q∈L->SlotRep P g w e.obj q.1 q.2)(ts:List Nat):
  ∃N nt' e' a',Spill P B nt e a w g nt' e' a'/\(∀x:Operand,(∀t,x= .tmp t->t∈ts)->e'.opd x=e.opd x/\a'.eval x=a.eval x)/\∀j q,L[j]? =some q->e'.opd (.tmp (N+j))=q.1/\a'.eval (.tmp (N+j))=q.2:=by
 obtain⟨N,hN⟩:∃N,N=nt+(e.slots.map (·.1)).sum+ts.sum+1:=⟨_,rfl⟩
 have hts:∀t,t∈ts->t<N:=by
  have:∀(ts:List Nat) t,t∈ts->t<=ts.sum:=by
   intro ts
   induction ts with
   |nil=>intro t h;cases h
   |cons u ts ih=>
    intro t h;rw[JY];rcases JJ.1 h with rfl|h
    ·omega
    ·have:=ih t h;omega
  intro t h;have:=this ts t h;omega
 let e':Env:=⟨vZ N (L.map (·.1))++e.slots,e.objs⟩
 let a':Act:={a with tmps:=(a.tmps.toList++(JZ (N - nt) undef++L.map (·.2))).toArray}
 have hobj:e'.obj=e.obj:=rfl;have low:∀i,i<N->e'.get i=e.get i:=by
  intro i hi;unfold M7;show(match au (vZ N (L.map (·.1))++e.slots) i with|some s=>s|none=>.dead)=_;rw[eE,nd (N:=N),ao (by omega)]
  rfl
 have high:∀i,N<=i->e.get i= .dead:=by
  intro i hi;unfold M7;rw[ri (by omega)]
 have at_:∀j q,L[j]? =some q->e'.get (N+j)=q.1:=by
  intro j q hq;unfold M7;show(match au (vZ N (L.map (·.1))++e.slots) (N+j)with|some s=>s|none=>.dead)=_;rw[eE,nd (N:=N),ab (by omega),show N+j - N=j by omega,Ly,hq]
  rfl
 have past:∀j,L[j]? =none->e'.get (N+j)= .dead:=by
  intro j hq;unfold M7;show(match au (vZ N (L.map (·.1))++e.slots) (N+j)with|some s=>s|none=>.dead)=_;rw[eE,nd (N:=N),ab (by omega),show N+j - N=j by omega,Ly,hq];simp only[Option.map_none];rw[ri (by omega)]
 have sz:=hg.tmps;have tlow:∀i,i<N->a'.tmps.getD i undef=a.tmps.getD i undef:=by
  intro i hi;show((a.tmps.toList++(JZ (N - nt) undef++L.map (·.2))).toArray).getD i undef=_;simp only[LK,MR]
  by_cases h:i<nt
  ·rw[Lf (by simp[sz];exact h)]
   simp
  ·rw[Lt (by simp[sz];omega),Lf (by simp[sz];omega),List.getElem?_replicate,ab (by simp[sz];omega),Array.getElem?_eq_none (by rw[sz];omega)]
   rfl
 have tat:∀j q,L[j]? =some q->a'.tmps.getD (N+j) undef=q.2:=by
  intro j q hq;show((a.tmps.toList++(JZ (N - nt) undef++L.map (·.2))).toArray).getD (N+j) undef=_;simp only[LK,MR];rw[Lt (by simp[sz];omega),Lt (by simp[sz];omega),Ly];have:N+j - a.tmps.toList.length - (JZ (N - nt) undef).length=j:=by simp[sz];omega
  rw[this,hq]
  rfl
 refine⟨N,N+L.length,e',a',⟨⟨hg.glob,?_,hg.defers,hg.ext,hg.Ssz,hg.Fsz,hg.S0,hg.Sb,hg.Fb,hg.FS,hg.FF,hg.plz,hg.absent,hg.objs,λi=>?_⟩,rfl,λobjs w2 g1 h=>?_⟩,?_,?_⟩
 ·show((a.tmps.toList++(JZ (N - nt) undef++L.map (·.2))).toArray).size=_
  simp[sz];omega
 ·by_cases hi:i<N
  ·rw[low i hi,tlow i hi];exact hg.slots i
  ·obtain⟨j,rfl⟩:∃j,i=N+j:=⟨i - N,by omega⟩
   cases hq:L[j]? with
   |none=>rw[past j hq];trivial
   |some q=>rw[at_ j q hq,tat j q hq];exact hL q (Lz hq)
 ·refine⟨h.glob,sz,hg.defers,h.ext,h.Ssz,h.Fsz,h.S0,h.Sb,h.Fb,h.FS,h.FF,h.plz,h.absent,h.objs,λi=>?_⟩
  by_cases hi:i<N
  ·have:=h.slots i
   rw[tlow i hi]at this;rw[show(KE e.slots objs).get i=(KE e'.slots objs).get i from(low i hi).symm];exact this
  ·rw[show(KE e.slots objs).get i= .dead from high i (by omega)]
   trivial
 ·intro x hx
  refine⟨?_,?_⟩
  ·unfold Env.opd
   split<;>first|rfl|exact low _ (hts _ (hx _ rfl))
  ·cases x with
   |tmp t=>exact tlow t (hts t (hx t rfl))
   |_=>rfl
 ·intro j q hq
  exact⟨at_ j q hq,tat j q hq⟩
theorem rj (hM:lS c){mds:List (Nat×Md)}{f:Nat}{ts:List Nat}{vs V:List bF}(hk:kJ c nt mds o.dst fr f ts vs k=some out)
  (hexec:∀e:Env,e.views o=V->∀a w g,InvG c.P B nt e a w g->∃nt' e' a',Spill c.P B nt e a w g nt' e' a'/\∃xs:List Operand,xs.map (λx=>e'.view (e'.opd x))=vs/\(execOp a.eval o).run c.P w= .ok (.enter f (xs.map a'.eval).toArray) w):
  cc c B nt o V fr k out:=by
 unfold kJ at hk
 split at hk
 ·cases hk
 ·rename_i ams hsg
  split at hk
  ·cases hk
  ·rename_i args hargs
   split at hk
   ·rename_i hcond
    simp only[Jm]at hcond;obtain⟨res,hres,hans⟩:=hM.ans f _ _ _ _ hk
    split at hres
    ·rename_i hfull
     split at hres
     ·cases hres
     ·rename_i outs houts
      have hnd:=jV hcond.1;have hdis:∀i,i∈gn ams vs->i∉ev ams vs:=by
       intro i hi ht;have:=JS.1 hcond.2 i hi
       simp at this
       exact this i ht rfl
      obtain⟨d,hd,hret⟩:=El (c:=c) (B:=B) hres;refine⟨d,hd,λe he a w ⟨g,hg⟩ next Q hn=>?_⟩;obtain⟨nt',e',a',hsp,xs,hvs,hrun⟩:=hexec e he.1 a w g hg;obtain⟨hl1,hl2,F,pl,cs,hrest,hlink⟩:=FL hM hsp.inv ts ams xs vs args hvs hargs (L:=gn ams vs) (λi hi=>hi);have hE:=Cg hsp.inv hvs hl1 hl2 hrest hlink hnd hdis;unfold OZ;rw[hrun,Oper.upon_enter];refine(hans w _ _ hE).mono ?_;rintro ee w2 ⟨v,g2,rfl,hdone⟩;obtain⟨g1,hI,hlo,hconv,hfree⟩:=called hsp.inv hvs hl1 hl2 hrest hlink hnd hdis hdone (by
       rw[KY,Jm]at hfull;rcases hfull with h|h
       ·exact .inl (List.isEmpty_iff.1 h)
       ·exact .inr h) houts
      have hI2:=hsp.back _ _ _ hI;have hoo:e'.obj=e.obj:=by funext i;show au e'.objs i=au e.objs i;rw[hsp.objs]
      rw[hsp.objs]at hI2;rw[hoo]at hlo;obtain⟨g',hI'⟩:=hret e he.2 a w2 g1 g2 _ v hI2 hlo hdone.rets hconv (λi b hi hF=>hfree i b hi hF) hdone.FF;exact hn _ _ ⟨g',hI'⟩
    ·cases hres
   ·cases hk
end
variable {B:Base}
section
variable {c:fS} {nt:Nat} {o:Oper} {Ω:Type} {k:bW->Option Ω} {out:Ω} {fr:Bool}
theorem lV {P:Program}{f:Nat}{fn:Func}{a:Act}{w:World}{x:Operand}{as:Array Operand}{ts:Array Nat}{fv cv:List Value}(hf:P.funcs[f]? =some fn)(hn:fn.name≠ "runtime.NumGoroutine")(hb:fn.body.isNone=false)
  (ho:o.op= .call {callee:=.value x,args:=as,argTypes:=ts}) (hx:a.eval x= .func (.func f) fv.toArray cv.toArray):(execOp a.eval o).run P w= .ok (.enter f (fv++(as.toList.map a.eval++cv)).toArray) w:=by
 have hn':(fn.name== "runtime.NumGoroutine")=false:=by simpa using hn
 have e1:(fv++(as.toList.map a.eval++cv)).toArray=fv.toArray++as.map a.eval++cv.toArray:=by apply Array.ext';simp
 rw[e1];simp only[execOp,ho,resolve,hx,Deferred.ofValue,JC,JP,Js,invoke,callFunc,run_program,hf,hn',hb]
 rfl
theorem Em {mds:List (Nat×Md)}{f:Nat}{as:Array Operand}{ts:Array Nat}{v:bF}{vs:List bF}(hM:lS c)(ho:o.op= .call {callee:=.value (.func f),args:=as,argTypes:=ts})
  (hk:kJ c nt mds o.dst fr f ts.toList vs k=some out):cc c B nt o (v::vs) fr k out:=by
 have hsg:∃ams,ams∈c.sg f:=by
  unfold kJ at hk
  split at hk
  ·cases hk
  ·rename_i ams h;exact⟨ams,Mm h⟩
 obtain⟨ams,hsg⟩:=hsg;obtain⟨fn,b1,b2,b3⟩:=hM.body f ams hsg;refine rj hM hk λe he a w g hg=>⟨nt,e,a,Spill.refl hg,as.toList,?_,?_⟩
 ·have hops:o.op.operands= #[.func f]++as:=by rw[ho];simp[Nq,MU]
  simp only[Mo,Kw,hops,LU,Kk,Jy,Kz,KO,Ky]at he;exact he.2
 ·rw[lV (fv:=[]) (cv:=[]) b1 b2 b3 ho rfl]
  simp
theorem FN {S:Nat->Prop}{w:World}:∀{l:List KV} {vs:List Value},FsRep S w l vs->vs.length=l.length/\∀(i:Nat) q v,l[i]? =some q->vs[i]? =some v->∃cs,RO S w q.1 q.2 cs/\VRep q.1 cs v
 |[],_,h=>by rw[show _=_ from h];exact⟨rfl,λi q v h=>by simp at h⟩
 |⟨K,x⟩::l,_,⟨v,r,rfl,h1,h2⟩=>by
  obtain⟨i1,i2⟩:=FN h2;refine⟨by simp[i1],λi q u hq hu=>?_⟩;cases i with
  |zero=>simp at hq hu;subst hq;subst hu;exact h1
  |succ i=>exact i2 i q u (by simpa using hq) (by simpa using hu)
def Cap.slot:Cap->Slot
 | .rp K x=>.rp K x
 | .pt id n=>.pt id n []
theorem zO {P:Program}{g:Gh}{w:World}{ob:Nat->Option (Option Obj)}:∀{l:List Cap} {vs:List Value},CapsOk g w ob l vs->vs.length=l.length/\∀(i:Nat) q v,l[i]? =some q->vs[i]? =some v->SlotRep P g w ob q.slot v
 |[],_,h=>by rw[show _=_ from h];exact⟨rfl,λi q v h=>by simp at h⟩
 |c::l,_,⟨v,r,rfl,h1,h2⟩=>by
  obtain⟨i1,i2⟩:=zO (P:=P) h2;refine⟨by simp[i1],λi q u hq hu=>?_⟩;cases i with
  |zero=>
   simp at hq hu;subst hq;subst hu
   cases c<;>exact h1
  |succ i=>exact i2 i q u (by simpa using hq) (by simpa using hu)
theorem og {α β:Type}{f:Nat->β}{g:α->β}:∀{l:List α} {N:Nat},(∀(j:Nat) x,l[j]? =some x->f (N+j)=g x)->(Oc N l.length).map f=l.map g
 |[],_,_=>rfl
 |x::l,N,h=>by
  rw[List.length_cons,List.range'_succ,Jy,Jy]
  congr 1
  ·exact h 0 x rfl
  ·exact og (N:=N+1) λj y hy=>by have:=h (j+1) y (by simpa using hy);rwa [show N+1+j=N+(j+1)by omega]
theorem mI:∀{l:List Operand} {t:Nat},NI t∈l->t∈kK l
 | .tmp u::l,t,h=>by
  rcases JJ.1 h with h|h
  ·cases h;exact JA
  ·exact JE _ (mI h)
 | .const _::l,t,h=>by
  rcases JJ.1 h with h|h
  ·cases h
  ·exact mI (l:=l) h
 | .global _::l,t,h=>by
  rcases JJ.1 h with h|h
  ·cases h
  ·exact mI (l:=l) h
 | .func _::l,t,h=>by
  rcases JJ.1 h with h|h
  ·cases h
  ·exact mI (l:=l) h
theorem B4 {mds:List (Nat×Md)}{f:Nat}{fs:List KV}{l:List CapV}{x:Operand}{as:Array Operand}{ts:Array Nat}{v0:bF}{vs:List bF}(hM:lS c)(ho:o.op= .call {callee:=.value x,args:=as,argTypes:=ts})
  (hv0:∀(e:Env) a w g,InvG c.P B nt e a w g->e.view (e.opd x)=v0->∃caps,l=caps.map e.cap/\FvRep g w e.obj f fs caps (a.eval x))
  (hk:kJ c nt mds o.dst fr f (GJ fs ts.toList l) (GK fs vs l) k=some out):cc c B nt o (v0::vs) fr k out:=by
 have hsg:∃ams,ams∈c.sg f:=by
  unfold kJ at hk
  split at hk
  ·cases hk
  ·rename_i ams h;exact⟨ams,Mm h⟩
 obtain⟨ams,hsg⟩:=hsg;obtain⟨fn,b1,b2,b3⟩:=hM.body f ams hsg;refine rj hM hk λe he a w g hg=>?_
 have hops:o.op.operands= #[x]++as:=by rw[ho];simp[Nq,MU]
 simp only[Mo,Kw,hops,LU,Kk,Jy,Kz,KO,Ky]at he;obtain⟨e1,e2⟩:=he;obtain⟨caps,rfl,fv,cv,h1,h2,h3⟩:=hv0 e a w g hg e1;obtain⟨f1,f2⟩:=FN h2;obtain⟨c1,c2⟩:=zO (P:=c.P) h3
 let L:List (Slot×Value):=(fs.map λq=>Slot.v q.1 q.2).zip fv++(caps.map Cap.slot).zip cv
 have L1:((fs.map λq=>Slot.v q.1 q.2).zip fv).length=fs.length:=by simp[f1]
 have L2:((caps.map Cap.slot).zip cv).length=caps.length:=by simp[c1]
 have La:∀(j:Nat) q,fs[j]? =some q->∃v,fv[j]? =some v/\L[j]? =some (.v q.1 q.2,v):=by
  intro j q hq;have hj:j<fs.length:=(JU.1 hq).1;refine⟨fv[j]'(by omega),by simp,?_⟩;show(_++_)[j]? =_;rw[Lf (by omega),LR]
  simp[hq]
 have Lb:∀(j:Nat) q,caps[j]? =some q->∃v,cv[j]? =some v/\L[fs.length+j]? =some (q.slot,v):=by
  intro j q hq;have hj:j<caps.length:=(JU.1 hq).1;refine⟨cv[j]'(by omega),by simp,?_⟩;show(_++_)[fs.length+j]? =_;rw[Lt (by omega),L1,show fs.length+j - fs.length=j by omega,LR]
  simp[hq]
 have hL:∀q,q∈L->SlotRep c.P g w e.obj q.1 q.2:=by
  intro q hq;rcases KC.1 hq with hq|hq
  ·obtain⟨i,hi⟩:=Od hq
   rw[LR]at hi;rw[Ly,L0]at hi;obtain⟨⟨kv,k1,k2⟩,k3⟩:=hi;rw[← k2];exact f2 i kv q.2 k1 k3
  ·obtain⟨i,hi⟩:=Od hq
   rw[LR]at hi;rw[Ly,L0]at hi;obtain⟨⟨kv,k1,k2⟩,k3⟩:=hi;rw[← k2];exact c2 i kv q.2 k1 k3
 obtain⟨N,nt',e',a',hsp,s1,s2⟩:=FM hg L hL (kK as.toList);have hview:∀s,e'.view s=e.view s:=by
  intro s;have hoo:e'.obj=e.obj:=by funext i;show au e'.objs i=au e.objs i;rw[hsp.objs]
  unfold Env.view;have hcap:e'.cap=e.cap:=by funext c;cases c<;>simp[Env.cap,hoo]
  split<;>simp only[hoo,hcap]
 have sa:∀y,y∈as.toList->e'.opd y=e.opd y/\a'.eval y=a.eval y:=λy hy=>s1 y λt ht=>mI (ht▸hy)
 refine⟨nt',e',a',hsp,(Oc N fs.length).map NI++(as.toList++(Oc (N+fs.length) caps.length).map NI),?_,?_⟩
 ·rw[Kk,Kk,Lc,Lc]
  show _=fs.map _++(vs++(caps.map e.cap).map zB)
  congr 1
  ·refine og λj q hq=>?_
   obtain⟨v,_,k2⟩:=La j q hq;show e'.view (e'.opd (.tmp (N+j)))=_;rw[(s2 j _ k2).1]
   rfl
  ·congr 1
   ·rw[← e2]
    exact Ml λy hy=>by rw[hview,(sa y hy).1]
   ·rw[Lc]
    refine og λj q hq=>?_
    obtain⟨v,_,k2⟩:=Lb j q hq;show e'.view (e'.opd (.tmp (N+fs.length+j)))=_;rw[Nat.add_assoc,(s2 _ _ k2).1,hview];cases q<;>rfl
 ·rw[lV b1 b2 b3 ho h1,Kk,Kk,Lc,Lc]
  congr 4
  ·rw[← List.map_id fv,← f1]
   refine(og λj v hv=>?_).symm;obtain⟨v',k1,k2⟩:=La j (fs[j]'(by have:=(JU.1 hv).1;omega)) (by simp);rw[hv]at k1;cases k1;exact(s2 j _ k2).2
  ·congr 1
   ·exact Ml λy hy=>(sa y hy).2.symm
   ·rw[← List.map_id cv,← c1]
    refine(og λj v hv=>?_).symm;obtain⟨v',k1,k2⟩:=Lb j (caps[j]'(by have:=(JU.1 hv).1;omega)) (by simp);rw[hv]at k1;cases k1;show a'.eval (.tmp (N+fs.length+j))=_;rw[Nat.add_assoc];exact(s2 _ _ k2).2
theorem Ch {mds:List (Nat×Md)}{f:Nat}{fs:List KV}{l:List CapV}{x:Operand}{as:Array Operand}{ts:Array Nat}{q:Option Obj}{vs:List bF}(hM:lS c)(ho:o.op= .call {callee:=.value x,args:=as,argTypes:=ts})
  (hk:kJ c nt mds o.dst fr f (GJ fs ts.toList l) (GK fs vs l) k=some out):cc c B nt o ((.fvr f fs l,q)::vs) fr k out:=
 B4 hM ho (λ_ _ _ _ hg e1=>uu hg e1) hk
theorem Ci {P:Program}{e:Env}{a:Act}{w:World}{g:Gh}(hg:InvG P B nt e a w g):∀{xs:List Operand} {vs:List bF} {l:List KV} {Ks:List Kd} {r:Kd.Ts Ks},xs.map (λx=>e.view (e.opd x))=vs->E4 vs=some l->AU Ks l=some r->zE g.S w Ks r (xs.map a.eval)
 |[],vs,l,Ks,r,hv,hk,hm=>by
  rw[Kz]at hv;subst hv;simp only[E4,Jq]at hk;subst hk;cases Ks with
  |nil=>rfl
  |cons _ _=>simp[AU]at hm
 |x::xs,vs,l,Ks,r,hv,hk,hm=>by
  cases vs with
  |nil=>cases hv
  |cons v vs=>
   simp only[Jy,Ky]at hv;unfold E4 at hk
   split at hk
   ·rename_i K z q l' h2
    cases hk;cases Ks with
    |nil=>simp[AU]at hm
    |cons K0 Ks=>
     unfold AU at hm
     split at hm
     ·rename_i hb
      have:=Ka hb;subst this
      split at hm
      ·rename_i r' hr'
       cases hm;obtain⟨cs,h3,h4⟩:=aH hg hv.1;exact⟨_,_,cs,rfl,h3,h4,Ci hg hv.2 h2 hr'⟩
      ·cases hm
     ·cases hm
   ·cases hk
theorem GV {Ks:List Kd}{Kr:Kd}{f:Kd.Ts Ks->Option Kr.T}{x:Operand}{as:Array Operand}{ts:Array Nat}{q:Option Obj}{vs:List bF}(ho:o.op= .call {callee:=.value x,args:=as,argTypes:=ts})
  (hk:AV nt o.dst Ks Kr f vs k=some out):cc c B nt o ((.clo Ks Kr f,q)::vs) fr k out:=by
 unfold AV at hk
 split at hk
 ·cases hk
 ·rename_i l hl
  split at hk
  ·cases hk
  ·rename_i r hr
   cases hf:f r with
   |none=>rw[hf]at hk;cases hk
   |some y=>
    rw[hf]at hk;have hk:cz nt o.dst (.v Kr y) k=some out:=hk;have key:∀e:Env,(e.views o=(.clo Ks Kr f,q)::vs/\fresh e o.dst=fr)->∀a w g,InvG c.P B nt e a w g->∀(next:Act->World->Prop) (Q:Exit->Act->World->Prop),
      (∀v w' g',InvG c.P B nt e a w' g'->SlotRep c.P g' w' e.obj (.v Kr y) v->next (a.put o.dst v) w')->o.wp c.P a w next Q:=by
     intro e he a w g hg next Q hn;have hops:o.op.operands= #[x]++as:=by rw[ho];simp[Nq,MU]
     have he1:=he.1;simp only[Mo,Kw,hops,LU,Kk,Jy,Kz,KO,Ky]at he1;obtain⟨e1,e2⟩:=he1;obtain⟨fid,fv,cv,h1,⟨fn,b1,b2,b3⟩,hcall⟩:=aH hg e1;unfold OZ;rw[lV b1 b2 b3 ho h1,Oper.upon_enter];have hts:=Ci hg e2 hl hr;have:=hcall g.S w (λ_ h=>h) hg.Ssz (λ_ _ _ _ h=>h) hg.globw r y _ hf hts;refine this.mono ?_;rintro ee w2 ⟨v,rfl,hx,S',s1,s2,s3,cs,s4,s5⟩;have hI:=hg.grow hx;refine hn v w2 _ hI ⟨cs,s4.mono (λb hb=>?_) (λ_ _ _ _ h=>h),s5⟩;rcases s2 b hb with h|h
     ·exact .inl h
     ·exact .inr ⟨h,s3 b hb⟩
    unfold cz at hk
    split at hk
    ·rename_i hd
     refine⟨_,hk,λe he a w ⟨g,hg⟩ next Q hn=>key e he a w g hg next Q λv w' g' hI _=>?_⟩;rw[hd];exact hn _ _ ⟨g',hI⟩
    ·rename_i d hd
     split at hk
     ·rename_i hlt
      refine⟨_,hk,λe he a w ⟨g,hg⟩ next Q hn=>key e he a w g hg next Q λv w' g' hI hs=>?_⟩;rw[hd];exact hn _ _ ⟨g',hI.put (JV hlt) hs⟩
     ·cases hk
end
variable {B:Base}
variable {B:Base}
section
variable {c:fS} {nt:Nat} {o:Oper} {Ω:Type} {k:bW->Option Ω} {out:Ω} {fr:Bool}
theorem yr {t id n d:Nat}{x:Operand}{ob:Obj}(hc:cf c)(ho:o.op= .box t x)(hd:o.dst=some d)(hlt:Ll d nt=true)(ht:(eS c t ob.K&&bK ob&&fu ob n []&&ob.par&& !ob.box&&IR ob.K)=true)
  (hk:k ⟨[(d,.pt id (ob.log.length+1) [.inn])],[(id,some ⟨.st ob.K,ob.m,ob.x,true,true,none::ob.log,none⟩)]⟩=some out):cc c B nt o [(.al id n [],some ob)] fr k out:=by
 simp only[Jm]at ht;obtain⟨⟨⟨⟨⟨h1,h2⟩,h3⟩,h4⟩,h5⟩,h6⟩:=ht;have hbx:ob.box=false:=by simpa using h5
 obtain⟨kk,hKk⟩:∃kk,ob.K= .st kk:=by
  cases hK:ob.K with
  |st kk=>exact⟨kk,rfl⟩
  |_=>rw[hK]at h6;cases h6
 refine⟨_,hk,λe he=>jm hd (JV hlt) λa w g hg=>?_⟩;obtain⟨r1,r2,r3⟩:=lR hg (cj he.1 (x:=x) (by rw[ho];rfl)) h2 h3;obtain⟨n1,n2⟩:=jh w (a.eval x).cells t;have hx:=Ext.alloc w (.cells (a.eval x).cells t) (λ_ _=>False);have O:=hg.objs id ob r1;have hpl:g.pl id=none:=by
  have:=O.box;cases hq:g.pl id with
  |none=>rfl
  |some q=>rw[hq,hbx]at this;cases this
 have hpar:(B.hd id).1=none/\g.cs id=(B.hd id).2:=by
  have:=O.par h4;unfold ny at this;rw[hbx,Li,ao (by simp)]at this;exact⟨by rw[← this.1,hpl],this.2 rfl⟩
 let ob':Obj:=⟨.st ob.K,ob.m,ob.x,true,true,none::ob.log,none⟩
 let g':Gh:={g with pl:=λi=>if i=id then some (w.heap.size,0)else g.pl i}
 have hobj:∀i,(KE e.slots ([(id,some ob')]++e.objs)).obj i=if i=id then some (some ob')else e.obj i:=by
  intro i;show au ((id,some ob')::e.objs) i=_
  by_cases hi:i=id
  ·subst hi;rw[aQ,ab rfl]
  ·rw[aX (λe=>hi e.symm),ao hi];rfl
 have eobj:(KE e.slots ([(id,some ob')]++e.objs)).obj id=some (some ob'):=by rw[hobj,ab rfl]
 have gp:g'.pl id=some (w.heap.size,0):=ab rfl;have gne:∀i,i≠id->g'.pl i=g.pl i:=λi hi=>ao hi
 refine⟨.pointer (some ⟨w.heap.size,0,none⟩),w.alloc (.cells (a.eval x).cells t),g',?_,?_,?_⟩
 ·simp only[execOp,ho,Instr.box,JC,newVar,newRow,run_newObj,Js,JP]
  rfl
 ·refine hg.change (λi=>i=id) rfl (hg.ext.step hx (λ_ _ _ h=>h.elim)) (λ_ h=>h) (λb o v _ hv=>hx.same (λh=>h) hv)
   (λb hb=>JX (hg.Ssz b hb) hx.size) (λi b hb=>JX (hg.Fsz i b hb) hx.size) hg.Sb hg.Fb hg.FS hg.FF ?_ ?_ ?_ ?_ ?_ ?_
  ·intro i b off hp
   by_cases hi:i=id
   ·subst hi
    rw[gp]at hp;cases hp;refine⟨by rw[Lk];omega,λhS=>by have:=hg.Ssz _ hS;omega,λj hF=>by have:=hg.Fsz j _ hF;omega,λj off' hp'=>?_⟩
    by_cases hj:j=i
    ·exact hj.symm
    ·rw[gne j hj]at hp'
     have:=(hg.plz j _ off' hp').1;omega
   ·rw[gne i hi]at hp
    obtain⟨a1,a2,a3,a4⟩:=hg.plz i b off hp;refine⟨JX a1 hx.size,a2,a3,λj off' hp'=>?_⟩
    by_cases hj:j=id
    ·subst hj
     rw[gp]at hp';cases hp';omega
    ·exact a4 j off' (by rw[gne j hj]at hp';exact hp')
  ·intro i hi
   exact⟨by rw[hobj,ao hi],rfl,gne i hi,rfl,λb o hF=>hx.cell b o (hg.Fsz i b hF) (λh=>h),λb off hp o=>hx.cell b o (hg.plz i b off hp).1 (λh=>h)⟩
  ·rintro i rfl hno
   exact bJ eobj (hno ob')
  ·rintro i o' rfl ho'
   rw[eobj]at ho';cases ho';refine⟨λ_=>⟨Own.st.2 (r3.ext hx (λb hb=>hg.Fsz i b hb)),?_⟩,(λp hp=>by cases hp),(by rw[gp];rfl),(λ_=>?_),(λb off hp=>?_),λq off hq=>lQ rfl hq⟩
   ·rw[gp]
    rw[r2.2]at n1 n2⊢;exact PlOk.mk n1 (λj _=>(n2 j).2)
   ·unfold ny
    rw[ab (by show(true&&DZ (.st ob.K))=true;rw[hKk];rfl)];exact⟨λhn=>bJ hpar.1 hn,λ_=>hpar.2⟩
   ·rw[gp]at hp
    cases hp;exact .inl (.inr hg.ext.size)
  ·rintro i rfl n' p' v hs
   have hle:=hs.1.2 ob r1;refine⟨⟨by rw[eobj];simp,λo3 ho3=>by rw[eobj]at ho3;cases ho3;exact LW hle (Nn _)⟩,λo3 ho3 hk3 _=>?_⟩;rw[eobj]at ho3;cases ho3;unfold fu at hk3;simp only[ob',du hle,Kh,Jm]at hk3;have hp0:p'=[]:=by
    cases p' with
    |nil=>rfl
    |cons s p'=>exact bJ hk3.1 (by simp)
   subst hp0;obtain⟨q,cs',K',m',x',q1,q2,q3⟩:=hs.2 ob r1 hk3.2 (.inr rfl);rw[cn]at q1;cases q1;simp only[ck,Jq,JH]at q2;refine⟨g'.pl i,g'.cs i,.st ob.K,ob.m,ob.x,cn _ _ _,by simp only[ck],?_⟩;show VRep (.st ob.K) (g.cs i) v;rw[q2.2];have q3':VRep ob.K cs' v:=q3;rw[hKk]at q3';exact⟨q3'.1,q3'.2⟩
  ·rintro i rfl n' p' v hs
   have hle:=hs.1.2 ob r1;refine⟨⟨by rw[eobj];simp,λo3 ho3=>by rw[eobj]at ho3;cases ho3;exact LW hle (Nn _)⟩,λo3 ho3 hk3 _=>?_⟩;rw[eobj]at ho3;cases ho3;unfold gy at hk3;simp only[ob',du hle,Kh,Jm]at hk3;have hi:aV p'=false:=by simpa using hk3.1
   obtain⟨b,off,cs',K',m',x',q1,q2,q3⟩:=hs.2 ob r1 hk3.2 (.inl (bS h2));rw[hpl]at q2;exact bJ (lB p' hi q2) (by simp)
 ·refine⟨⟨by rw[eobj];simp,λo3 ho3=>by rw[eobj]at ho3;cases ho3;exact JG _⟩,λo3 ho3 _ _=>?_⟩
  rw[eobj]at ho3;cases ho3;refine⟨w.heap.size,0,g.cs id,ob.K,ob.m,ob.x,?_,?_,rfl⟩
  ·show aS (.st ob.K) ob.m ob.x [.inn]=_
   simp only[aS]
  ·show ck _ [.inn] (.st ob.K) (g'.pl id) (g.cs id)=_
   rw[gp];simp only[ck]
theorem B5 {x:Operand}{e:Kd}{q:Option Obj}(ho:o.op= .assign x)(hk:cz nt o.dst (.v (.sl e) []) k=some out):cc c B nt o [(.nils,q)] fr k out:=by
 refine ba hk λe0 he a w g hg=>?_
 have hr:a.eval x= .slice none 0 0:=aH hg (cj he.1 (x:=x) (by rw[ho];rfl));refine⟨.slice none 0 0,?_,[.slice none 0 0],⟨none,0,rfl,JG _,λi hi=>bJ hi (Nat.not_lt_zero i)⟩,rfl,rfl⟩;simp only[execOp,ho,hr]
 rfl
theorem mJ:∀{q p:bI} {k:Option Ω},lx q p k=some out->q=p/\k=some out
 |[],[],k,h=>⟨rfl,h⟩
 | .inn::p,.inn::q,k,h=>by obtain⟨rfl,h2⟩:=mJ (q:=p) (p:=q) h;exact⟨rfl,h2⟩
 | .fst::p,.fst::q,k,h=>by obtain⟨rfl,h2⟩:=mJ (q:=p) (p:=q) h;exact⟨rfl,h2⟩
 | .snd::p,.snd::q,k,h=>by obtain⟨rfl,h2⟩:=mJ (q:=p) (p:=q) h;exact⟨rfl,h2⟩
 | .idx i::p,.idx j::q,k,h=>by
  unfold lx at h
  split at h
  ·rename_i hij
   obtain⟨rfl,h2⟩:=mJ (q:=p) (p:=q) h;exact⟨by rw[hij],h2⟩
  ·cases h
 |[],_::_,k,h=>by simp[lx]at h
 |s::_,[],k,h=>by cases s<;>simp[lx]at h
 | .inn::_,.fst::_,_,h| .inn::_,.snd::_,_,h| .inn::_,.idx _::_,_,h| .fst::_,.inn::_,_,h| .fst::_,.snd::_,_,h| .fst::_,.idx _::_,_,h
 | .snd::_,.inn::_,_,h| .snd::_,.fst::_,_,h| .snd::_,.idx _::_,_,h| .idx _::_,.inn::_,_,h| .idx _::_,.fst::_,_,h| .idx _::_,.snd::_,_,h=>by simp[lx]at h
theorem uv {lo hi:Option Operand}{bs:List bF}{l h:Option Int}(hb:xZ lo hi bs=some (l,h))(n:Nat):Ee lo hi bs n (ta l 0) (ta h n):=by
 unfold xZ at hb
 split at hb
 ·cases hb
  exact⟨λ_ _=>⟨.inl ⟨rfl,rfl⟩,.inl ⟨rfl,rfl⟩⟩⟩
 ·cases hb
  refine⟨λhg hv=>?_⟩
  simp at hv
  exact⟨.inr ⟨_,congrArg some (eL (aH hg hv))⟩,.inl ⟨rfl,rfl⟩⟩
 ·cases hb
  refine⟨λhg hv=>?_⟩
  simp at hv
  exact⟨.inl ⟨rfl,rfl⟩,.inr ⟨_,congrArg some (eL (aH hg hv))⟩⟩
 ·cases hb
  refine⟨λhg hv=>?_⟩
  simp at hv
  exact⟨.inr ⟨_,congrArg some (eL (aH hg hv.1))⟩,.inr ⟨_,congrArg some (eL (aH hg hv.2))⟩⟩
 ·cases hb
theorem yt {o2:Obj}{p:bI}{old:Option Obj}(h:BZ o2 p=some old):(old=none/\o2.box=false/\p=[]/\o2.par=false)\/(old=some {o2 with hl:=some p}/\sZ p=false):=by
 unfold BZ at h
 split at h
 ·cases h
 ·rename_i hq
  have hq:sZ p=false:=by simpa using hq
  split at h
  ·cases h;exact .inr ⟨rfl,hq⟩
  ·rename_i hb
   split at h
   ·split at h
    ·cases h
    ·rename_i hp
     cases h;exact .inl ⟨rfl,by simpa using hb,rfl,by simpa using hp⟩
   ·cases h;exact .inr ⟨rfl,hq⟩
theorem Eo {mds:List (Nat×Md)}{vs:List bF}(hc:cf c)(hM:lS c)(h:vp c nt mds o vs fr k=some out):cc c B nt o vs fr k out:=by
 unfold vp at h
 split at h
 ·exact qx (v:=(.nils,_)) (.inl ‹_›) h
 ·exact qx (v:=(_,_)) (.inl ‹_›) h
 ·-- assign nil
  split at h
  ·split at h
   ·exact yi ‹_› h
   ·cases h
   ·exact B5 ‹_› h
  ·cases h
 ·exact qx (v:=(_,_)) (.inr ‹_›) h
 ·exact E9 (v:=(_,_)) (u:=(_,_)) ‹_› h
 ·-- alloc
  split at h
  ·split at h
   ·split at h
    ·exact vC hc ‹_› ‹_› ‹_› h
    ·cases h
   ·exact vC hc ‹_› ‹_› (by cases‹Kd›<;>rfl) h
  ·cases h
 ·split at h
  ·exact C7 hc ‹_› ‹_› h
  ·cases h
 ·split at h
  ·exact B1 hc ‹_› ‹_› h
  ·split at h
   ·split at h
    ·split at h
     ·exact yr hc ‹_› ‹_› ‹_› ‹_› h
     ·cases h
    ·cases h
   ·cases h
 ·-- build
  split at h
  ·split at h
   ·split at h
    ·split at h
     ·split at h
      ·exact us hc ‹_› ‹_› ‹_› ‹_› ‹_› h
      ·cases h
     ·cases h
    ·split at h
     ·split at h
      ·exact vK hc ‹_› ‹_› ‹_› ‹_› ‹_› h
      ·cases h
     ·cases h
   ·cases h
  ·cases h
 ·-- buildSlice
  split at h
  ·split at h
   ·split at h
    ·split at h
     ·split at h
      ·exact od hc ‹_› ‹_› ‹_› ‹_› ‹_› h
      ·cases h
     ·cases h
    ·cases h
    ·split at h
     ·split at h
      ·exact ph hc ‹_› ‹_› ‹_› ‹_› ‹_› h
      ·cases h
     ·cases h
   ·cases h
  ·cases h
 ·-- load
  split at h
  ·exact yd hc ‹_› ‹_› h
  ·cases h
 ·split at h
  ·rename_i hcond
   split at h
   ·split at h
    ·exact vV hc ‹_› hcond ‹_› ‹_› h
    ·cases h
   ·cases h
  split at h
  ·split at h
   ·split at h
    ·exact ye hc ‹_› ‹_› ‹_› ‹_› h
    ·cases h
   ·cases h
  ·cases h
 ·-- store
  split at h
  ·split at h
   ·split at h
    ·split at h
     ·split at h
      ·split at h
       ·cases h
       ·exact vR hc ‹_› ‹_› ‹_› ‹_› ‹_› ‹_› ‹_› ‹_› ‹_› (.inl ‹_›) h
       ·split at h
        ·cases h
        ·rename_i hnq
         obtain⟨rfl,h2⟩:=mJ h;exact vR hc ‹_› ‹_› ‹_› ‹_› ‹_› ‹_› ‹_› ‹_› ‹_› (.inr ⟨by assumption,by simpa using hnq⟩) h2
      ·cases h
     ·cases h
    ·cases h
   ·cases h
  ·cases h
 ·-- fieldAddr
  split at h
  ·split at h
   ·rename_i hcond
    rw[Jm]at hcond
    split at h
    ·exact qq hc ‹_› ‹_› hcond.1 (JV hcond.2) ‹_› h
    ·cases h
   ·cases h
  ·cases h
 ·split at h
  ·split at h
   ·split at h
    ·rename_i hcond
     simp only[Jm]at hcond;exact qr hc ‹_› ‹_› ‹_› hcond.1.1.1 (JV hcond.1.1.2) hcond.1.2 hcond.2 h
    ·cases h
   ·cases h
  ·cases h
 ·split at h
  ·split at h
   ·split at h
    ·exact vA hc ‹_› ‹_› ‹_› ‹_› ‹_› h
    ·cases h
   ·cases h
  ·cases h
 ·split at h
  ·split at h
   ·rename_i hcond
    rw[Jm]at hcond
    split at h
    ·exact yf hc ‹_› ‹_› hcond.1 (JV hcond.2) ‹_› h
    ·cases h
   ·cases h
  ·cases h
 ·split at h
  ·split at h
   ·exact qZ hc ‹_› ‹_› ‹_› h
   ·cases h
  ·cases h
 ·split at h
  ·split at h
   ·split at h
    ·split at h
     ·exact qs hc ‹_› ‹_› ‹_› ‹_› ‹_› h
     ·cases h
    ·cases h
   ·cases h
  ·split at h
   ·split at h
    ·exact oe hc ‹_› ‹_› ‹_› ‹_› h
    ·cases h
   ·cases h
 ·split at h
  ·split at h
   ·exact C4 hc ‹_› ‹_› ‹_› h
   ·cases h
  ·cases h
 ·-- slice
  split at h
  ·rename_i K x hrd
   split at h
   ·rename_i hty
    split at h
    ·cases h
    ·rename_i l hh hb
     split at h
     ·split at h
      ·exact ul hc ‹_› hty hrd (uv hb _) ‹_› h
      ·cases h
     ·split at h
      ·cases hrd
       exact vB hc ‹_› hty (uv hb _) ‹_› h
      ·cases h
     ·split at h
      ·split at h
       ·split at h
        ·rename_i id n o2 hpb _ m hm hbd
         simp only[E8]at hrd
         split at hrd
         ·rename_i hcond
          rw[Jm]at hcond;rw[cn]at hrd;cases o2 with
          |mk K2 m2 x2 b2 p2 l2 h2=>
           simp only at hrd hm
           subst hm;cases hrd;exact vS hc ‹_› hty (cn _ _ _) hcond.1 hcond.2 hpb (uv hb _) hbd h
         ·cases hrd
        ·cases h
       ·cases h
      ·cases h
     ·cases h
   ·cases h
  ·cases h
 ·-- makeSlice
  split at h
  ·split at h
   ·split at h
    ·split at h
     ·split at h
      ·exact vF hc ‹_› ‹_› ‹_› ‹_› h
      ·cases h
     ·cases h
     ·exact yj hc ‹_› ‹_› ‹_› h
    ·cases h
   ·cases h
  ·cases h
 ·exact Ed hc ‹_› h
 ·exact GQ ‹_› h
 ·exact GR ‹_› h
 ·split at h
  ·exact yc hc ‹_› ⟨_,by assumption⟩ ‹_› h
  ·cases h
 ·split at h
  ·exact pa hc ‹_› ‹_› ‹_› ‹_› h
  ·cases h
 ·split at h
  ·cases h
  ·exact yg ‹_› ‹_› (by
    rename_i s hn _
    cases s<;>first|rfl|exact bJ rfl (hn _)) h
  ·cases h
 ·exact pV ‹_› (.inl ⟨_,_,rfl⟩) h
 ·split at h
  ·exact pV ‹_› (.inr ⟨_,_,_,_,rfl,rfl,by assumption⟩) h
  ·cases h
 ·-- makeFunc
  split at h
  ·exact vU ‹_› ‹_› ‹_› h
  ·cases h
 ·-- len
  split at h
  ·split at h
   ·exact C5 (x:=.tmp 0) hc ⟨_,by assumption⟩ ‹_› ‹_› (.inl ⟨_,_,rfl,by assumption,rfl⟩) h
   ·cases h
  ·split at h
   ·exact C5 (x:=.tmp 0) hc ⟨_,by assumption⟩ ‹_› ‹_› (.inr ⟨_,rfl,by assumption,rfl⟩) h
   ·cases h
  ·cases h
 ·-- append
  split at h
  ·rename_i e m xs t t2 hg0 hts
   split at h
   ·rename_i hcond
    simp only[Jm]at hcond;have hts':=zK hts
    split at h
    ·cases h
    ·rename_i old hold
     split at h
     ·split at h
      ·rename_i hK
       split at h
       ·have:=Ka hK
        subst this;dsimp only at h
        split at h
        ·exact vM hc (by rw[← hts'];assumption) hcond.1.1.1 hcond.1.1.2 hg0 hcond.1.2 hcond.2 (yt hold) ‹_› ‹_› h
        ·cases h
       ·cases h
      ·cases h
     ·split at h
      ·exact rd hc (by rw[← hts'];assumption) hcond.1.1.1 hcond.1.1.2 hg0 hcond.1.2 hcond.2 (yt hold) ‹_› h
      ·cases h
     ·split at h
      ·rename_i o3 hK
       split at h
       ·rename_i h3
        dsimp only at h
        split at h
        ·rename_i hlen
         have h3':=h3;simp only[Jm]at h3';have hm3:=Md.eq_of_beq h3'.1.1.1.1;cases o3 with
         |mk K3 m3 x3 b3 p3 l3 hl3=>
          have:=Ka hK
          simp only at this hm3
          subst this;subst hm3;exact ut hc (by rw[← hts'];assumption) hcond.1.1.1 hcond.1.1.2 hg0 hcond.1.2 hcond.2 (yt hold) hlen h3 (cn _ _ _) h
        ·cases h
       ·cases h
      ·cases h
     ·cases h
   ·cases h
  ·cases h
 ·exact Em hM ‹_› h
 ·exact Ch hM ‹_› h
 ·exact GV ‹_› h
 ·cases h
end
variable {B:Base}
section
variable {c:fS} {nt:Nat} {o:Oper} {Ω:Type} {k:bW->Option Ω} {out:Ω} {fr:Bool}
theorem wa {x:Operand}{id n d:Nat}{ob:Obj}(ho:o.op= .move x)(hcond:(bK ob&&fu ob n []&& !ob.par&& !ob.box&&ob.K.np)=true)
  (hd:o.dst=some d) (hlt:Ll d nt=true) (hk:k ⟨[(d,.v ob.K ob.x)],[(id,none)]⟩=some out):cc c B nt o [(.al id n [],some ob)] fr k out:=by
 simp only[Jm,LM]at hcond;obtain⟨⟨⟨⟨hh,hok⟩,hpar⟩,hbx⟩,hnp⟩:=hcond;refine⟨_,hk,λe0 he a w ⟨g,hg⟩ next Q hn=>?_⟩;obtain⟨r1,r2,r3⟩:=lR hg (cj he.1 (x:=x) (by rw[ho];rfl)) hh hok;have hro:=lC hg (ids:=[id]) JA r1 (bS hh);have hfz:=hg.freeze [id] (λi hi=>by rw[JQ]at hi;subst hi;exact⟨ob,r1,hpar⟩);have hrun:(execOp a.eval o).run c.P w= .ok (.value (a.eval x)) w:=by
  simp only[execOp,ho];rfl
 unfold OZ;rw[hrun,Nx,hd];exact hn _ _ ⟨_,hfz.put (Nat.blt_eq.mp hlt) (s:=.v ob.K ob.x) ⟨_,hro,r2⟩⟩
theorem yu {t d:Nat}{x:Operand}{K:Kd}{z:K.T}{q:Option Obj}(hc:cf c)(ho:o.op= .box t x)(ht:eS c t K=true)
  (hd:o.dst=some d) (hlt:Ll d nt=true) (hk:k ⟨[(d,.rp K z)],[]⟩=some out):cc c B nt o [(.v K z,q)] fr k out:=by
 refine⟨_,hk,λe0 he a w ⟨g,hg⟩ next Q hn=>?_⟩;obtain⟨cs,hro,hv⟩:=aH hg (cj he.1 (x:=x) (by rw[ho];rfl));obtain⟨n1,n2⟩:=jh w (a.eval x).cells t;have hx:=Ext.alloc w (.cells (a.eval x).cells t) (λ_ _=>False);have hrun:(execOp a.eval o).run c.P w= .ok (.value (.pointer (some ⟨w.heap.size,0,none⟩))) (w.alloc (.cells (a.eval x).cells t)):=by
  simp only[execOp,ho,Instr.box,JC,newVar,newRow,run_newObj,Js,JP]
  rfl
 have hI:=hg.grow hx;unfold OZ;rw[hrun,Nx,hd];refine hn _ _ ⟨_,hI.put (Nat.blt_eq.mp hlt) (s:=.rp K z) ⟨w.heap.size,0,cs,rfl,?_,?_,hro.mono (λb hb=>.inl hb) (λb o v hS hv=>hx.same (λh=>h) hv)⟩⟩
 ·exact .inr ⟨JG _,by rw[Lk];omega⟩
 ·rw[hv.2]at n1⊢
  exact n1
theorem Kd.beq_self:∀K:Kd,K.beq K=true
 | .int k=>by cases k<;>rfl
 | .bool=>rfl
 | .str=>rfl
 | .err=>rfl
 | .raw k=>k.beq_self
 | .sl k=>k.beq_self
 | .st k=>k.beq_self
 | .pair a b=>by show(a.beq a&&b.beq b)=true;rw[a.beq_self,b.beq_self];rfl
 | .mp a b=>by show(a.beq a&&b.beq b)=true;rw[a.beq_self,b.beq_self];rfl
 | .fcell f a b=>by show(Nat.beq f f&&(a.beq a&&b.beq b))=true;rw[a.beq_self,b.beq_self,MH];rfl
theorem ng:∀(p:bI) {K:Kd} {m:Md} {x:K.T} {K':Kd} {m':Md} {x':K'.T},aV p=false->aS K m x p=some ⟨K',m',x'⟩->gx K x p K' x'=some x
 |[],K,m,x,K',m',x',_,h=>by
  rw[cn]at h;cases h;have:gx K x [] K x=if h:K.beq K=true then some (Ka h▸x)else none:=by cases K<;>rfl
  rw[this,dif_pos K.beq_self]
 | .inn::p,K,m,x,K',m',x',hi,h=>by
  cases K with
  |st k=>exact ng p (K:=k) (by simpa[aV]using hi) h
  |_=>simp[aS]at h
 | .fst::p,K,m,x,K',m',x',hi,h=>by
  cases K with
  |pair a b=>
   have:=ng p (K:=a) (by simpa[aV]using hi) h;show(match gx a x.1 p K' x' with|some z=>some ((z,x.2):a.T×b.T)|none=>none)=_;rw[this]
  |_=>simp[aS]at h
 | .snd::p,K,m,x,K',m',x',hi,h=>by
  cases K with
  |pair a b=>
   have:=ng p (K:=b) (by simpa[aV]using hi) h;show(match gx b x.2 p K' x' with|some z=>some ((x.1,z):a.T×b.T)|none=>none)=_;rw[this]
  |_=>simp[aS]at h
 | .idx i::p,K,m,x,K',m',x',hi,h=>by simp[aV]at hi
theorem uw {t id n d:Nat}{x:Operand}{p:bI}{o2:Obj}{K:Kd}{m m2:Md}{z:K.T}(hc:cf c)(ho:o.op= .load t x)(hcond:(bK o2&&gy o2 n p&& !aV p)=true)
  (hg0:aS o2.K o2.m o2.x p=some ⟨K,m,z⟩) (hsm:iY o2.m p .ro=some m2) (hd:o.dst=some d) (hlt:(eS c t K&&Ll d nt)=true)
  (hk:k ⟨[(d,.v K z)],[(id,some {o2 with m:=m2,log:=some p::o2.log})]⟩=some out):cc c B nt o [(.pt id n p,some o2)] fr k out:=by
 simp only[Jm,LM]at hcond hlt;obtain⟨⟨hh,hok⟩,hidx⟩:=hcond;obtain⟨ht,hlt⟩:=hlt;obtain⟨hT,_⟩:=ey hc.ty ht;have hsp:=ng p hidx hg0;refine⟨_,hk,λe he=>jm hd (JV hlt) λa w g hg=>?_⟩;have v1:=cj he.1 (x:=x) (by rw[ho];rfl);have hob:=gN v1;have hhl:=bS hh;have O:=hg.objs id o2 hob;obtain⟨b,off,cs',K',m',x',h1,h2,h3⟩:=(aH hg v1).2 _ hob hok (.inl hhl);rw[hg0]at h1;cases h1;obtain⟨Oown,Opl⟩:=O.own hhl;obtain⟨F',f⟩:=ns p hg0 h2 Oown Opl (λb off e1=>(hg.plz id b off e1).2.2.1 id);have hpl:∀b o,g.pl id=some (b,o)->¬F' b:=λb o hp hF=>(hg.plz id b o hp).2.2.1 id (f.sub b hF)
 let g':Gh:={g with S:=λb=>g.S b\/F' b,F:=λi b=>g.F i b/\(i=id->¬F' b)}
 have hro:RO g'.S w K z cs':=Own.toRO (S':=g'.S) (λb hb=>.inl hb) (λb hb=>.inr hb) f.own;have key:=f.set g'.S w .ro m2 z o2.x cs' (λ_=>False) hsp hsm (λb hb=>.inl hb) (λ_ _ _ _ h=>h) (λ_ _ _ _ _=>⟨rfl,rfl⟩) (λ_ _ _ _=>⟨rfl,rfl⟩) f.ok (Own.ro.2 hro)
  (λ_ h=>h.elim) (λ_ _ _ h=>h) (λ_ _ _ h=>h)
 rw[eB p h2]at key
 let o3:Obj:={o2 with m:=m2,log:=some p::o2.log}
 have hobj:∀i,(KE e.slots ([(id,some o3)]++e.objs)).obj i=if i=id then some (some o3)else e.obj i:=by
  intro i;show au ((id,some o3)::e.objs) i=_
  by_cases hi:i=id
  ·subst hi;rw[aQ,ab rfl]
  ·rw[aX (λe=>hi e.symm),ao hi];rfl
 have eobj:(KE e.slots ([(id,some o3)]++e.objs)).obj id=some (some o3):=by rw[hobj,ab rfl]
 have hFe:∀i,i≠id->g'.F i=g.F i:=by
  intro i hi
  funext b
  show(g.F i b/\(i=id->¬F' b))=g.F i b;exact propext ⟨λh=>h.1,λh=>⟨h,λe=>bJ e hi⟩⟩
 refine⟨K.val cs',w,g',?_,?_,⟨cs',hro,hro.vrep hT.np⟩⟩
 ·simp only[execOp,ho,h3,N8,JC,mC,Js,ix hT f.own.length (f.ok b off rfl).1]
  rfl
 ·refine hg.change (λi=>i=id) rfl hg.ext (λ_ h=>.inl h) (λ_ _ _ _ h=>h) ?_ (λi b hF=>hg.Fsz i b hF.1) ?_ (λi b hF=>hg.Fb i b hF.1) ?_ (λi j b hne h1 h2=>hg.FF i j b hne h1.1 h2.1) ?_ ?_ ?_ ?_ ?_ ?_
  ·rintro b' (hb|hb)
   ·exact hg.Ssz b' hb
   ·exact hg.Fsz id b' (f.sub b' hb)
  ·rintro b' (hb|hb)
   ·exact hg.Sb b' hb
   ·rcases hg.Fb id b' (f.sub b' hb)with h|h
    ·exact .inr (.inl h)
    ·exact .inr (.inr h)
  ·rintro i b' hF (hb|hb)
   ·exact hg.FS i b' hF.1 hb
   ·by_cases hi:i=id
    ·exact hF.2 hi hb
    ·exact hg.FF i id b' hi hF.1 (f.sub b' hb)
  ·intro i b' off' hp
   obtain⟨a1,a2,a3,a4⟩:=hg.plz i b' off' hp;refine⟨a1,?_,λj hF=>a3 j hF.1,a4⟩;rintro(hb|hb)
   ·exact a2 hb
   ·exact a3 id (f.sub b' hb)
  ·intro i hi
   exact⟨by rw[hobj,ao hi],hFe i hi,rfl,rfl,λ_ _ _=>⟨rfl,rfl⟩,λ_ _ _ _=>⟨rfl,rfl⟩⟩
  ·rintro i rfl hno
   exact bJ eobj (hno o3)
  ·rintro i o' rfl ho'
   rw[eobj]at ho';cases ho';refine⟨λ_=>⟨?_,key.2.1⟩,(λp' hp'=>by rw[show o3.hl=o2.hl from rfl,hhl]at hp';cases hp'),O.box,O.par,O.plx,λq off hq=>lQ (show o3.hl=none from hhl) hq⟩;refine key.1.mono (λ_ h=>h) (λ_ _ _ _ h=>h) (λb' hb=>?_) (λ_ _ _=>⟨rfl,rfl⟩);rcases hb with hb|hb
   ·exact⟨hb.1,λ_=>hb.2⟩
   ·exact hb.elim
  ·rintro i rfl n' p' v' hs
   have hle:=hs.1.2 o2 hob;refine⟨⟨by rw[eobj];simp,λo4 ho4=>by rw[eobj]at ho4;cases ho4;exact LW hle (Nn _)⟩,λo4 ho4 hk4 _=>?_⟩;rw[eobj]at ho4;cases ho4;unfold fu at hk4;simp only[o3,du hle,Kh,Jm]at hk4;have hhit:gm p' p=false:=by simpa using hk4.1
   obtain⟨q,c1,K1,m1,x1,a1,a2,a3⟩:=hs.2 o2 hob hk4.2 (.inl hhl);obtain⟨m3,x3,a4⟩:=jJ p p' hsp hsm a1 (λhpre=>by simp[gm,hpre]at hhit);exact⟨q,c1,K1,m3,x3,a4,a2,a3⟩
  ·rintro i rfl n' p' v' hs
   have hle:=hs.1.2 o2 hob;refine⟨⟨by rw[eobj];simp,λo4 ho4=>by rw[eobj]at ho4;cases ho4;exact LW hle (Nn _)⟩,λo4 ho4 hk4 _=>?_⟩;rw[eobj]at ho4;cases ho4;unfold gy at hk4;simp only[o3,du hle,Kh,Jm]at hk4;have hhit:iO p' p=false:=by simpa using hk4.1
   obtain⟨b1,off1,c1,K1,m1,x1,a1,a2,a3⟩:=hs.2 o2 hob hk4.2 (.inl hhl);obtain⟨m3,x3,a4⟩:=jJ p p' hsp hsm a1 (λhpre=>by simpa[iO,hpre]using hhit);exact⟨b1,off1,c1,K1,m3,x3,a4,a2,a3⟩
theorem rk {t id n n0:Nat}{x:Operand}{p:bI}{o2:Obj}{K:Kd}(hc:cf c)(ho:o.op= .load t x)(hcond:(AX K n n0 p (some o2)&&eS c t K)=true)
  (h:cz nt o.dst (.al id n0 p) k=some out):cc c B nt o [(.pt id n p,some o2)] fr k out:=by
 rw[Jm]at hcond;obtain⟨hw,ht⟩:=hcond;obtain⟨hT,_⟩:=ey hc.ty ht;unfold AX at hw;simp only[Jm]at hw;obtain⟨⟨⟨hh,hok⟩,hoa⟩,hk⟩:=hw;refine ba h λe he a w g hg=>?_
 have v1:=cj he.1 (x:=x) (by rw[ho];rfl);have hob:=gN v1;have hhl:=bS hh;have hr:=aH hg v1;obtain⟨b,off,cs',K',m',x',h1,h2,h3⟩:=hr.2 _ hob hok (.inl hhl);rw[h1]at hk;simp only[Jm]at hk;have:=Ka hk.1;subst this;obtain⟨Oown,Opl⟩:=(hg.objs id o2 hob).own hhl;obtain⟨F',f⟩:=ns p h1 h2 Oown Opl (λb off e1=>(hg.plz id b off e1).2.2.1 id);refine⟨K'.val cs',?_,⟨by rw[hob];simp,λo3 ho3=>by rw[hob]at ho3;cases ho3;exact JV hoa⟩,λo3 ho3 _ _=>?_⟩
 ·simp only[execOp,ho,h3,N8,JC,mC,Js,ix hT f.own.length (f.ok b off rfl).1]
  rfl
 ·rw[hob]at ho3
  cases ho3;exact⟨some (b,off),cs',K',m',x',h1,h2,f.own.vrep hT.np⟩
theorem rl {c:fS}{t:Nat}{k1 k2:Kd}(hc:cf c)(ht:au c.ty t=some (.st (.pair k1 k2)))(w:World)(b off:Nat):
  (Instr.fieldAt t (.pointer (some ⟨b,off,none⟩)) 0).run c.P w= .ok (.pointer (some ⟨b,off,none⟩)) w:=by
 obtain⟨fd,K2,r1,r2,r3,r4⟩:=lc hc.ty ht (f:=0) (by simp[Kd.nf]) w b off;obtain⟨_,r6⟩:=r4 .ro (Kd.zero (.pair k1 k2));obtain⟨cs',r7⟩:=r6 w (some (b,off)) [];have e:fF (.pair k1 k2) 0=[.fst]:=rfl;rw[e]at r7;simp only[ck,Place.up,KR,Jq,JH,true_and]at r7;have h0:fd.offset=0:=by omega
 rw[h0,KH]at r3;exact r3
theorem ux {x:Operand}{t id n:Nat}{p:bI}{ob:Obj}{k1 k2:Kd}(hc:cf c)(ho:o.op= .fieldAddr t x 0)(ht:au c.ty t=some (.st (.pair k1 k2)))(hk0:(gy ob n p&&(bK ob||nG p))=true)
  (h:cz nt o.dst (.pt id n p) k=some out):cc c B nt o [(.pt id n p,some ob)] fr k out:=by
 rw[Jm]at hk0;refine ba h λe he a w g hg=>?_
 have hv:=cj he.1 (x:=x) (by rw[ho];rfl);have hob:=gN hv;have hr:=aH hg hv;have hh':ob.hl=none\/nG p=true:=by
  have hh:=hk0.2;rw[KY]at hh;exact hh.imp bS (λh=>h)
 obtain⟨b,off,cs',K',m',x',h3,h4,h5⟩:=hr.2 ob hob hk0.1 (hh'.imp (λh=>h) .inl);refine⟨.pointer (some ⟨b,off,none⟩),?_,?_⟩
 ·simp only[execOp,ho,h5,JC,rl hc ht w b off,Js];rfl
 ·rw[← h5];exact hr
theorem mi {x:Operand}{t f id n:Nat}{p:bI}{ob:Obj}{k2 K:Kd}{m:Md}{z:K.T}(hc:cf c)(ho:o.op= .fieldAddr t x f)(ht:au c.ty t=some (.st k2))
  (hgp:aS ob.K ob.m ob.x p=some ⟨K,m,z⟩) (hcond:((Kd.st k2).beq K&&Ll f k2.nf&&y5 K n p (some ob))=true)
  (h:cz nt o.dst (.pt id n (p++ .inn::fF k2 f)) k=some out):cc c B nt o [(.pt id n p,some ob)] fr k out:=by
 simp only[Jm]at hcond;obtain⟨⟨hK,hf⟩,hw⟩:=hcond;have hf:=JV hf;unfold y5 at hw;simp only[Jm]at hw;obtain⟨⟨hk,hh⟩,_⟩:=hw;have:=Ka hK;subst this;refine ba h λe he a w g hg=>?_
 have hv:=cj he.1 (x:=x) (by rw[ho];rfl);have hob:=gN hv;have hr:=aH hg hv;have hh':ob.hl=none\/nG p=true:=by
  rw[KY]at hh;exact hh.imp bS (λh=>h)
 obtain⟨b,off,cs',K',m',x',h3,h4,h5⟩:=hr.2 ob hob hk (hh'.imp (λh=>h) .inl);rw[h3]at hgp;cases hgp;obtain⟨fd,K2,r1,r2,r3,r4⟩:=lc hc.ty ht hf w b off;obtain⟨⟨m2,x2,r5⟩,r6⟩:=r4 m z;obtain⟨cs2,r7⟩:=r6 w (some (b,off)) cs';refine⟨.pointer (some ⟨b,off+fd.offset,none⟩),?_,?_⟩
 ·simp only[execOp,ho,h5,JC,r3,Js];rfl
 ·refine⟨hr.1,λo2 ho2 _ _=>?_⟩
  rw[hob]at ho2;cases ho2;refine⟨b,off+fd.offset,cs2,K2,m2,x2,?_,?_,rfl⟩
  ·rw[jk p _ h3];exact r5
  ·rw[jQ p _ h3 h4];exact r7
theorem uy {x:Operand}{t:Nat}{K:Kd}{z:K.T}{k1 k2:Kd}{q:Option Obj}(hc:cf c)(ho:o.op= .fieldAddr t x 0)(ht:au c.ty t=some (.st (.pair k1 k2)))
  (h:cz nt o.dst (.rp K z) k=some out):cc c B nt o [(.rp K z,q)] fr k out:=by
 refine ba h λe he a w g hg=>?_
 have hr:=aH hg (cj he.1 (x:=x) (by rw[ho];rfl));obtain⟨b,off,cs,e1,hb,hcs,hro⟩:=hr;refine⟨.pointer (some ⟨b,off,none⟩),?_,b,off,cs,rfl,hb,hcs,hro⟩;simp only[execOp,ho,e1,JC,rl hc ht w b off,Js];rfl
theorem wc {mds:List (Nat×Md)}{f:Nat}{as:Array Operand}{ts:Array Nat}{v v0:bF}{id n t:Nat}{ob:Obj}{x0:Operand}{k1 k2:Kd}(hM:lS c)(ho:o.op= .call {callee:=.value (.func f),args:=as,argTypes:=ts})
  (has:as.toList=[x0,.tmp t]) (hcond:(bK ob&&gy ob n [])=true) (hK:ob.K= .st (.pair k1 k2))
  (hk:kJ c nt mds o.dst fr f ts.toList [v0,(.pt id ob.log.length [.inn,.fst],some ob)] k=some out):cc c B nt o [v,v0,(.pt id n [],some ob)] fr k out:=by
 have hsg:∃ams,ams∈c.sg f:=by
  unfold kJ at hk
  split at hk
  ·cases hk
  ·rename_i ams h;exact⟨ams,Mm h⟩
 obtain⟨ams,hsg⟩:=hsg;obtain⟨fn,b1,b2,b3⟩:=hM.body f ams hsg;rw[Jm]at hcond;refine rj hM hk λe he a w g hg=>?_
 have hops:o.op.operands= #[.func f]++as:=by rw[ho];simp[Nq,MU]
 simp only[Mo,Kw,hops,LU,has,Kk,Jy,Kz,KO,Ky,and_true]at he;obtain⟨_,e1,e2⟩:=he;have hob:=gN e2;have hr:=aH hg e2;obtain⟨b,off,cs',K',m',x',h3,h4,h5⟩:=hr.2 ob hob hcond.2 (.inl (bS hcond.1));simp only[ck,Jq,JH]at h4;have hnew:SlotRep c.P g w e.obj (.pt id ob.log.length [.inn,.fst]) (a.eval (.tmp t)):=by
  refine⟨LogOk.now hob,λo2 ho2 _ _=>?_⟩;rw[hob]at ho2;cases ho2;obtain⟨K,m,x,bx,pr,lg,hl⟩:=ob;have hK':K= .st (.pair k1 k2):=hK;subst hK';refine⟨b,off,(g.cs id).take k1.size,k1,m.fst,x.1,?_,?_,h5⟩
  ·simp only[aS]
  ·simp only[ck,h4.1]
 obtain⟨N,nt',e',a',hsp,s1,s2⟩:=FM hg [((.pt id ob.log.length [.inn,.fst]:Slot),a.eval (.tmp t))] (λq hq=>by rw[JQ]at hq;rw[hq];exact hnew) (kK [x0]);have hoo:e'.obj=e.obj:=by funext i;show au e'.objs i=au e.objs i;rw[hsp.objs]
 have hview:∀s,e'.view s=e.view s:=by
  intro s;unfold Env.view;have hcap:e'.cap=e.cap:=by funext c;cases c<;>simp[Env.cap,hoo]
  split<;>simp only[hoo,hcap]
 have q0:=s1 x0 (λt' h=>by subst h;simp[kK]);have q1:=s2 0 _ rfl;rw[KH]at q1;refine⟨nt',e',a',hsp,[x0,.tmp N],?_,?_⟩
 ·simp only[Jy,Kz,q0.1,q1.1,hview,e1]
  have:e.view (.pt id ob.log.length [.inn,.fst])=(.pt id ob.log.length [.inn,.fst],some ob):=by
   show((O0 id ob.log.length [.inn,.fst],(e.obj id).join):bF)=_;rw[hob];rfl
  rw[this]
 ·rw[lV (fv:=[]) (cv:=[]) b1 b2 b3 ho rfl]
  simp only[has,Jy,Kz,Kg,Kv,q0.2,q1.2]
theorem zP {mds:List (Nat×Md)}{vs:List bF}(hc:cf c)(hM:lS c)(h:nW c nt mds o vs fr k=some out):cc c B nt o vs fr k out:=by
 unfold nW at h
 split at h
 ·split at h
  ·split at h
   ·split at h
    ·exact wa ‹_› ‹_› ‹_› ‹_› h
    ·cases h
   ·cases h
  ·cases h
 ·split at h
  ·split at h
   ·split at h
    ·exact yu hc ‹_› ‹_› ‹_› ‹_› h
    ·cases h
   ·cases h
  ·cases h
 ·split at h
  ·split at h
   ·split at h
    ·exact rk hc ‹_› ‹_› h
    ·cases h
   ·cases h
  split at h
  ·split at h
   ·split at h
    ·exact uw hc ‹_› ‹_› ‹_› ‹_› ‹_› ‹_› h
    ·cases h
   ·cases h
  ·cases h
 ·split at h
  ·split at h
   ·split at h
    ·exact mi hc ‹_› ‹_› ‹_› ‹_› h
    ·cases h
   ·cases h
  ·split at h
   ·rename_i ho _ hf0
    have:=JM hf0;subst this
    split at h
    ·split at h
     ·exact ux hc ho ‹_› ‹_› h
     ·cases h
    ·cases h
   ·cases h
 ·split at h
  ·exact uy hc ‹_› ‹_› h
  ·cases h
 ·split at h
  ·split at h
   ·exact wc hM ‹_› ‹_› ‹_› ‹_› h
   ·cases h
  ·cases h
 ·cases h
theorem yw {mds:List (Nat×Md)}{vs:List bF}(hc:cf c)(hM:lS c)(h:C1 c nt mds o vs fr k=some out):cc c B nt o vs fr k out:=by
 unfold C1 at h
 split at h
 ·exact zP hc hM h
 ·exact Eo hc hM h
theorem Cj (hc:cf c){mds:List (Nat×Md)}{vs:List bF}(h:oW mds o vs≠[]):∃(x:Operand) (id n:Nat) (p:bI) (o2:Obj) (W:Option Obj->Bool),
  Kw o=[x]/\vs=[(.pt id n p,some o2)]/\oW mds o vs=[(id,W)]/\W none=false/\(∀o3,IG mds o [(.pt id n p,some o3)]=true)/\
  ∀{fr:Bool},nW c nt mds o vs fr k=some out->∃s,W (some o2)=true/\cz nt o.dst s k=some out/\
   ∀o3,W (some o3)=true->∀(fr0:Bool) (k0:bW->Option bW) (out0:bW),cz nt o.dst s k0=some out0->cc c B nt o [(.pt id n p,some o3)] fr0 k0 out0:=by
 have h0:=h;unfold oW at h
 split at h
 ·rename_i t x id n s p o2 hop
  split at h
  ·rename_i hisw
   split at h
   ·rename_i K m z hg0
    refine⟨x,id,n,s::p,o2,AX K n o2.log.length (s::p),(by unfold Kw;rw[hop];rfl),rfl,?_,rfl,λo3=>?_,λ{fr} hx=>?_⟩
    ·unfold oW
     simp only[hop,hisw,if_true,hg0]
    ·unfold IG
     simp only[hop,hisw,Bool.or_true]
    ·have hX:nW c nt mds o [(.pt id n (s::p),some o2)] fr k=(match aS o2.K o2.m o2.x (s::p)with
       |some ⟨K,_,_⟩=>if(AX K n o2.log.length (s::p) (some o2)&&eS c t K)=true then cz nt o.dst (.al id o2.log.length (s::p)) k else none
       |none=>none):=by
      unfold nW;simp only[hop,hisw,if_true]
      rfl
     rw[hX,hg0]at hx;dsimp only at hx
     split at hx
     ·rename_i hcond
      have hcond2:=hcond;rw[Jm]at hcond;refine⟨.al id o2.log.length (s::p),hcond.1,hx,λo3 ho3 fr0 k0 out0 hk0=>?_⟩;exact rk hc hop (by rw[Jm];exact⟨ho3,hcond.2⟩) hk0
     ·cases hx
   ·exact bJ rfl h
  ·exact bJ rfl h
 ·rename_i t x f id n p o2 hop
  split at h
  ·rename_i hisw
   split at h
   ·rename_i K m z hg0
    refine⟨x,id,n,p,o2,y5 K n p,(by unfold Kw;rw[hop];rfl),rfl,?_,rfl,λo3=>?_,λ{fr} hx=>?_⟩
    ·unfold oW
     simp only[hop,hisw,if_true,hg0]
    ·unfold IG
     simp only[hop,hisw,Bool.true_or]
    ·have hX:nW c nt mds o [(.pt id n p,some o2)] fr k=(match au c.ty t,aS o2.K o2.m o2.x p with
       |some (.st k2),some ⟨K,_,_⟩=>if((Kd.st k2).beq K&&Ll f k2.nf&&y5 K n p (some o2))=true then cz nt o.dst (.pt id n (p++ .inn::fF k2 f)) k else none
       |_,_=>none):=by
      unfold nW;simp only[hop,hisw,if_true]
      rfl
     rw[hX,hg0]at hx;cases hl:au c.ty t with
     |none=>rw[hl]at hx;cases hx
     |some Kt=>
      rw[hl]at hx;cases Kt with
      |st k2=>
       dsimp only at hx
       split at hx
       ·rename_i hcond
        simp only[Jm]at hcond;refine⟨.pt id n (p++ .inn::fF k2 f),hcond.2,hx,λo3 ho3 fr0 k0 out0 hk0=>?_⟩;have ho3':=ho3;unfold y5 at ho3;simp only[Jm]at ho3;obtain⟨_,hk⟩:=ho3
        split at hk
        ·rename_i K3 m3 z3 hg3
         have:=Ka hk;subst this;exact mi hc hop hl hg3 (by simp only[Jm];exact⟨hcond.1,ho3'⟩) hk0
        ·cases hk
       ·cases hx
      |_=>cases hx
   ·exact bJ rfl h
  ·exact bJ rfl h
 ·exact bJ rfl h
end
variable {B:Base}
section
variable {c:fS} {nt:Nat} {Ω:Type} {out:Ω}
theorem oh {P:Program}{e:Env}{a:Act}{w:World}{g:Gh}(hg:InvG P B nt e a w g){t:Nat}{b:Bool}(h:e.get t= .v .bool b):a.tmps[t]? =some (.bool b):=by
 have h1:=hg.slots t;rw[h]at h1;obtain⟨cs,h2,h3⟩:=h1;rw[show cs=[.bool b]from h2]at h3;have h4:a.tmps.getD t undef= .bool b:=h3.1;rw[LK]at h4;cases hq:a.tmps[t]? with
 |none=>rw[hq]at h4;cases h4
 |some v=>rw[hq]at h4;simp only[LQ]at h4;rw[h4]
theorem Ck {P:Program}{e:Env}{a:Act}{w:World}{g:Gh}(hg:InvG P B nt e a w g){t:Nat}(h:e.get t= .un):a.tmps[t]? =some undef\/a.tmps[t]? =none:=by
 have h1:=hg.slots t;rw[h]at h1;have h4:a.tmps.getD t undef=undef:=h1;rw[LK]at h4;cases hq:a.tmps[t]? with
 |none=>exact .inr rfl
 |some v=>rw[hq]at h4;simp only[LQ]at h4;rw[h4];exact .inl rfl
theorem Inv.reslot {P:Program}{e:Env}{a:Act}{w:World}(h:Inv P B nt e a w){t:Nat}{b:Bool}(ht:e.get t= .v .bool b):Inv P B nt (e.put t (.v .bool b)) a w:=by
 obtain⟨g,hg⟩:=h;exact⟨g,hg.reslot (ht▸hg.slots t)⟩
theorem Inv.skip {P:Program}{e:Env}{a:Act}{w:World}(h:Inv P B nt e a w){d:Nat}(hd:d<nt):Inv P B nt (e.put d .un) (a.put (some d) undef) w:=by
 obtain⟨g,hg⟩:=h;exact⟨g,hg.put hd (s:=.un) rfl⟩
theorem uz (hc:cf c)(hM:lS c){mds:List (Nat×Md)}{ops:Array Oper}:∀(l:List Nat) (rest:List Oper) (e:Env) (k:Env->Option Ω),l.map (λi=>ops[i]?)=rest.map some->qo c nt mds ops.toList rest e k=some out->
  ∃e',k e'=some out/\∀a w,Inv c.P B nt e a w->∀Q:Exit->Act->World->Prop,(∀a' w',Inv c.P B nt e' a' w'->Q .normal a' w')->wpOps c.P ops Q l a w
 |[],rest,e,k,hl,h=>by
  cases rest with
  |cons _ _=>simp at hl
  |nil=>exact⟨e,h,λa w hi Q hQ=>hQ a w hi⟩
 |i::l,rest,e,k,hl,h=>by
  cases rest with
  |nil=>simp at hl
  |cons o rest=>
   simp only[Jy,Ky]at hl;unfold qo at h;have run:∀e1:Env,qn c nt mds o e1 (λd=>qo c nt mds ops.toList rest (e1.apply d) k)=some out->∃e',k e'=some out/\∀a w,Inv c.P B nt e1 a w->∀Q:Exit->Act->World->Prop,(∀a' w',Inv c.P B nt e' a' w'->Q .normal a' w')->
     o.wp c.P a w (wpOps c.P ops Q l) Q:=by
    intro e1 h1;obtain⟨d,h2,h3⟩:=yw (B:=B) hc hM h1;obtain⟨e',h4,h5⟩:=uz hc hM l rest (e1.apply d) k hl.2 h2;exact⟨e',h4,λa w hi Q hQ=>h3 e1 ⟨rfl,rfl⟩ a w hi _ _ λa' w' hi'=>h5 a' w' hi' Q hQ⟩
   have skip:∀e1:Env,qo c nt mds ops.toList rest e1 k=some out->∃e',k e'=some out/\∀a w,Inv c.P B nt e1 a w->∀Q:Exit->Act->World->Prop,(∀a' w',Inv c.P B nt e' a' w'->Q .normal a' w')->wpOps c.P ops Q l a w:=
    λe1 h1=>uz hc hM l rest e1 k hl.2 h1
   split at h
   ·rename_i hgd
    obtain⟨e',h4,h5⟩:=run e h;refine⟨e',h4,λa w hi Q hQ=>?_⟩;simp only[wpOps,hl.1,KW,hgd,if_true];exact .inl (h5 a w hi Q hQ)
   ·rename_i j want hgd
    split at h
    ·cases h
    ·rename_i t ht
     have hyield:∀tmps:Array Value,yielded ops tmps j=match tmps[t]? with|some (.bool b)=>some b|_=>none:=by
      intro tmps;have:(ops[j]?).bind (·.dst)=some t:=by
       unfold vq at ht
       split at ht
       ·rename_i o' ho'
        have:ops[j]? =some o':=by simpa using ho'
        rw[this];exact ht
       ·cases ht
      unfold yielded;rw[this]
      rfl
     split at h
     ·rename_i b hb
      split at h
      ·rename_i hw
       subst hw;obtain⟨e',h4,h5⟩:=run _ h;refine⟨e',h4,λa w hi Q hQ=>?_⟩;have hy:yielded ops a.tmps j=some b:=by obtain⟨g,hg⟩:=hi;rw[hyield,oh hg hb]
       simp only[wpOps,hl.1,KW,hgd,hy,beq_self_eq_true,if_true];exact .inl (h5 a w (hi.reslot hb) Q hQ)
      ·rename_i hw
       have hnb:(some b==some want)=false:=by simp[hw]
       have hbn:b= !want:=by cases b<;>cases want<;>simp_all
       split at h
       ·rename_i d hd
        split at h
        ·rename_i hlt
         obtain⟨e',h4,h5⟩:=skip _ h;refine⟨e',h4,λa w hi Q hQ=>?_⟩;have hy:yielded ops a.tmps j=some b:=by obtain⟨g,hg⟩:=hi;rw[hyield,oh hg hb]
         simp only[wpOps,hl.1,KW,hgd,hy,hnb,Jt,if_false,hd];exact h5 _ _ ((hbn▸hi.reslot hb:Inv c.P B nt (e.put t (.v .bool (!want))) a w).skip (JV hlt)) Q hQ
        ·cases h
       ·rename_i hd
        obtain⟨e',h4,h5⟩:=skip _ h;refine⟨e',h4,λa w hi Q hQ=>?_⟩;have hy:yielded ops a.tmps j=some b:=by obtain⟨g,hg⟩:=hi;rw[hyield,oh hg hb]
        simp only[wpOps,hl.1,KW,hgd,hy,hnb,Jt,if_false,hd,rh];exact h5 _ _ (hbn▸hi.reslot hb) Q hQ
     ·rename_i hun
      have hy:∀{a:Act} {w:World},Inv c.P B nt e a w->yielded ops a.tmps j=none:=by
       rintro a w ⟨g,hg⟩;rw[hyield];rcases Ck hg hun with h|h<;>rw[h]<;>rfl
      have hnb:((none:Option Bool)==some want)=false:=rfl
      split at h
      ·rename_i d hd
       split at h
       ·rename_i hlt
        obtain⟨e',h4,h5⟩:=skip _ h;refine⟨e',h4,λa w hi Q hQ=>?_⟩;simp only[wpOps,hl.1,KW,hgd,hy hi,hnb,Jt,if_false,hd];exact h5 _ _ (hi.skip (JV hlt)) Q hQ
       ·cases h
      ·rename_i hd
       obtain⟨e',h4,h5⟩:=skip _ h;refine⟨e',h4,λa w hi Q hQ=>?_⟩;simp only[wpOps,hl.1,KW,hgd,hy hi,hnb,Jt,if_false,hd,rh];exact h5 _ _ hi Q hQ
     ·cases h
theorem B6 {ops:Array Oper}:(LI ops.size).map (λi=>ops[i]?)=ops.toList.map some:=by
 apply List.ext_getElem
 ·simp
 ·intro i h1 h2
  have h3:i<ops.size:=by simpa using h1
  simp[h3]
end
variable {B:Base}
def Slot.plain:Slot->Bool
 | .al _ _ _=>false
 | .pt _ _ _=>false
 | .tup _=>false
 | .dead=>false
 | .fv _ _ _=>false
 | .fvr _ _ _=>false
 | .sub _ _ _ _ _=>false
 |_=>true
def CapKept (e:Env)(R:List (Nat×Nat))(ren:List (Nat×Nat)):List Cap->List Cap->Prop
 |[],l=>l=[]
 | .rp K x::c,l=>∃r,l= .rp K x::r/\CapKept e R ren c r
 | .pt id n::c,l=>∃r o j,l= .pt j 0::r/\e.obj id=some (some o)/\o.hl=none/\gy o n []=true/\((id,j)∈R\/ly ren id=some j)/\CapKept e R ren c r
theorem CapKept.imp {e:Env}{R R' ren ren':List (Nat×Nat)}(h:∀id j,(id,j)∈R\/ly ren id=some j->(id,j)∈R'\/ly ren' id=some j):∀{c l:List Cap},CapKept e R ren c l->CapKept e R' ren' c l
 |[],_,k=>k
 | .rp _ _::_,_,⟨r,e1,k⟩=>⟨r,e1,CapKept.imp h k⟩
 | .pt _ _::_,_,⟨r,o,j,e1,k1,k2,k3,k4,k⟩=>⟨r,o,j,e1,k1,k2,k3,h _ _ k4,CapKept.imp h k⟩
def GW (e:Env)(R:List (Nat×Nat))(ren:List (Nat×Nat))(s:Nat)(x:Slot):Prop:=
 (x=e.get s/\x.plain=true)\/
 (∃id n p o j,e.get s= .al id n p/\x= .al j 0 p/\e.obj id=some (some o)/\(o.hl=none\/∃off,nu o p=some off)/\fu o n p=true/\((id,j)∈R\/ly ren id=some j))\/
 (∃id n p o j,e.get s= .pt id n p/\x= .pt j 0 p/\e.obj id=some (some o)/\o.hl=none/\gy o n p=true/\((id,j)∈R\/ly ren id=some j))\/
 (∃f fs caps cs,e.get s= .fv f fs caps/\x= .fv f fs cs/\CapKept e R ren caps cs)
def qz (e:Env)(s id:Nat):Prop:=∃n p,e.get s= .al id n p\/e.get s= .pt id n p
theorem we {e:Env}{s id id':Nat}(h:qz e s id)(h':qz e s id'):id=id':=by
 obtain⟨n,p,h⟩:=h;obtain⟨n',p',h'⟩:=h';rcases h with h|h<;>rcases h' with h'|h'<;>rw[h]at h'<;>cases h'<;>rfl
theorem rm {e:Env}{id:Nat}{o:Obj}(h:(e.obj id).join=some o):e.obj id=some (some o):=by
 cases hq:e.obj id with
 |none=>rw[hq]at h;cases h
 |some r=>rw[hq]at h;cases r with
  |none=>cases h
  |some o'=>cases h;rfl
structure KeepOk (e:Env) (l:List Nat) (ren:List (Nat×Nat)) (z:List (Nat×Slot)×List (Nat×Option Obj)) (R:List (Nat×Nat)):Prop where
 objs:∀j r,(j,r)∈z.2->∃id o,(id,j)∈R/\e.obj id=some (some o)/\r=some {o with log:=[]}
 back:∀q,q∈R->∃o,(q.2,some {o with log:=[]})∈z.2/\e.obj q.1=some (some o)/\(o.hl=none\/∃p off,nu o p=some off)/\(o.par=true->q.2=q.1)/\ly ren q.1=none/\qz e q.2 q.1
 ids:∀q q',q∈R->q'∈R->q.1=q'.1->q=q'
 slots:∀s x,(s,x)∈z.1->GW e R ren s x
theorem KeepOk.id_ {e:Env}{l:List Nat}{s:Nat}{ren:List (Nat×Nat)}{z:List (Nat×Slot)×List (Nat×Option Obj)}{R:List (Nat×Nat)}(h:KeepOk e l ren z R):KeepOk e (s::l) ren z R:=⟨h.objs,h.back,h.ids,h.slots⟩
theorem KeepOk.slot {e:Env}{l:List Nat}{s:Nat}{x:Slot}{ren:List (Nat×Nat)}{z:List (Nat×Slot)×List (Nat×Option Obj)}{R:List (Nat×Nat)}(h:KeepOk e l ren z R)(hk:GW e R ren s x):
  KeepOk e (s::l) ren ((s,x)::z.1,z.2) R:=
 ⟨h.objs,h.back,h.ids,λs' x' hm=>by
  rcases JJ.1 hm with hm|hm
  ·cases hm;exact hk
  ·exact h.slots s' x' hm⟩
theorem KeepOk.new {e:Env}{l:List Nat}{s id:Nat}{x:Slot}{o:Obj}{ren:List (Nat×Nat)}{z:List (Nat×Slot)×List (Nat×Option Obj)}{R:List (Nat×Nat)}(h:KeepOk e l ((id,s)::ren) z R)(hren:ly ren id=none)
  (ho:e.obj id=some (some o)) (hh:o.hl=none\/∃p off,nu o p=some off) (hp:o.par=true->s=id) (ha:qz e s id) (hk:GW e ((id,s)::R) ren s x):
  KeepOk e (s::l) ren ((s,x)::z.1,(s,some {o with log:=[]})::z.2) ((id,s)::R):=by
 have conv:∀{i j:Nat},ly ((id,s)::ren) i=some j->(i=id/\j=s)\/ly ren i=some j:=by
  intro i j hr;unfold ly at hr
  split at hr
  ·rename_i hb
   cases hr;exact .inl ⟨(JM hb).symm,rfl⟩
  ·exact .inr hr
 have convn:∀{i:Nat},ly ((id,s)::ren) i=none->i≠id/\ly ren i=none:=by
  intro i hr;unfold ly at hr
  split at hr
  ·cases hr
  ·rename_i hb
   exact⟨λe1=>hb (by subst e1;exact MH _),hr⟩
 refine⟨λj r hm=>?_,λq hq=>?_,λq q' hq hq' he=>?_,λs' x' hm=>?_⟩
 ·rcases JJ.1 hm with hm|hm
  ·cases hm;exact⟨id,o,JA,ho,rfl⟩
  ·obtain⟨id',o',h1,h2,h3⟩:=h.objs j r hm
   exact⟨id',o',JE _ h1,h2,h3⟩
 ·rcases JJ.1 hq with rfl|hq
  ·exact⟨o,JA,ho,hh,hp,hren,ha⟩
  ·obtain⟨o',h1,h2,h3,h4,h5,h6⟩:=h.back q hq
   exact⟨o',JE _ h1,h2,h3,h4,(convn h5).2,h6⟩
 ·rcases JJ.1 hq with rfl|hq<;>rcases JJ.1 hq' with rfl|hq'
  ·rfl
  ·obtain⟨_,_,_,_,_,h5,_⟩:=h.back q' hq'
   exact bJ he.symm (convn h5).1
  ·obtain⟨_,_,_,_,_,h5,_⟩:=h.back q hq
   exact bJ he (convn h5).1
  ·exact h.ids q q' hq hq' he
 ·rcases JJ.1 hm with hm|hm
  ·cases hm;exact hk
  ·rcases h.slots s' x' hm with h1|⟨i,n,p,o',j,a1,a2,a3,a4,a5,a6⟩|⟨i,n,p,o',j,a1,a2,a3,a4,a5,a6⟩|⟨f,fs,caps,cs,a1,a2,a3⟩
   ·exact .inl h1
   ·refine .inr (.inl ⟨i,n,p,o',j,a1,a2,a3,a4,a5,?_⟩)
    rcases a6 with a6|a6
    ·exact .inl (JE _ a6)
    ·rcases conv a6 with⟨rfl,rfl⟩|a6
     ·exact .inl JA
     ·exact .inr a6
   ·refine .inr (.inr (.inl ⟨i,n,p,o',j,a1,a2,a3,a4,a5,?_⟩))
    rcases a6 with a6|a6
    ·exact .inl (JE _ a6)
    ·rcases conv a6 with⟨rfl,rfl⟩|a6
     ·exact .inl JA
     ·exact .inr a6
   ·refine .inr (.inr (.inr ⟨f,fs,caps,cs,a1,a2,a3.imp λi j a6=>?_⟩))
    rcases a6 with a6|a6
    ·exact .inl (JE _ a6)
    ·rcases conv a6 with⟨rfl,rfl⟩|a6
     ·exact .inl JA
     ·exact .inr a6
theorem mK {e:Env}{ren R:List (Nat×Nat)}:∀{c l:List Cap},kL e ren c=some l->CapKept e R ren c l
 |[],l,h=>by simp only[kL,Jq]at h;exact h.symm
 | .rp K x::c,l,h=>by
  unfold kL at h
  split at h
  ·cases h;exact⟨_,rfl,mK ‹_›⟩
  ·cases h
 | .pt id n::c,l,h=>by
  unfold kL at h
  split at h
  ·rename_i o j r h1 h2 h3
   split at h
   ·rename_i hc
    rw[Jm]at hc;cases h;exact⟨_,o,j,rfl,rm h1,bS hc.1,hc.2,.inr h2,mK h3⟩
   ·cases h
  ·cases h
theorem fI (e:Env):∀(l:List Nat) (ren:List (Nat×Nat)),∃R,KeepOk e l ren (jS e l ren) R
 |[],ren=>⟨[],λj r h=>by simp[jS]at h,λq h=>by simp at h,λq q' h=>by simp at h,λs x h=>by simp[jS]at h⟩
 |s::l,ren=>by
  unfold jS
  split
  ·rename_i id n p hs
   split
   ·rename_i o ho
    have ho':=rm ho
    split
    ·rename_i hc
     rw[Jm,KY]at hc;have hh1:o.hl=none\/∃off,nu o p=some off:=by
      rcases hc.1 with h|h
      ·exact .inl (bS h)
      ·exact .inr (Option.isSome_iff_exists.1 h)
     have hh2:o.hl=none\/∃p off,nu o p=some off:=hh1.imp (λh=>h) (λ⟨off,h⟩=>⟨p,off,h⟩)
     split
     ·rename_i j hj
      obtain⟨R,h⟩:=fI e l ren;exact⟨R,h.slot (.inr (.inl ⟨id,n,p,o,j,hs,rfl,ho',hh1,hc.2,.inr hj⟩))⟩
     ·rename_i hj
      split
      ·rename_i hp
       obtain⟨R,h⟩:=fI e l ((id,s)::ren);refine⟨(id,s)::R,h.new hj ho' hh2 (λhpar=>?_) ⟨n,p,.inl hs⟩ (.inr (.inl ⟨id,n,p,o,s,hs,rfl,ho',hh1,hc.2,.inl JA⟩))⟩;rw[hpar]at hp;exact JM (by simpa using hp)
      ·obtain⟨R,h⟩:=fI e l ren
       exact⟨R,h.id_⟩
    ·obtain⟨R,h⟩:=fI e l ren
     exact⟨R,h.id_⟩
   ·obtain⟨R,h⟩:=fI e l ren
    exact⟨R,h.id_⟩
  ·rename_i id n p hs
   split
   ·rename_i o ho
    have ho':=rm ho
    split
    ·rename_i hc
     rw[Jm]at hc
     split
     ·rename_i j hj
      obtain⟨R,h⟩:=fI e l ren;exact⟨R,h.slot (.inr (.inr (.inl ⟨id,n,p,o,j,hs,rfl,ho',bS hc.1,hc.2,.inr hj⟩)))⟩
     ·rename_i hj
      split
      ·rename_i hp
       obtain⟨R,h⟩:=fI e l ((id,s)::ren);refine⟨(id,s)::R,h.new hj ho' (.inl (bS hc.1)) (λhpar=>?_) ⟨n,p,.inr hs⟩ (.inr (.inr (.inl ⟨id,n,p,o,s,hs,rfl,ho',bS hc.1,hc.2,.inl JA⟩)))⟩;rw[hpar]at hp;exact JM (by simpa using hp)
      ·obtain⟨R,h⟩:=fI e l ren
       exact⟨R,h.id_⟩
    ·obtain⟨R,h⟩:=fI e l ren
     exact⟨R,h.id_⟩
   ·obtain⟨R,h⟩:=fI e l ren
    exact⟨R,h.id_⟩
  ·rename_i f fs caps hs
   obtain⟨R,h⟩:=fI e l ren
   split
   ·rename_i cs hcs
    exact⟨R,h.slot (.inr (.inr (.inr ⟨f,fs,caps,cs,hs,rfl,mK hcs⟩)))⟩
   ·exact⟨R,h.id_⟩
  ·obtain⟨R,h⟩:=fI e l ren
   exact⟨R,h.id_⟩
  ·obtain⟨R,h⟩:=fI e l ren
   exact⟨R,h.id_⟩
  ·obtain⟨R,h⟩:=fI e l ren
   exact⟨R,h.id_⟩
  ·obtain⟨R,h⟩:=fI e l ren
   exact⟨R,h.id_⟩
  ·rename_i x h1 h2 h5 h6 h7 h3 h4
   obtain⟨R,h⟩:=fI e l ren;refine⟨R,h.slot (.inl ⟨rfl,?_⟩)⟩;cases hx:e.get s with
   |al id n p=>exact bJ hx (h1 id n p)
   |pt id n p=>exact bJ hx (h2 id n p)
   |tup l=>exact bJ hx (h3 l)
   |dead=>exact bJ hx h4
   |fv f fs l=>exact bJ hx (h5 f fs l)
   |fvr f fs l=>exact bJ hx (h6 f fs l)
   |sub e' id n l r=>exact bJ hx (h7 e' id n l r)
   |_=>rfl
theorem B7 {P:Program}{g g':Gh}{w:World}{ob ob':Nat->Option (Option Obj)}(hS:∀b,g.S b->g'.S b){s:Slot}{v:Value}(hp:s.plain=true)(h:SlotRep P g w ob s v):SlotRep P g' w ob' s v:=by
 cases s with
 |al _ _ _=>cases hp
 |pt _ _ _=>cases hp
 |tup _=>cases hp
 |dead=>cases hp
 |un=>exact h
 |nils=>exact h
 |v K x=>obtain⟨cs,h1,h2⟩:=h;exact⟨cs,h1.mono hS (λ_ _ _ _ h=>h),h2⟩
 |rp K x=>exact PtrRO.mono hS (λ_ _ _ _ h=>h) h
 |fv=>cases hp
 |fvr=>cases hp
 |sub=>cases hp
 |clo Ks Kr f=>exact CloRep.mono hS (λ_ _ _ _ h=>h) h
theorem rn {P:Program}{nt:Nat}{e:Env}{a:Act}{w:World}(h:Inv P B nt e a w)(live:List Nat):Inv P B nt (jH e live) a w:=by
 obtain⟨g,hg⟩:=h;obtain⟨R,hk⟩:=fI e live [];have uniq:∀q q',q∈R->q'∈R->q.2=q'.2->q=q':=by
  intro q q' h1 h2 h3;obtain⟨_,_,_,_,_,_,a1⟩:=hk.back q h1;obtain⟨_,_,_,_,_,_,a2⟩:=hk.back q' h2;rw[h3]at a1;exact hk.ids q q' h1 h2 (we a1 a2)
 let bk:Nat->Option Nat:=λj=>au (R.map λq=>(q.2,q.1)) j
 have bk1:∀{j id:Nat},bk j=some id->(id,j)∈R:=by
  intro j id hb;obtain⟨q,h1,h2⟩:=KG.1 (jY hb);cases h2;exact h1
 have bk2:∀{j id:Nat},(id,j)∈R->bk j=some id:=by
  intro j id hm;cases hb:bk j with
  |some id'=>
   have:=uniq _ _ hm (bk1 hb) rfl;cases this
   rfl
  |none=>
   exfalso
   have:∀(R:List (Nat×Nat)),(id,j)∈R->au (R.map λq=>(q.2,q.1)) j≠none:=by
    intro R
    induction R with
    |nil=>intro h;cases h
    |cons q R ih=>
     intro h hn;rw[Jy]at hn
     by_cases hq:q.2=j
     ·rw[hq,aQ]at hn;cases hn
     ·rw[aX hq]at hn
      rcases JJ.1 h with h|h
      ·rw[← h]at hq;exact hq rfl
      ·exact ih h hn
   exact this R hm hb
 let g':Gh:={S:=g.S,F:=λj b=>match bk j with|some id=>g.F id b|none=>False,pl:=λj=>match bk j with|some id=>g.pl id|none=>none,cs:=λj=>match bk j with|some id=>g.cs id|none=>[]}
 have Fg:∀{j b:Nat},g'.F j b->∃id,bk j=some id/\g.F id b:=by
  intro j b hF;show∃id,bk j=some id/\g.F id b
  have hF:(match bk j with|some id=>g.F id b|none=>False):=hF
  split at hF
  ·exact⟨_,by assumption,hF⟩
  ·exact hF.elim
 have plg:∀{j:Nat} {q:Nat×Nat},g'.pl j=some q->∃id,bk j=some id/\g.pl id=some q:=by
  intro j q hp;have hp:(match bk j with|some id=>g.pl id|none=>none)=some q:=hp
  split at hp
  ·exact⟨_,by assumption,hp⟩
  ·cases hp
 have inj:∀{i j id:Nat},bk i=some id->bk j=some id->i=j:=by
  intro i j id h1 h2;have:=hk.ids _ _ (bk1 h1) (bk1 h2) rfl;cases this
  rfl
 have obj':∀{j:Nat} {r:Option Obj},(jH e live).obj j=some r->∃id o,bk j=some id/\e.obj id=some (some o)/\r=some {o with log:=[]}/\(o.par=true->j=id):=by
  intro j r hr;have hm:(j,r)∈(jS e live []).2:=jY hr;obtain⟨id,o,h1,h2,h3⟩:=hk.objs j r hm;obtain⟨o',_,h4,h5,h6,_⟩:=hk.back _ h1;rw[h2]at h4;cases h4;exact⟨id,o,bk2 h1,h2,h3,h6⟩
 have known:∀{id j:Nat},(id,j)∈R->∃r,(jH e live).obj j=some r:=by
  intro id j hm;obtain⟨o,h1,_⟩:=hk.back _ hm;have:∀(l:List (Nat×Option Obj)),(j,some {o with log:=[]})∈l->∃r,au l j=some r:=by
   intro l
   induction l with
   |nil=>intro h;cases h
   |cons q l ih=>
    intro h
    by_cases hq:q.1=j
    ·exact⟨q.2,by rw[← hq];exact aQ _ _ _⟩
    ·obtain⟨r,hr⟩:=ih (by
      rcases JJ.1 h with h|h
      ·rw[← h]at hq;exact bJ rfl hq
      ·exact h)
     exact⟨r,by rw[aX hq];exact hr⟩
  exact this _ h1
 refine⟨g',hg.glob,hg.tmps,hg.defers,hg.ext,hg.Ssz,λj b hF=>?_,hg.S0,hg.Sb,λj b hF=>?_,λj b hF hS=>?_,λi j b hne h1 h2=>?_,λi b off hp=>?_,λi hno=>?_,λi o' ho'=>?_,λi=>?_⟩
 ·obtain⟨id,_,h2⟩:=Fg hF;exact hg.Fsz id b h2
 ·obtain⟨id,_,h2⟩:=Fg hF;exact hg.Fb id b h2
 ·obtain⟨id,_,h2⟩:=Fg hF;exact hg.FS id b h2 hS
 ·obtain⟨id,k1,k2⟩:=Fg h1
  obtain⟨id',k3,k4⟩:=Fg h2;exact hg.FF id id' b (λe1=>hne (inj k1 (e1▸k3))) k2 k4
 ·obtain⟨id,k1,k2⟩:=plg hp
  obtain⟨h3,h4,h5,h6⟩:=hg.plz id b off k2;refine⟨h3,h4,λj hF=>?_,λj off' hp'=>?_⟩
  ·obtain⟨id',_,k4⟩:=Fg hF
   exact h5 id' k4
  ·obtain⟨id',k3,k4⟩:=plg hp'
   have:=h6 id' off' k4;subst this;exact inj k1 k3
 ·have hb:bk i=none:=by
   cases hq:bk i with
   |none=>rfl
   |some id=>
    obtain⟨r,hr⟩:=known (bk1 hq);obtain⟨id',o,_,_,rfl,_⟩:=obj' hr;exact bJ hr (hno _)
  refine⟨λb hF=>?_,?_⟩
  ·obtain⟨id,h1,_⟩:=Fg hF
   rw[hb]at h1;cases h1
  ·show(match bk i with|some id=>g.pl id|none=>none)=none
   rw[hb]
 ·obtain⟨id,o,h1,h2,h3,h5⟩:=obj' ho'
  cases h3;have O:=hg.objs id o h2;have gF:g'.F i=g.F id:=by funext b;show(match bk i with|some id=>g.F id b|none=>False)=_;rw[h1]
  have gp:g'.pl i=g.pl id:=by show(match bk i with|some id=>g.pl id|none=>none)=_;rw[h1]
  have gc:g'.cs i=g.cs id:=by show(match bk i with|some id=>g.cs id|none=>[])=_;rw[h1]
  refine⟨λhh=>by rw[gF,gp,gc];exact O.own hh,(λp hp hq=>by rw[gF,gp,gc];exact O.hole p hp hq),(by rw[gp];exact O.box),(λhp=>?_),(λb off hp=>O.plx b off (by rw[← gp];exact hp)),λq off hq=>by rw[gF,gp,gc];exact O.que q off hq⟩;rw[gp,gc];have:=h5 hp;subst this;exact O.par hp
 ·cases hl:au (jS e live []).1 i with
  |none=>
   have:(jH e live).get i= .dead:=by show(match au (jS e live []).1 i with|some s=>s|none=>Slot.dead)=_;rw[hl]
   rw[this]
   trivial
  |some x=>
   have hx:(jH e live).get i=x:=by show(match au (jS e live []).1 i with|some s=>s|none=>Slot.dead)=_;rw[hl]
   rw[hx];have hs:=hg.slots i;have hpt:∀{id n:Nat} {p:bI} {o:Obj} {j:Nat} {v:Value},nx g w e.obj id n p v->e.obj id=some (some o)->o.hl=none->gy o n p=true->(id,j)∈R->nx g' w (jH e live).obj j 0 p v:=by
    intro id n p o j v hs a3 a4 a5 a6;obtain⟨b,off,c1,K1,m1,x1,b1,b2,b3⟩:=hs.2 o a3 a5 (.inl a4);obtain⟨r,hr⟩:=known a6;refine⟨⟨by rw[hr];simp,λ_ _=>JF _⟩,λo2 ho2 _ _=>?_⟩;obtain⟨id',o',k1,k2,k3,_⟩:=obj' ho2;rw[bk2 a6]at k1;cases k1;rw[a3]at k2;cases k2;cases k3;refine⟨b,off,c1,K1,m1,x1,b1,?_,b3⟩;have gp:g'.pl j=g.pl id:=by show(match bk j with|some id=>g.pl id|none=>none)=_;rw[bk2 a6]
    have gc:g'.cs j=g.cs id:=by show(match bk j with|some id=>g.cs id|none=>[])=_;rw[bk2 a6]
    rw[gp,gc];exact b2
   rcases hk.slots i x (jY hl)with⟨rfl,hp⟩|⟨id,n,p,o,j,a1,rfl,a3,a4,a5,a6⟩|⟨id,n,p,o,j,a1,rfl,a3,a4,a5,a6⟩|⟨f,fs,caps,cs,a1,rfl,a3⟩
   ·exact B7 (g:=g) (g':=g') (ob:=e.obj) (λ_ h=>h) hp hs
   ·have a6:(id,j)∈R:=by
     rcases a6 with h|h
     ·exact h
     ·simp[ly]at h
    rw[a1]at hs;obtain⟨q,c1,K1,m1,x1,b1,b2,b3⟩:=hs.2 o a3 a5 (a4.imp (λh=>h) (λ⟨off,h⟩=>(mz h).1));obtain⟨r,hr⟩:=known a6;refine⟨⟨by rw[hr];simp,λ_ _=>JF _⟩,λo2 ho2 _ _=>?_⟩;obtain⟨id',o',k1,k2,k3,_⟩:=obj' ho2;rw[bk2 a6]at k1;cases k1;rw[a3]at k2;cases k2;cases k3;refine⟨q,c1,K1,m1,x1,b1,?_,b3⟩;have gp:g'.pl j=g.pl id:=by show(match bk j with|some id=>g.pl id|none=>none)=_;rw[bk2 a6]
    have gc:g'.cs j=g.cs id:=by show(match bk j with|some id=>g.cs id|none=>[])=_;rw[bk2 a6]
    rw[gp,gc];exact b2
   ·have a6:(id,j)∈R:=by
     rcases a6 with h|h
     ·exact h
     ·simp[ly]at h
    rw[a1]at hs;exact hpt hs a3 a4 a5 a6
   ·rw[a1]at hs
    obtain⟨fv,cv,e1,h1,h2⟩:=hs;refine⟨fv,cv,e1,h1,?_⟩;have:∀(caps cs:List Cap) (cv:List Value),CapKept e R [] caps cs->CapsOk g w e.obj caps cv->CapsOk g' w (jH e live).obj cs cv:=by
     intro caps
     induction caps with
     |nil=>intro cs cv hk hc;rw[show cs=[]from hk];exact hc
     |cons c caps ih=>
      intro cs cv hk hc;obtain⟨v,r,rfl,c1,c2⟩:=hc;cases c with
      |rp K x=>
       obtain⟨r',rfl,k⟩:=hk;exact⟨v,r,rfl,c1,ih _ _ k c2⟩
      |pt id n=>
       obtain⟨r',o,j,rfl,k1,k2,k3,k4,k⟩:=hk;refine⟨v,r,rfl,?_,ih _ _ k c2⟩;have k4:(id,j)∈R:=by
        rcases k4 with h|h
        ·exact h
        ·simp[ly]at h
       exact hpt c1 k1 k2 k3 k4
    exact this _ _ _ a3 h2
variable {B:Base}
theorem InvG.congr {P:Program}{nt:Nat}{e e':Env}{a:Act}{w:World}{g:Gh}(h:InvG P B nt e a w g)(h1:∀i,e'.get i=e.get i)(h2:e'.obj=e.obj):InvG P B nt e' a w g:=
 ⟨h.glob,h.tmps,h.defers,h.ext,h.Ssz,h.Fsz,h.S0,h.Sb,h.Fb,h.FS,h.FF,h.plz,λi hi=>h.absent i (by rw[← h2];exact hi),λi o ho=>h.objs i o (by rw[← h2];exact ho),λi=>by rw[h1,h2];exact h.slots i⟩
theorem Inv.congr {P:Program}{nt:Nat}{e e':Env}{a:Act}{w:World}(h:Inv P B nt e a w)(h1:∀i,au e'.slots i=au e.slots i)(h2:∀i,au e'.objs i=au e.objs i):Inv P B nt e' a w:=by
 obtain⟨g,hg⟩:=h;exact⟨g,hg.congr (λi=>by unfold M7;rw[h1]) (by funext i;exact h2 i)⟩
def uA (e:Env)(L:List (mr×bW)):Env:=L.foldl (λe q=>e.apply q.2) e
def mo (D:Nat->bW)(e:Env)(l:List Nat):Env:=l.foldl (λe i=>e.apply (D i)) e
theorem fe {n:Nat}:∀{l:List Nat},kZ n l=true↔n∈l
 |[]=>by simp[kZ]
 |m::l=>by
  simp only[kZ,KY,JJ,fe (l:=l)];refine or_congr ⟨λh=>(JM h).symm,λh=>by subst h;exact MH _⟩ Iff.rfl
theorem jZ:∀{l r:List Nat},qO l r=false->∀x,x∈l->x∉r
 |[],_,_,x,hx=>by cases hx
 |a::l,r,h,x,hx=>by
  simp only[qO,K8]at h;rcases JJ.1 hx with rfl|hx
  ·intro hr
   have:=fe.2 hr;rw[h.1]at this;cases this
  ·exact jZ h.2 x hx
theorem mL {α:Type}(pe:Env->List (Nat×α))(pd:bW->List (Nat×α))(hp:∀e d,pe (e.apply d)=pd d++pe e)(D:Nat->bW)(κ:Nat):∀(l:List Nat) (e e':Env),au (pe e) κ=au (pe e') κ->
  au (pe (mo D e l)) κ=au (pe (mo D e' (l.filter λi=>kZ κ ((pd (D i)).map (·.1))))) κ
 |[],e,e',h=>h
 |i::l,e,e',h=>by
  have key:au (pe (e.apply (D i))) κ=match au (pd (D i)) κ with|some x=>some x|none=>au (pe e) κ:=by
   rw[hp,eE];cases au (pd (D i)) κ<;>rfl
  by_cases hw:kZ κ ((pd (D i)).map (·.1))=true
  ·simp only[List.filter_cons,hw,if_true]
   refine mL pe pd hp D κ l _ _ ?_;rw[key,hp,eE,h];cases au (pd (D i)) κ<;>rfl
  ·simp only[List.filter_cons,hw]
   refine mL pe pd hp D κ l _ _ ?_;rw[key,tm (λhm=>hw (fe.2 hm))];exact h
structure HW (c:fS) (B:Base) (nt:Nat) (ops:Array Oper) (i:Nat) (r:mr) (d:bW) (e0:Env):Prop where
 ok:∀e':Env,(∀κ,κ∈r.rs->au e'.slots κ=au e0.slots κ)->(∀κ,κ∈r.ro->au e'.objs κ=au e0.objs κ)->(∀q,q∈r.wk->∃o,au e'.objs q.1=some o/\q.2 o=true)->∀a w,Inv c.P B nt e' a w->∀(K:Act->World->Prop) (Q:Exit->Act->World->Prop),
  (∀a' w',Inv c.P B nt (e'.apply d) a' w'->K a' w')->wpOp c.P ops Q i K a w
 ws:r.ws=d.slots.map (·.1)
 wo:r.wo=d.objs.map (·.1)
 wb:r.wb=d.objs
 wk:∀q,q∈r.wk->∃o,au e0.objs q.1=some o/\q.2 o=true
theorem B8 (e e':Env)(v:Value):e.opd (.const v)=e'.opd (.const v):=by
 cases v with
 |slice A n cap=>
  cases A with
  |some _=>rfl
  |none=>
   cases n with
   |zero=>cases cap<;>rfl
   |succ _=>rfl
 |_=>rfl
theorem rq {e e':Env}{l:List Operand}(h:∀κ,κ∈kK l->au e'.slots κ=au e.slots κ):∀x,x∈l->e'.opd x=e.opd x:=by
 induction l with
 |nil=>intro x hx;cases hx
 |cons y l ih=>
  intro x hx;rcases JJ.1 hx with rfl|hx
  ·cases x with
   |tmp t=>
    show e'.get t=e.get t;unfold M7;rw[h t (by simp[kK])]
   |const v=>exact B8 _ _ v
   |_=>rfl
  ·refine ih (λκ hκ=>h κ ?_) x hx
   cases y<;>simp[kK,hκ]
theorem ol:∀{vs:List bF} {v:bF} {id:Nat},v∈vs->((∃n p,v.1= .al id n p)\/(∃n p,v.1= .pt id n p)\/(∃f fs l,v.1= .fvr f fs l/\id∈ko l)\/∃e n l r,v.1= .sub e id n l r)->id∈jf vs
 |[],_,_,h,_=>by cases h
 |u::vs,v,id,h,hv=>by
  rcases JJ.1 h with rfl|h
  ·obtain⟨s,q⟩:=v
   rcases hv with⟨n,p,hs⟩|⟨n,p,hs⟩|⟨f,fs,l,hs,hi⟩|⟨e,n,l,r,hs⟩
   ·simp only at hs;subst hs;simp[jf]
   ·simp only at hs;subst hs;simp[jf]
   ·simp only at hs;subst hs;simp[jf,hi]
   ·simp only at hs;subst hs;simp[jf]
  ·have:=ol h hv
   obtain⟨s,q⟩:=u;cases s<;>simp[jf,this]
theorem yx {e e':Env}{o:Oper}(h1:∀κ,κ∈kK (Kw o)->au e'.slots κ=au e.slots κ)(h2:∀κ,κ∈jf (e.views o)->au e'.objs κ=au e.objs κ):e'.views o=e.views o:=by
 unfold Mo;refine Ml λx hx=>?_
 have e1:=rq h1 x hx;rw[e1];have hm:e.view (e.opd x)∈e.views o:=KG.2 ⟨x,hx,rfl⟩;cases hs:e.opd x with
 |al id n p=>
  rw[hs]at hm;show((Slot.al id n p,(e'.obj id).join):bF)=(Slot.al id n p,(e.obj id).join);have:e'.obj id=e.obj id:=h2 id (ol hm (.inl ⟨n,p,rfl⟩));rw[this]
 |pt id n p=>
  rw[hs]at hm;show((O0 id n p,(e'.obj id).join):bF)=(O0 id n p,(e.obj id).join);have:e'.obj id=e.obj id:=h2 id (ol hm (.inr (.inl ⟨n,p,rfl⟩)));rw[this]
 |fv f fs l=>
  rw[hs]at hm;show((Slot.fvr f fs (l.map e'.cap),none):bF)=(Slot.fvr f fs (l.map e.cap),none);have key:∀i,i∈ko (l.map e.cap)->e'.obj i=e.obj i:=λi hi=>h2 i (ol hm (.inr (.inr (.inl ⟨f,fs,_,rfl,hi⟩))))
  have:∀l:List Cap,(∀i,i∈ko (l.map e.cap)->e'.obj i=e.obj i)->l.map e'.cap=l.map e.cap:=by
   intro l
   induction l with
   |nil=>intro _;rfl
   |cons c l ih=>
    intro hk;cases c with
    |rp K x=>rw[Jy,Jy,ih hk];rfl
    |pt id n=>
     rw[Jy,Jy,ih (λi hi=>hk i (JE _ hi))];show CapV.pt id n (e'.obj id).join::_=CapV.pt id n (e.obj id).join::_;rw[hk id JA]
  rw[this l key]
 |sub e0 id n l r=>
  rw[hs]at hm;show((Slot.sub e0 id n l r,(e'.obj id).join):bF)=(Slot.sub e0 id n l r,(e.obj id).join);have:e'.obj id=e.obj id:=h2 id (ol hm (.inr (.inr (.inr ⟨e0,n,l,r,rfl⟩))));rw[this]
 |_=>rfl
theorem yy {e e':Env}{dst:Option Nat}(h:∀κ,κ∈jG dst->au e'.objs κ=au e.objs κ):fresh e' dst=fresh e dst:=by
 cases dst with
 |none=>rfl
 |some d=>
  simp only[fresh,Env.obj];rw[h d (by simp[jG]),h (sub d 0) (by simp[jG]),h (sub d 1) (by simp[jG]),h (sub d 2) (by simp[jG]),h (sub d 3) (by simp[jG])]
section
variable {c:fS} {nt:Nat} {Ω:Type} {out:Ω}
theorem sR (e e':Env)(s:Slot):(e'.view s).1.unv=(e.view s).1.unv:=by
 cases s with
 |fv f fs l=>show Slot.fv f fs _=Slot.fv f fs _;rw[yb,yb]
 |_=>rfl
theorem tn {dst:Option Nat}{s:Slot}{k:bW->Option Ω}(h:cz nt dst s k=some out):∃d,cz nt dst s some=some d/\k d=some out:=by
 unfold cz at h⊢
 split at h
 ·exact⟨_,rfl,h⟩
 ·split at h
  ·rename_i hlt;exact⟨_,by rw[ab hlt],h⟩
  ·cases h
theorem GX {mds:List (Nat×Md)}{o:Oper}{e:Env}{k:bW->Option Ω}(hmv:vr o.op=true)(h:vp c nt mds o ((Kw o).map λx=>e.view (e.opd x)) (fresh e o.dst) k=some out):
  (∃d,d.objs.isEmpty=true/\k d=some out/\∀e':Env,(∀x,x∈Kw o->e'.opd x=e.opd x)->lr c.P B nt o e' (e'.apply d))\/jf (e.views o)=[]:=by
 obtain⟨x,hx⟩:∃x,o.op= .move x\/o.op= .assign x:=by
  cases ho:o.op with
  |move x=>exact⟨x,.inl rfl⟩
  |assign x=>exact⟨x,.inr rfl⟩
  |_=>rw[ho]at hmv;cases hmv
 have hops:Kw o=[x]:=by rcases hx with hx|hx<;>(unfold Kw;rw[hx];rfl)
 by_cases hn:e.opd x= .nils
 ·refine .inr ?_
  show jf ((Kw o).map λx=>e.view (e.opd x))=[];rw[hops,Jy,hn]
  rfl
 ·refine .inl ?_
  have hv:((Kw o).map λx=>e.view (e.opd x))=[e.view (e.opd x)]:=by rw[hops];rfl
  have h1:cz nt o.dst (e.view (e.opd x)).1.unv k=some out:=by
   have hne:(e.view (e.opd x)).1≠ .nils:=by
    cases hs:e.opd x<;>first|(rw[hs]at hn;exact bJ rfl hn)|(intro h;cases h)
   rw[hv]at h;generalize hq:e.view (e.opd x)=v at h hne;obtain⟨s,q⟩:=v;unfold vp at h;rcases hx with hx|hx
   ·rw[hx]at h
    cases s<;>first|exact bJ rfl hne|exact h
   ·rw[hx]at h
    cases s<;>first|exact bJ rfl hne|exact h
  obtain⟨d,h2,h3⟩:=tn h1;have hemp:d.objs.isEmpty=true:=by
   unfold cz at h2
   split at h2
   ·cases h2;rfl
   ·split at h2
    ·cases h2;rfl
    ·cases h2
  refine⟨d,hemp,h3,λe' hs=>?_⟩;have e1:e'.opd x=e.opd x:=hs x (by rw[hops];exact Mv _);obtain⟨d',h4,h5⟩:=qx (c:=c) (B:=B) (nt:=nt) (o:=o) (fr:=fresh e' o.dst) (x:=x) (v:=e'.view (e'.opd x)) (k:=some) (out:=d) hx (by rw[e1,sR e e'];exact h2);cases h4;exact h5 e' ⟨by show((Kw o).map λx=>e'.view (e'.opd x))=_;rw[hops];rfl,rfl⟩
theorem Ep {mds:List (Nat×Md)}{o:Oper}{e:Env}{fr:Bool}{k:bW->Option Ω}(hmv:vr o.op=true)(h:nW c nt mds o (e.views o) fr k=some out):
  nW c nt mds o (e.views o) fr (λd=>if d.objs.isEmpty=true then none else k d)=some out\/jf (e.views o)=[]:=by
 by_cases hx:o.op= .assign (.const (.map none))
 ·refine .inr ?_
  have hops:Kw o=[.const (.map none)]:=by unfold Kw;rw[hx];rfl
  show jf ((Kw o).map λx=>e.view (e.opd x))=[];rw[hops]
  rfl
 ·refine .inl ?_
  generalize e.views o=vs at h⊢;unfold nW at h⊢
  split at h
  ·split at h
   ·rename_i h1
    split at h
    ·split at h
     ·rename_i h2
      rw[ab h1,ab h2];exact h
     ·cases h
    ·cases h
   ·cases h
  ·rename_i ho;rw[ho]at hmv;cases hmv
  ·rename_i ho;rw[ho]at hmv;cases hmv
  ·rename_i ho;rw[ho]at hmv;cases hmv
  ·rename_i ho;rw[ho]at hmv;cases hmv
  ·rename_i ho;rw[ho]at hmv;cases hmv
  ·cases h
theorem zQ (hc:cf c)(hM:lS c){mds:List (Nat×Md)}{ops:Array Oper}{i:Nat}{o:Oper}{e:Env}{k:bW->Option Ω}(ho:ops[i]? =some o)(gs:List Nat)
  (hw:∀e':Env,(∀κ,κ∈gs->au e'.slots κ=au e.slots κ)->∀a w,Inv c.P B nt e' a w->KW o (yielded ops a.tmps)=true) (h:qn c nt mds o e k=some out):
  ∃d,k d=some out/\HW c B nt ops i (pR mds gs o (e.views o) d) d e:=by
 have gen:(∃d,(vr o.op&&d.objs.isEmpty)=false/\k d=some out/\∀e':Env,(e'.views o=e.views o/\fresh e' o.dst=fresh e o.dst)->lr c.P B nt o e' (e'.apply d))\/(jf (e.views o)=[])\/(vr o.op=true/\∃d,d.objs.isEmpty=true/\k d=some out/\∀e':Env,(∀x,x∈Kw o->e'.opd x=e.opd x)->lr c.P B nt o e' (e'.apply d)):=by
  by_cases hmv:vr o.op=true
  ·have h':C1 c nt mds o (e.views o) (fresh e o.dst) k=some out:=h
   unfold C1 at h'
   split at h'
   ·rcases Ep hmv h' with h1|h1
    ·obtain⟨d,h2,h3⟩:=zP (B:=B) hc hM h1
     have h2:(if d.objs.isEmpty=true then none else k d)=some out:=h2
     split at h2
     ·cases h2
     ·rename_i hne
      exact .inl ⟨d,by rw[JK.2 hne,Bool.and_false],h2,h3⟩
    ·exact .inr (.inl h1)
   ·rcases GX (B:=B) hmv h' with h1|h1
    ·exact .inr (.inr ⟨hmv,h1⟩)
    ·exact .inr (.inl h1)
  ·obtain⟨d,h1,h2⟩:=yw (B:=B) hc hM h
   exact .inl ⟨d,by rw[JK.2 hmv,Li],h1,h2⟩
 have wkc:oW mds o (e.views o)=[]\/oW mds o (e.views o)≠[]:=Classical.em _;rcases wkc with hwk|hwk
 ·have main:∃d,k d=some out/\(((vr o.op&&d.objs.isEmpty)=true/\∀e':Env,(∀x,x∈Kw o->e'.opd x=e.opd x)->lr c.P B nt o e' (e'.apply d))\/
    ((if(vr o.op&&d.objs.isEmpty|| !(oW mds o (e.views o)).isEmpty)=true then []else jf (e.views o))=jf (e.views o)/\∀e':Env,(e'.views o=e.views o/\fresh e' o.dst=fresh e o.dst)->lr c.P B nt o e' (e'.apply d))):=by
   rw[hwk];rcases gen with⟨d,h1,h2,h3⟩|h1|⟨h0,d,h1,h2,h3⟩
   ·exact⟨d,h2,.inr ⟨by rw[h1];rfl,h3⟩⟩
   ·obtain⟨d,h2,h3⟩:=yw (B:=B) hc hM h
    exact⟨d,h2,.inr ⟨by rw[h1];split<;>rfl,h3⟩⟩
   ·exact⟨d,h2,.inl ⟨by rw[h0,h1];rfl,h3⟩⟩
  have nowk:∀d q,q∈(pR mds gs o (e.views o) d).wk->False:=λd q hq=>by
   have:q∈oW mds o (e.views o):=hq;rw[hwk]at this;cases this
  obtain⟨d,h1,⟨hmv,h2⟩|⟨hids,h2⟩⟩:=main
  ·refine⟨d,h1,⟨λe' hs hobj _ a w hi K Q hK=>?_,rfl,rfl,rfl,λq hq=>(nowk d q hq).elim⟩⟩
   unfold wpOp;rw[ho];simp only[hw e' (λκ hκ=>hs κ (Ko _ hκ)) a w hi,if_true];exact .inl (h2 e' (rq (λκ hκ=>hs κ (Km _ hκ))) a w hi _ _ hK)
  ·refine⟨d,h1,⟨λe' hs hobj _ a w hi K Q hK=>?_,rfl,rfl,rfl,λq hq=>(nowk d q hq).elim⟩⟩
   have hv:e'.views o=e.views o:=yx (λκ hκ=>hs κ (Km _ hκ)) (λκ hκ=>hobj κ (Ko _ (by rw[hids];exact hκ)));have hf:fresh e' o.dst=fresh e o.dst:=yy (λκ hκ=>hobj κ (Km _ hκ));unfold wpOp;rw[ho];simp only[hw e' (λκ hκ=>hs κ (Ko _ hκ)) a w hi,if_true];exact .inl (h2 e' ⟨hv,hf⟩ a w hi _ _ hK)
 ·-- a load that does not mind what else turns
  obtain⟨x,id,n,p,o2,W,hops,hvs,hwe,hW0,hxo,hX⟩:=Cj (B:=B) (c:=c) (nt:=nt) (k:=k) (out:=out) hc hwk;have h':C1 c nt mds o (e.views o) (fresh e o.dst) k=some out:=h;unfold C1 at h';rw[ab (by rw[hvs];exact hxo o2)]at h';obtain⟨s,hs1,hs2,hs3⟩:=hX h';obtain⟨d,hd1,hd2⟩:=tn hs2;have hve:[e.view (e.opd x)]=[((.pt id n p,some o2):bF)]:=by
   rw[← hvs];show _=((Kw o).map λx=>e.view (e.opd x));rw[hops];rfl
  have hobje:au e.objs id=some (some o2):=gN (e:=e) (x:=x) (MF hve).1;have hslot:e.opd x= .pt id n p:=by
   have h2:=congrArg Prod.fst (MF hve).1
   cases hs:e.opd x<;>rw[hs]at h2<;>first|exact h2|cases h2
  refine⟨d,hd2,⟨λe' hs hobj hwk' a w hi K2 Q hK=>?_,rfl,rfl,rfl,λq hq=>?_⟩⟩
  ·obtain⟨o',ho1,ho2⟩:=hwk' (id,W) (by
    show _∈oW mds o (e.views o);rw[hwe];exact JA)
   cases o' with
   |none=>dsimp only at ho2;rw[hW0]at ho2;cases ho2
   |some o3=>
    have e1:e'.opd x= .pt id n p:=by
     rw[← hslot];exact rq (l:=Kw o) (λκ hκ=>hs κ (Km _ hκ)) x (by rw[hops];exact Mv _)
    have hv:e'.views o=[(.pt id n p,some o3)]:=by
     show((Kw o).map λx=>e'.view (e'.opd x))=_;rw[hops,Jy,Kz,e1];show [((O0 id n p,(e'.obj id).join):bF)]=_;rw[show e'.obj id=some (some o3)from ho1]
     rfl
    obtain⟨d',hd',hstep⟩:=hs3 o3 ho2 (fresh e' o.dst) some d hd1;cases hd';unfold wpOp;rw[ho];simp only[hw e' (λκ hκ=>hs κ (Ko _ hκ)) a w hi,if_true];exact .inl (hstep e' ⟨hv,rfl⟩ a w hi _ _ hK)
  ·have hq':q∈oW mds o (e.views o):=hq
   rw[hwe,JQ]at hq';subst hq';exact⟨some o2,hobje,hs1⟩
theorem Cl {P:Program}{e:Env}{a:Act}{w:World}(h:Inv P B nt e a w){dst:Option Nat}(hd:oX nt dst=true):Inv P B nt (e.apply (tc dst)) (a.put dst undef) w:=by
 cases dst with
 |none=>exact h
 |some d=>exact h.skip (JV hd)
theorem wg {ops:Array Oper}{i t:Nat}{o:Oper}{e:Env}(ho:ops[i]? =some o)(hd:oX nt o.dst=true)
  (hw:∀e':Env,(∀κ,κ∈[t]->au e'.slots κ=au e.slots κ)->∀a w,Inv c.P B nt e' a w->KW o (yielded ops a.tmps)=false):HW c B nt ops i ⟨[t],[],o.dst.toList,[],[],[]⟩ (tc o.dst) e:=by
 refine⟨λe' hs hobj _ a w hi K Q hK=>?_,?_,?_,?_,λq hq=>by cases hq⟩
 ·unfold wpOp
  rw[ho];simp only[hw e' hs a w hi,Jt,if_false];exact hK _ _ (Cl hi hd)
 ·cases o.dst<;>rfl
 ·cases o.dst<;>rfl
 ·cases o.dst<;>rfl
theorem wh {e e':Env}{t:Nat}(h:∀κ,κ∈[t]->au e'.slots κ=au e.slots κ):e'.get t=e.get t:=by
 unfold M7;rw[h t (by simp)]
theorem wi (hc:cf c)(hM:lS c){mds:List (Nat×Md)}{ops:Array Oper}:∀(rest:List Oper) (i:Nat) (e:Env) (tr:List mr) (k:List mr->Env->Option Ω),(∀(j:Nat) (o:Oper),rest[j]? =some o->ops[i+j]? =some o)->
  my c nt mds ops.toList rest e tr k=some out->
  ∃L:List (mr×bW),L.length=rest.length/\k ((L.map (·.1)).reverse++tr) (uA e L)=some out/\∀(j:Nat) (q:mr×bW),L[j]? =some q->HW c B nt ops (i+j) q.1 q.2 (uA e (L.take j))
 |[],i,e,tr,k,_,h=>⟨[],rfl,h,λj q hq=>by simp at hq⟩
 |o::rest,i,e,tr,k,hr,h=>by
  have ho:=hr 0 o rfl;rw[KH]at ho;have step:∀(r:mr) (d:bW),HW c B nt ops i r d e->my c nt mds ops.toList rest (e.apply d) (r::tr) k=some out->
    ∃L:List (mr×bW),L.length=(o::rest).length/\k ((L.map (·.1)).reverse++tr) (uA e L)=some out/\∀(j:Nat) (q:mr×bW),L[j]? =some q->HW c B nt ops (i+j) q.1 q.2 (uA e (L.take j)):=by
   intro r d he h1;obtain⟨L,l1,l2,l3⟩:=wi hc hM rest (i+1) (e.apply d) (r::tr) k (λj o' ho'=>by
    have:=hr (j+1) o' (by simpa using ho')
    rwa [show i+1+j=i+(j+1)by omega]) h1
   refine⟨(r,d)::L,by simp[l1],?_,λj q hq=>?_⟩
   ·simpa[uA]using l2
   ·cases j with
    |zero=>
     simp only[Kq,Jq]at hq;subst hq;exact he
    |succ j=>
     have:=l3 j q (by simpa using hq);rw[show i+(j+1)=i+1+j by omega];exact this
  unfold my at h
  split at h
  ·rename_i hgd
   obtain⟨d,h1,h2⟩:=zQ (B:=B) hc hM (i:=i) ho [] (λe' _ a w _=>by simp[KW,hgd]) h;exact step _ d h2 h1
  ·rename_i j want hgd
   split at h
   ·cases h
   ·rename_i t ht
    have hyield:∀tmps:Array Value,yielded ops tmps j=match tmps[t]? with|some (.bool b)=>some b|_=>none:=by
     intro tmps;have:(ops[j]?).bind (·.dst)=some t:=by
      unfold vq at ht
      split at ht
      ·rename_i o' ho'
       have:ops[j]? =some o':=by simpa using ho'
       rw[this];exact ht
      ·cases ht
     unfold yielded;rw[this]
     rfl
    split at h
    ·rename_i b hb
     have hy:∀e':Env,(∀κ,κ∈[t]->au e'.slots κ=au e.slots κ)->∀a w,Inv c.P B nt e' a w->yielded ops a.tmps j=some b:=by
      rintro e' hs a w ⟨g,hg⟩;rw[hyield,oh hg (by rw[wh hs];exact hb)]
     split at h
     ·rename_i hbw
      obtain⟨d,h1,h2⟩:=zQ (B:=B) hc hM (i:=i) ho [t] (λe' hs a w hi=>by simp[KW,hgd,hy e' hs a w hi,hbw]) h;exact step _ d h2 h1
     ·rename_i hbw
      split at h
      ·rename_i hsk
       exact step _ _ (wg ho hsk (λe' hs a w hi=>by simp[KW,hgd,hy e' hs a w hi,hbw])) h
      ·cases h
    ·rename_i hun
     split at h
     ·rename_i hsk
      refine step _ _ (wg ho hsk (λe' hs a w hi=>?_)) h;obtain⟨g,hg⟩:=hi;have:yielded ops a.tmps j=none:=by
       rw[hyield];rcases Ck hg (by rw[wh hs];exact hun)with h|h<;>rw[h]<;>rfl
      simp[KW,hgd,this]
     ·cases h
    ·cases h
end
theorem qA:∀(l:List (List Nat)) (n:Nat),uc l n=(l[n]?).getD []
 |[],n=>by cases n<;>rfl
 |a::l,0=>rfl
 |a::l,n+1=>by rw[uc,qA l n];simp
theorem zR:∀(l:List Oper) (acc:List (List Nat)),∃M,y6 l acc=acc++M/\M.length=l.length/\∀(j:Nat) (o:Oper),l[j]? =some o->M[j]? =some (lP (acc++M.take j) o.after.toList)
 |[],acc=>⟨[],by simp[y6],rfl,λj o h=>by simp at h⟩
 |o::l,acc=>by
  obtain⟨M,h1,h2,h3⟩:=zR l (acc++[lP acc o.after.toList]);refine⟨lP acc o.after.toList::M,by rw[y6,h1];simp,by simp[h2],λj o' ho=>?_⟩;cases j with
  |zero=>
   simp only[Kq,Jq]at ho;subst ho
   simp
  |succ j=>
   have:=h3 j o' (by simpa using ho);simpa using this
theorem nK {acc:List (List Nat)}:∀{es:List Edge} {m:Nat},m∈lP acc es↔∃e,e∈es/\LF .any e=true/\(m=e.on\/m∈uc acc e.on)
 |[],m=>by simp[lP]
 |e::es,m=>by
  unfold lP
  split
  ·rename_i hb
   simp only[List.cons_append,JJ,KC,nK (es:=es)]
   constructor
   ·rintro(h|h|⟨e',h1,h2,h3⟩)
    ·exact⟨e,.inl rfl,hb,.inl h⟩
    ·exact⟨e,.inl rfl,hb,.inr h⟩
    ·exact⟨e',.inr h1,h2,h3⟩
   ·rintro⟨e',h1|h1,h2,h3⟩
    ·subst h1
     rcases h3 with h3|h3
     ·exact .inl h3
     ·exact .inr (.inl h3)
    ·exact .inr (.inr ⟨e',h1,h2,h3⟩)
  ·rename_i hb
   rw[nK (es:=es)]
   constructor
   ·rintro⟨e',h1,h2,h3⟩;exact⟨e',JE _ h1,h2,h3⟩
   ·rintro⟨e',h1,h2,h3⟩
    rcases JJ.1 h1 with rfl|h1
    ·exact bJ h2 hb
    ·exact⟨e',h1,h2,h3⟩
theorem pZ {n:Nat}:∀{es:List Edge},nY n es=true->∀e,e∈es->LF .any e=true->e.on<n
 |[],_,e,he,_=>by cases he
 |e0::es,h,e,he,hb=>by
  simp only[nY,Jm,KY]at h;rcases JJ.1 he with rfl|he
  ·rcases h.1 with h1|h1
   ·rw[hb]at h1;cases h1
   ·exact JV h1
  ·exact pZ h.2 e he hb
theorem tq:∀{l:List Oper} {n:Nat},qP n l=true->∀(j:Nat) (o:Oper),l[j]? =some o->∀e,e∈o.after.toList->LF .any e=true->e.on<n+j
 |[],_,_,j,o,ho,_,_,_=>by simp at ho
 |o0::l,n,h,j,o,ho,e,he,hb=>by
  simp only[qP,Jm]at h;cases j with
  |zero=>
   simp only[Kq,Jq]at ho;subst ho;exact pZ h.1 e he hb
  |succ j=>
   have:=tq h.2 j o (by simpa using ho) e he hb;omega
structure Ancs (ops:Array Oper) (A:Nat->List Nat):Prop where
 mem:∀(j:Nat) (o:Oper),ops[j]? =some o->∀m,m∈A j↔∃e,e∈o.after.toList/\LF .any e=true/\(m=e.on\/m∈A e.on)
 low:∀(j:Nat) (o:Oper),ops[j]? =some o->∀e,e∈o.after.toList->LF .any e=true->e.on<j
theorem Er {ops:Array Oper}(h:qP 0 ops.toList=true):Ancs ops (uc (y6 ops.toList [])):=by
 obtain⟨M,h1,h2,h3⟩:=zR ops.toList [];rw[Kg]at h1;have low:∀(j:Nat) (o:Oper),ops[j]? =some o->∀e,e∈o.after.toList->LF .any e=true->e.on<j:=λj o ho e he hb=>by
  have:=tq h j o (by simpa using ho) e he hb;omega
 refine⟨λj o ho m=>?_,low⟩;have h4:=h3 j o (by simpa using ho);rw[Kg]at h4;rw[h1,qA,h4,LQ,nK];refine exists_congr λe=>and_congr_right λhe=>and_congr_right λhb=>or_congr Iff.rfl ?_
 have hlt:=low j o ho e he hb;rw[qA,qA,Lm,ab hlt]
theorem Ancs.lt {ops:Array Oper}{A:Nat->List Nat}(h:Ancs ops A):∀(j:Nat) (o:Oper),ops[j]? =some o->∀m,m∈A j->m<j:=by
 intro j
 induction j using NR with
 |_ j ih=>
  intro o ho m hm;obtain⟨e,he,hb,h1⟩:=(h.mem j o ho m).1 hm;have hl:=h.low j o ho e he hb;rcases h1 with rfl|h1
  ·exact hl
  ·have hlt:e.on<ops.size:=by
    have:j<ops.size:=(LO.1 ho).1;omega
   have:=ih e.on hl ops[e.on] (by simp[hlt]) m h1;omega
theorem tt {an:List Nat}{y:mr}:∀{l:List mr} {i:Nat},ud an y i l=true->∀(j:Nat) (x:mr),l[j]? =some x->i+j∈an\/nX x y=false
 |[],_,_,j,x,hx=>by simp at hx
 |x0::l,i,h,j,x,hx=>by
  simp only[ud,Jm,KY]at h;cases j with
  |zero=>
   simp only[Kq,Jq]at hx;subst hx;rcases h.1 with h1|h1
   ·exact .inl (by simpa using fe.1 h1)
   ·exact .inr (by simpa using h1)
  |succ j=>
   have:=tt h.2 j x (by simpa using hx)
   rwa [show i+1+j=i+(j+1)by omega]at this
theorem tu {an:List (List Nat)}{all:List mr}:∀{l:List mr} {j:Nat},ue an all j l=true->∀(k:Nat) (y:mr),l[k]? =some y->∀(i:Nat) (x:mr),i<j+k->all[i]? =some x->i∈uc an (j+k)\/nX x y=false
 |[],_,_,k,y,hy,_,_,_,_=>by simp at hy
 |y0::l,j,h,k,y,hy,i,x,hi,hx=>by
  simp only[ue,Jm]at h;cases k with
  |zero=>
   simp only[Kq,Jq]at hy;subst hy;have:=tt h.1 i x (by rw[Lm,ab (by omega)];exact hx);simpa using this
  |succ k=>
   have:=tu h.2 k y (by simpa using hy) i x (by omega) hx
   rwa [show j+1+k=j+(k+1)by omega]at this
variable {B:Base}
theorem rt:∀(l r:List Nat),l.Pairwise (·<·)->r.Pairwise (·<·)->(∀x,x∈l↔x∈r)->l=r
 |[],[],_,_,_=>rfl
 |[],b::r,_,_,h=>by have:=(h b).2 JA;cases this
 |a::l,[],_,_,h=>by have:=(h a).1 JA;cases this
 |a::l,b::r,hl,hr,h=>by
  have hl':=OF.1 hl;have hr':=OF.1 hr;have hab:a=b:=by
   rcases JJ.1 ((h a).1 JA)with h1|h1
   ·exact h1
   ·rcases JJ.1 ((h b).2 JA)with h2|h2
    ·exact h2.symm
    ·have:=hr'.1 a h1
     have:=hl'.1 b h2;omega
  subst hab;rw[rt l r hl'.2 hr'.2 λx=>⟨λhx=>?_,λhx=>?_⟩]
  ·rcases JJ.1 ((h x).1 (JE _ hx))with h1|h1
   ·have:=hl'.1 x hx;omega
   ·exact h1
  ·rcases JJ.1 ((h x).2 (JE _ hx))with h1|h1
   ·have:=hr'.1 x hx;omega
   ·exact h1
structure Good (A:Nat->List Nat) (n:Nat) (l:List Nat):Prop where
 lt:∀x,x∈l->x<n
 one:∀(p q i:Nat),l[p]? =some i->l[q]? =some i->p=q
 anc:∀(p i:Nat),l[p]? =some i->∀m,m∈A i->∃r,r<p/\l[r]? =some m
theorem Good.sorted {A:Nat->List Nat}{n:Nat}{l:List Nat}(h:Good A n l)(wr:Nat->Bool)(hw:∀i j,i<j->j<n->wr i=true->wr j=true->i∈A j):(l.filter wr).Pairwise (·<·):=by
 have h1:l.Pairwise (λi j=>wr i=true->wr j=true->i<j):=by
  rw[Nw];intro p q hp hq hpq hi hj;have ep:l[p]? =some l[p]:=by simp[hp]
  have eq:l[q]? =some l[q]:=by simp[hq]
  rcases Nat.lt_trichotomy l[p] l[q]with h2|h2|h2
  ·exact h2
  ·rw[h2]at ep
   have:=h.one p q _ ep eq;omega
  ·have:=hw l[q] l[p] h2 (h.lt _ (List.getElem_mem hp)) hj hi
   obtain⟨r,hr,hr2⟩:=h.anc p _ ep _ this;have:=h.one r q _ hr2 eq;omega
 have h2:=h1.filter wr;refine h2.imp_of_mem ?_;intro a b ha hb hab;exact hab (Lw.1 ha).2 (Lw.1 hb).2
theorem Good.mem_anc {A:Nat->List Nat}{n:Nat}{l:List Nat}(h:Good A n l){i:Nat}(hi:i∈l):∀m,m∈A i->m∈l:=by
 intro m hm;obtain⟨p,hp,rfl⟩:=Lp.1 hi;obtain⟨r,_,hr⟩:=h.anc p _ (by simp[hp]) m hm;exact Lz hr
theorem Good.snoc {A:Nat->List Nat}{n:Nat}{l:List Nat}(h:Good A n l){i:Nat}(hi:i<n)(hn:i∉l)(ha:∀m,m∈A i->m∈l):Good A n (l++[i]):=by
 have at_:∀(p j:Nat),(l++[i])[p]? =some j->(l[p]? =some j/\p<l.length)\/(p=l.length/\j=i):=by
  intro p j hp
  by_cases hlt:p<l.length
  ·rw[Lf hlt]at hp
   exact .inl ⟨hp,hlt⟩
  ·rw[Lt (by omega)]at hp
   by_cases h0:p - l.length=0
   ·rw[h0]at hp
    simp at hp
    exact .inr ⟨by omega,hp.symm⟩
   ·rw[N4 (by simp;omega)]at hp
    cases hp
 refine⟨λx hx=>?_,λp q j hp hq=>?_,λp j hp m hm=>?_⟩
 ·rcases KC.1 hx with h1|h1
  ·exact h.lt x h1
  ·simp at h1;omega
 ·rcases at_ p j hp with⟨h1,h1'⟩|⟨h1,h2⟩<;>rcases at_ q j hq with⟨h3,h3'⟩|⟨h3,h4⟩
  ·exact h.one p q j h1 h3
  ·subst h4;exact bJ (Lz h1) hn
  ·subst h2;exact bJ (Lz h3) hn
  ·omega
 ·rcases at_ p j hp with⟨h1,h1'⟩|⟨h1,h2⟩
  ·obtain⟨r,hr,hr2⟩:=h.anc p j h1 m hm
   exact⟨r,hr,by rw[Lf (by omega)];exact hr2⟩
  ·subst h2
   obtain⟨r,hr,hr2⟩:=Lp.1 (ha m hm);exact⟨r,by omega,by rw[Lf hr];simp[hr,hr2]⟩
theorem Good.range {A:Nat->List Nat}{n j:Nat}(hj:j<=n)(hA:∀i m,i<n->m∈A i->m<i):Good A n (LI j):=by
 have at_:∀(p i:Nat),(LI j)[p]? =some i->p=i/\i<j:=by
  intro p i hp;obtain⟨h1,h2⟩:=JU.1 hp
  simp at h1 h2
  omega
 refine⟨λx hx=>by have:=LD.1 hx;omega,λp q i hp hq=>?_,λp i hp m hm=>?_⟩
 ·have:=at_ p i hp;have:=at_ q i hq;omega
 ·obtain⟨h1,h2⟩:=at_ p i hp
  have:=hA i m (by omega) hm;exact⟨m,by omega,List.getElem?_range (by omega)⟩
theorem Good.nodup {A:Nat->List Nat}{n:Nat}{l:List Nat}(h:Good A n l):l.Nodup:=by
 refine Nw.2 λp q hp hq hpq heq=>?_
 have:=h.one p q l[p] (by simp[hp]) (by simp[hq,heq]);omega
theorem ru:∀(n:Nat) (l:List Nat),l.Nodup->(∀x,x∈l->x<n)->l.length<=n
 |0,l,_,h=>by
  cases l with
  |nil=>simp
  |cons a l=>have:=h a JA;omega
 |n+1,l,hn,h=>by
  by_cases hm:n∈l
  ·have h1:=ru n (l.erase n) (hn.erase n) (λx hx=>by
    have:=(hn.mem_erase_iff).1 hx;have:=h x this.2
    omega)
   rw[NC hm]at h1;omega
  ·have:=ru n l hn (λx hx=>by
    have:=h x hx;have:x≠n:=λe=>hm (e▸hx)
    omega)
   omega
theorem mM {α:Type}(pe:Env->List (Nat×α))(pd:bW->List (Nat×α))(hp:∀e d,pe (e.apply d)=pd d++pe e){D:Nat->bW}{A:Nat->List Nat}{n κ:Nat}{l l':List Nat}(h:Good A n l)(h':Good A n l')
  (hw:∀i j,i<j->j<n->κ∈(pd (D i)).map (·.1)->κ∈(pd (D j)).map (·.1)->i∈A j) (hm:∀i,κ∈(pd (D i)).map (·.1)->(i∈l↔i∈l')) (e:Env):au (pe (mo D e l)) κ=au (pe (mo D e l')) κ:=by
 rw[mL pe pd hp D κ l e e rfl,mL pe pd hp D κ l' e e rfl];have hw':∀i j,i<j->j<n->kZ κ ((pd (D i)).map (·.1))=true->kZ κ ((pd (D j)).map (·.1))=true->i∈A j:=λi j h1 h2 h3 h4=>hw i j h1 h2 (fe.1 h3) (fe.1 h4)
 rw[rt _ _ (h.sorted _ hw') (h'.sorted _ hw') λx=>?_];rw[Lw,Lw];exact⟨λ⟨h1,h2⟩=>⟨(hm x (fe.1 h2)).1 h1,h2⟩,λ⟨h1,h2⟩=>⟨(hm x (fe.1 h2)).2 h1,h2⟩⟩
theorem pj {e:Env}{L:List (mr×bW)}:∀(j:Nat),j<=L.length->uA e (L.take j)=mo (λi=>match L[i]? with|some q=>q.2|none=>⟨[],[]⟩) e (LI j)
 |0,_=>rfl
 |j+1,hj=>by
  have ih:=pj (e:=e) (L:=L) j (by omega);rw[List.range_succ,List.take_add_one];have hq:L[j]? =some (L[j]'(by omega)):=List.getElem?_eq_getElem (by omega);rw[hq];simp only[uA,mo,O1]at ih⊢;rw[ih]
  simp[hq]
section
variable {c:fS} {nt:Nat} {Ω:Type} {out:Ω}
theorem Cm (hc:cf c)(hM:lS c){mds:List (Nat×Md)}{ops:Array Oper}{e:Env}{k:Env->Option Ω}
  (h:my c nt mds ops.toList ops.toList e [] (λtr e'=>if vt ops.toList tr=true then k e' else none)=some out):
  ∃e',k e'=some out/\∀a w,Inv c.P B nt e a w->∀Q:Exit->Act->World->Prop,(∀a' w',Inv c.P B nt e' a' w'->Q .normal a' w')->wpAny c.P .any ops Q ops.size (Array.replicate ops.size false) a w:=by
 obtain⟨L,l1,l2,l3⟩:=wi (B:=B) hc hM ops.toList 0 e [] _ (λj o ho=>by rw[KT];simpa using ho) h;rw[Kv]at l2;have hn:L.length=ops.size:=by simpa using l1
 split at l2
 case isFalse=>cases l2
 rename_i hind;unfold vt at hind;rw[List.reverse_reverse,Jm]at hind;have hA:=Er hind.1;generalize hAA:uc (y6 ops.toList [])=A at hA;have hAlt:∀i m,i<ops.size->m∈A i->m<i:=λi m hi hm=>hA.lt i ops[i] (by simp[hi]) m hm
 let D:Nat->bW:=λi=>match L[i]? with|some q=>q.2|none=>⟨[],[]⟩
 have hD:∀{i:Nat} {q:mr×bW},L[i]? =some q->D i=q.2:=by
  intro i q hq;show(match L[i]? with|some q=>q.2|none=>(⟨[],[]⟩:bW))=q.2;rw[hq]
 have Lget:∀i,i<ops.size->∃q,L[i]? =some q:=λi hi=>⟨L[i]'(by omega),by simp⟩
 have hent:∀i q,L[i]? =some q->HW c B nt ops i q.1 q.2 (mo D e (LI i)):=by
  intro i q hq;have:=l3 i q hq;rw[KT,pj i (by have:=(JU.1 hq).1;omega)]at this;exact this
 have hcl:∀i j p q,i<j->L[i]? =some p->L[j]? =some q->i∈A j\/nX p.1 q.1=false:=by
  intro i j p q hij hp hq;have:=tu hind.2 j q.1 (by simp[hq]) i p.1 (by omega) (by simp[hp]);rw[KT]at this;rw[← hAA];exact this
 have clash_ws:∀{x y:mr},nX x y=false->(∀κ,κ∈x.ws->κ∉y.rs/\κ∉y.ws)/\(∀κ,κ∈y.ws->κ∉x.rs)/\(∀κ,κ∈x.wo->κ∉y.ro/\κ∉y.wo)/\(∀κ,κ∈y.wo->κ∉x.ro):=by
  intro x y h;simp only[nX,K8]at h;obtain⟨h,_⟩:=h;refine⟨λκ hκ=>?_,λκ hκ=>jZ h.1.1.2 κ hκ,λκ hκ=>?_,λκ hκ=>jZ h.2 κ hκ⟩
  ·have:=jZ h.1.1.1 κ hκ
   exact⟨λh=>this (Ko _ h),λh=>this (Km _ h)⟩
  ·have:=jZ h.1.2 κ hκ
   exact⟨λh=>this (Ko _ h),λh=>this (Km _ h)⟩
 have wsD:∀{i:Nat} {q:mr×bW},L[i]? =some q->q.1.ws=(D i).slots.map (·.1)/\q.1.wo=(D i).objs.map (·.1):=by
  intro i q hq;rw[hD hq];exact⟨(hent i q hq).ws,(hent i q hq).wo⟩
 have writers:∀{i κ:Nat},(κ∈(D i).slots.map (·.1)\/κ∈(D i).objs.map (·.1))->i<ops.size:=by
  intro i κ h;refine Nat.lt_of_not_le λhle=>?_
  have:D i=⟨[],[]⟩:=by
   show(match L[i]? with|some q=>q.2|none=>(⟨[],[]⟩:bW))=⟨[],[]⟩;rw[N4 (by omega)]
  rw[this]at h;rcases h with h|h<;>cases h
 have wS:∀κ i j,i<j->j<ops.size->κ∈(D i).slots.map (·.1)->κ∈(D j).slots.map (·.1)->i∈A j:=by
  intro κ i j hij hj h1 h2;obtain⟨p,hp⟩:=Lget i (by omega);obtain⟨q,hq⟩:=Lget j hj;rcases hcl i j p q hij hp hq with h3|h3
  ·exact h3
  ·rw[←(wsD hp).1]at h1
   rw[←(wsD hq).1]at h2;exact bJ h2 ((clash_ws h3).1 κ h1).2
 have wO:∀κ i j,i<j->j<ops.size->κ∈(D i).objs.map (·.1)->κ∈(D j).objs.map (·.1)->i∈A j:=by
  intro κ i j hij hj h1 h2;obtain⟨p,hp⟩:=Lget i (by omega);obtain⟨q,hq⟩:=Lget j hj;rcases hcl i j p q hij hp hq with h3|h3
  ·exact h3
  ·rw[←(wsD hp).2]at h1
   rw[←(wsD hq).2]at h2;exact bJ h2 ((clash_ws h3).2.2.1 κ h1).2
 have before:∀(l:List Nat) (i:Nat) (q:mr×bW),Good A ops.size l->L[i]? =some q->i∉l->(∀m,m∈A i->m∈l)->∀κ j,((κ∈q.1.rs/\κ∈(D j).slots.map (·.1))\/(κ∈q.1.ro/\κ∈(D j).objs.map (·.1)))->j≠i->(j∈l↔j<i):=by
  intro l i q hG hq hil hanc κ j hk hne;have hj:j<ops.size:=by
   rcases hk with h|h
   ·exact writers (.inl h.2)
   ·exact writers (.inr h.2)
  have hi:i<ops.size:=by have:=(JU.1 hq).1;omega
  obtain⟨p,hp⟩:=Lget j hj;rw[←(wsD hp).1,←(wsD hp).2]at hk;rcases Nat.lt_or_gt_of_ne hne with hlt|hgt
  ·refine⟨λ_=>hlt,λ_=>?_⟩
   rcases hcl j i p q hlt hp hq with h3|h3
   ·exact hanc j h3
   ·rcases hk with⟨h1,h2⟩|⟨h1,h2⟩
    ·exact bJ h1 ((clash_ws h3).1 κ h2).1
    ·exact bJ h1 ((clash_ws h3).2.2.1 κ h2).1
  ·refine⟨λhjl=>?_,λh=>by omega⟩
   rcases hcl i j q p hgt hq hp with h3|h3
   ·exact bJ (hG.mem_anc hjl i h3) hil
   ·rcases hk with⟨h1,h2⟩|⟨h1,h2⟩
    ·exact bJ h1 ((clash_ws h3).2.1 κ h2)
    ·exact bJ h1 ((clash_ws h3).2.2.2 κ h2)
 refine⟨uA e L,l2,λa w hI Q hQ=>?_⟩;have hfin:uA e L=mo D e (LI ops.size):=by
  have:=pj (e:=e) (L:=L) L.length (JG _);rw[List.take_length]at this;rw[this,hn]
 rw[hfin]at hQ;have ready:∀(listed:Array Bool) (i:Nat),i∈ND .any ops listed↔∃o,ops[i]? =some o/\listed.getD i true=false/\∀ed,ed∈o.after.toList->LF .any ed=true->listed.getD ed.on false=true:=by
  intro listed i;unfold ND;rw[Lw,LD]
  constructor
  ·rintro⟨h1,h2⟩
   have ho:ops[i]? =some ops[i]:=by simp[h1]
   rw[ho]at h2;simp only[KR,LQ,Jm]at h2;refine⟨ops[i],ho,by simpa using h2.1,λed hed hb=>?_⟩;have h3:=(MY.1 h2.2) ed (by simpa using hed);rw[hb]at h3;simpa using h3
  ·rintro⟨o,ho,h1,h2⟩
   refine⟨(LO.1 ho).1,?_⟩;rw[ho];simp only[KR,LQ,Jm];refine⟨by simpa using h1,MY.2 λed hed=>?_⟩;cases hb:LF .any ed with
   |false=>rfl
   |true=>simpa using h2 ed (by simpa using hed) hb
 have main:∀(fuel:Nat) (l:List Nat) (listed:Array Bool) (a:Act) (w:World),fuel+l.length=ops.size->Good A ops.size l->listed.size=ops.size->(∀i,i<ops.size->(listed.getD i true=true↔i∈l))->
   Inv c.P B nt (mo D e l) a w->wpAny c.P .any ops Q fuel listed a w:=by
  intro fuel
  induction fuel with
  |zero=>
   intro l listed a w hlen hG hsz hlisted hI;have full:∀i,i<ops.size->i∈l:=by
    intro i hi;refine LL λhni=>?_
    have:=ru ops.size (i::l) (LA.2 ⟨hni,hG.nodup⟩) (λx hx=>by
     rcases JJ.1 hx with rfl|hx
     ·exact hi
     ·exact hG.lt x hx)
    simp at this
    omega
   refine⟨?_,hQ _ _ (hI.congr ?_ ?_)⟩
   ·refine List.eq_nil_iff_forall_not_mem.2 λi hi=>?_
    obtain⟨o,ho,h1,_⟩:=(ready listed i).1 hi;have hlt:=(LO.1 ho).1;rw[(hlisted i hlt).2 (full i hlt)]at h1;cases h1
   ·intro κ
    exact mM (λe=>e.slots) (λd=>d.slots) (λ_ _=>rfl) (Good.range (JG _) hAlt) hG (wS κ) (λi hi=>⟨λ_=>full i (writers (.inl hi)),λ_=>LD.2 (writers (.inl hi))⟩) e
   ·intro κ
    exact mM (λe=>e.objs) (λd=>d.objs) (λ_ _=>rfl) (Good.range (JG _) hAlt) hG (wO κ) (λi hi=>⟨λ_=>full i (writers (.inr hi)),λ_=>LD.2 (writers (.inr hi))⟩) e
  |succ fuel ih=>
   intro l listed a w hlen hG hsz hlisted hI;refine⟨λhempty=>?_,λi hi=>?_⟩
   ·exfalso
    have hex:∃i,i<ops.size/\i∉l:=by
     refine LL λhno=>?_
     have full:∀i,i<ops.size->i∈l:=λi hi=>LL λh=>hno ⟨i,hi,h⟩
     have h1:(LI ops.size).length<=l.length:=by
      have:∀(r l:List Nat),r.Nodup->(∀x,x∈r->x∈l)->r.length<=l.length:=by
       intro r
       induction r with
       |nil=>intro l _ _;simp
       |cons x r ih=>
        intro l hn hs;have hn':=LA.1 hn;have:=ih (l.erase x) hn'.2 (λy hy=>(List.mem_erase_of_ne (by intro e1;subst e1;exact hn'.1 hy)).2 (hs y (JE _ hy)));rw[NC (hs x JA)]at this;have hpos:0<l.length:=List.length_pos_of_mem (hs x JA)
        simp
        omega
      exact this _ _ List.nodup_range (λx hx=>full x (LD.1 hx))
     simp at h1
     omega
    have least:∀(i:Nat),i<ops.size->i∉l->∃j,j<ops.size/\j∉l/\∀m,m<j->m∈l:=by
     intro i
     induction i using NR with
     |_ i ihi=>
      intro hi hil
      by_cases hall:∀m,m<i->m∈l
      ·exact⟨i,hi,hil,hall⟩
      ·obtain⟨m,hm⟩:=Classical.not_forall.1 hall
       obtain⟨hm1,hm2⟩:=Classical.not_imp.1 hm;exact ihi m hm1 (by omega) hm2
    obtain⟨i,hi,hil⟩:=hex;obtain⟨j,hj,hjl,hjm⟩:=least i hi hil;have:j∈ND .any ops listed:=by
     refine(ready listed j).2 ⟨ops[j],by simp[hj],?_,λed hed hb=>?_⟩
     ·cases hb:listed.getD j true with
      |false=>rfl
      |true=>exact bJ ((hlisted j hj).1 hb) hjl
     ·have hlt:=hA.low j ops[j] (by simp[hj]) ed hed hb
      have:=(hlisted ed.on (by omega)).2 (hjm _ hlt);have hlt2:ed.on<listed.size:=by omega
      simpa[MV,hlt2]using this
    rw[hempty]at this;cases this
   ·obtain⟨o,ho,h1,h2⟩:=(ready listed i).1 hi
    have hlt:=(LO.1 ho).1;have hil:i∉l:=λh=>by rw[(hlisted i hlt).2 h]at h1;cases h1
    have hanc:∀m,m∈A i->m∈l:=by
     intro m hm;obtain⟨ed,hed,hb,h3⟩:=(hA.mem i o ho m).1 hm;have hel:=hA.low i o ho ed hed hb;have hin:ed.on∈l:=by
      refine(hlisted ed.on (by omega)).1 ?_;have:=h2 ed hed hb;have hlt2:ed.on<listed.size:=by omega
      simpa[MV,hlt2]using this
     rcases h3 with rfl|h3
     ·exact hin
     ·exact hG.mem_anc hin m h3
    obtain⟨q,hq⟩:=Lget i hlt;have hE:=hent i q hq;have hGr:Good A ops.size (LI i):=Good.range (by omega) hAlt;have selfl:∀j,j=i->(j∈l↔j∈LI i):=λj hj=>by
     subst hj;exact⟨λh=>bJ h hil,λh=>by simp at h⟩
    have sm:∀κ,κ∈q.1.rs->au (mo D e l).slots κ=au (mo D e (LI i)).slots κ:=λκ hκ=>
     mM (λe=>e.slots) (λd=>d.slots) (λ_ _=>rfl) hG hGr (wS κ) (λj hj=>by
      by_cases hji:j=i
      ·exact selfl j hji
      ·rw[before l i q hG hq hil hanc κ j (.inl ⟨hκ,hj⟩) hji,LD]) e
    have om:∀κ,κ∈q.1.ro->au (mo D e l).objs κ=au (mo D e (LI i)).objs κ:=λκ hκ=>
     mM (λe=>e.objs) (λd=>d.objs) (λ_ _=>rfl) hG hGr (wO κ) (λj hj=>by
      by_cases hji:j=i
      ·exact selfl j hji
      ·rw[before l i q hG hq hil hanc κ j (.inr ⟨hκ,hj⟩) hji,LD]) e
    have wm:∀s,s∈q.1.wk->∃o,au (mo D e l).objs s.1=some o/\s.2 o=true:=by
     intro s hs;obtain⟨oc,hc1,hc2⟩:=hE.wk s hs;have earlier:∀j,j<i->s.1∈(D j).objs.map (·.1)->j∈l:=by
      intro j hj hw;obtain⟨p,hp⟩:=Lget j (by omega);rcases hcl j i p q hj hp hq with h3|h3
      ·exact hanc j h3
      ·exfalso
       simp only[nX,K8]at h3;have h4:=h3.2.1;unfold zD at h4;have h5:kZ s.1 p.1.wo=false:=by
        have:=L9.1 h4 s hs;simpa using this
       rw[←(wsD hp).2]at hw;rw[fe.2 hw]at h5;cases h5
     by_cases hlate:∃j,j∈l/\i<j/\s.1∈(D j).objs.map (·.1)
     ·-- the last one that wrote it comes later
      obtain⟨j,hjl,hij,hjw⟩:=hlate;rw[mL (λe=>e.objs) (λd=>d.objs) (λ_ _=>rfl) D s.1 l e e rfl];generalize hL:l.filter (λi=>kZ s.1 ((D i).objs.map (·.1)))=L2;have hjL:j∈L2:=by rw[← hL];exact Lw.2 ⟨hjl,fe.2 hjw⟩
      have hsort:L2.Pairwise (·<·):=by
       rw[← hL];exact hG.sorted _ λi j h1 h2 h3 h4=>wO s.1 i j h1 h2 (fe.1 h3) (fe.1 h4)
      have hne:L2≠[]:=List.ne_nil_of_mem hjL;obtain⟨L3,x,hx⟩:∃L3 x,L2=L3++[x]:=⟨L2.dropLast,L2.getLast hne,(List.dropLast_concat_getLast hne).symm⟩
      have hxl:x∈l/\s.1∈(D x).objs.map (·.1):=by
       have:x∈l.filter (λi=>kZ s.1 ((D i).objs.map (·.1))):=by rw[hL,hx];simp
       exact⟨(Lw.1 this).1,fe.1 (Lw.1 this).2⟩
      have hix:i<x:=by
       rw[hx]at hjL hsort;rcases KC.1 hjL with h|h
       ·have:=(List.pairwise_append.1 hsort).2.2 j h x (Mv _)
        omega
       ·rw[JQ.1 h]at hij;exact hij
      obtain⟨p,hp⟩:=Lget x (hG.lt x hxl.1);have hcx:nX q.1 p.1=false:=by
       rcases hcl i x q p hix hq hp with h3|h3
       ·exact bJ (hG.mem_anc hxl.1 i h3) hil
       ·exact h3
      simp only[nX,K8]at hcx;have hbad:=hcx.2.2;rw[hx];have hrun:au (mo D e (L3++[x])).objs s.1=au (D x).objs s.1:=by
       unfold mo;rw[O1];show au ((D x).objs++_) s.1=_;rw[eE];cases hlk:au (D x).objs s.1 with
       |some v=>rfl
       |none=>
        exfalso
        obtain⟨r,hr1,hr2⟩:=KG.1 hxl.2;have:∀(M:List (Nat×Option Obj)),r∈M->au M s.1≠none:=by
         intro M
         induction M with
         |nil=>intro h;cases h
         |cons y M ihM=>
          intro h hn;obtain⟨y1,y2⟩:=y;unfold au at hn
          split at hn
          ·cases hn
          ·rename_i hb
           rcases JJ.1 h with h|h
           ·subst h
            exact hb (by rw[← hr2];exact MH _)
           ·exact ihM h hn
        exact this _ hr1 hlk
      rw[hrun];cases hlk:au (D x).objs s.1 with
      |none=>
       exfalso
       obtain⟨r,hr1,hr2⟩:=KG.1 hxl.2;exact bJ hxl.2 (λhm=>by
        have:∀(M:List (Nat×Option Obj)),s.1∈M.map (·.1)->au M s.1≠none:=by
         intro M
         induction M with
         |nil=>intro h;cases h
         |cons y M ihM=>
          intro h hn;obtain⟨y1,y2⟩:=y;unfold au at hn
          split at hn
          ·cases hn
          ·rename_i hb
           rcases JJ.1 h with h|h
           ·exact hb (by rw[h];exact MH _)
           ·exact ihM h hn
        exact this _ hm hlk)
      |some v=>
       refine⟨v,rfl,?_⟩;have hmem:(s.1,v)∈p.1.wb:=by
        rw[(hent x p hp).wb,← hD hp];exact o5 hlk
       have h4:=L9.1 hbad s hs;have h5:=L9.1 (JK.2 h4) (s.1,v) hmem;simpa using h5
     ·-- none did:what was found there is found
      refine⟨oc,?_,hc2⟩;rw[← hc1];exact mM (λe=>e.objs) (λd=>d.objs) (λ_ _=>rfl) hG hGr (wO s.1) (λj hj=>by
       rw[LD];refine⟨λhjl=>?_,λhji=>earlier j hji hj⟩;rcases Nat.lt_trichotomy j i with h|h|h
       ·exact h
       ·exact bJ (h▸hjl) hil
       ·exact bJ ⟨j,hjl,h,hj⟩ hlate) e
    refine hE.ok (mo D e l) sm om wm a w hI _ Q λa' w' hI'=>?_
    refine ih (l++[i]) (listed.setIfInBounds i true) a' w' (by simp;omega) (hG.snoc hlt hil hanc) (by simp[hsz]) (λj hj=>?_) ?_
    ·have hjs:j<listed.size:=by omega
     by_cases hji:i=j
     ·subst hji
      simp[MV,hjs]
     ·have e1:(listed.setIfInBounds i true).getD j true=listed.getD j true:=by
       simp[MV,hjs,Array.getElem_setIfInBounds_ne,hji]
      rw[e1,hlisted j hj];simp only[KC,JQ];exact⟨λh=>.inl h,λh=>h.elim (λh=>h) (λh=>bJ h.symm hji)⟩
    ·rw[← hD hq]at hI'
     simpa[mo]using hI'
 exact main ops.size [] _ a w (by simp) ⟨(λx hx=>by cases hx),(λp q i hp=>by simp at hp),(λp i hp=>by simp at hp)⟩ (by simp) (λi hi=>by simp[MV,hi]) hI
end
variable {B:Base}
section
variable {c:fS} {nt n:Nat} {Ω:Type} {out:Ω}
def Fine (P:Program)(B:Base)(nt:Nat)(k:Env->Option Ω)(out:Ω)(Q:Act->World->Prop):Prop:=∀e,k e=some out->∀a w,Inv P B nt e a w->Q a w
theorem Fine.meet {P:Program}{k:Env->Option Ω}{Q:Act->World->Prop}(h:Fine P B nt k out Q)(l:Option (List Nat)):Fine P B nt (meet l k) out Q:=by
 cases l with
 |none=>exact h
 |some l=>exact λe he a w hi=>h (jH e l) he a w (rn hi l)
end
end Go.Abs
