/- From the reading of a law's arguments to values, and from what the law answers to its row. Conditions: none. -/
import Derived.Test.YtkelpajcfmghiaaGreatDoorA4
import Derived.Test.YtkelpajcfmghiaaGreatDoorRows
import Derived.ProofKit
import Derived.OpenShut
import Derived.JoinedCond
import Derived.Below
import Derived.ReadAgain
import Derived.ChangeArms
import Derived.Shelf.Vars
open Bool renaming and_eq_true → Jm
open Go.DataW renaming TrodAll → LS,trod → LB
open Go.Value renaming okWide → Me
open List renaming append_nil → Kv,getElem?_eq_getElem → KL,map → KI,map_cons → Jy,mem_append_left → Ko,sum_cons → JY
open Nat renaming eq_of_beq_eq_true → JM,le_refl → JG,not_lt_zero → Jx
open Option renaming bind_eq_some_iff → LC
set_option linter.unusedVariables false
set_option linter.unusedSimpArgs false
namespace Go.Abs
open Go.Proofs.YtkelpajcfmghiaaGreatDoor
open Go.ChangeShapes Go.WideShapes Go.ChangeAt Go.RowKit
def Kd.okv:(K:Kd)->K.T->Prop
 | .int k,n=>(Lit.int k n).wf=true
 | .bool,_=>True
 | .str,_=>True
 | .err,_=>True
 | .raw _,_=>True
 | .sl e,xs=>∀x,x∈(xs:List e.T)->e.okv x
 | .st k,x=>Kd.okv k x
 | .pair a b,x=>a.okv x.1/\b.okv x.2
 | .mp _ _,_=>True
 | .fcell _ _ _,_=>True
def Kd.noraw:Kd->Bool
 | .raw _=>false
 | .mp _ _=>false
 | .fcell _ _ _=>false
 | .sl e=>e.noraw
 | .st k=>k.noraw
 | .pair a b=>a.noraw&&b.noraw
 |_=>true
def Kd.bulk:(K:Kd)->K.T->Nat
 | .int _,_=>1
 | .bool,_=>1
 | .str,s=>ByteArray.size s+1
 | .err,_=>1
 | .raw _,_=>1
 | .sl e,xs=>((xs:List e.T).map e.bulk).sum+1
 | .st k,x=>Kd.bulk k x
 | .pair a b,x=>a.bulk x.1+b.bulk x.2
 | .mp _ _,_=>1
 | .fcell _ _ _,_=>1
theorem q9 {H:Type}(l:List (DataW H)):Rows.uptoBulkAll l=(l.map Rows.uptoBulk).sum:=by
 induction l with
 |nil=>rfl
 |cons x l ih=>simp only[Rows.uptoBulkAll,Jy,JY,ih]
theorem xi {H:Type}(l:Lit)(h:∀b,l≠ .string b):Rows.uptoBulk (DataW.lit (H:=H) l)=1:=by
 cases l<;>first|rfl|(exact bJ rfl (h _))|simp[Rows.uptoBulk]
theorem Gz {H:Type}(d:DataW H):1<=Rows.uptoBulk d:=by
 cases d with
 |lit l=>cases l<;>simp[Rows.uptoBulk]
 |_=>simp[Rows.uptoBulk]
theorem qa {α β:Type}(b:β->Nat)(c:α->Nat):∀(l:List α) (R:Nat->β->Prop),(∀i (hi:i<l.length),∃y,R i y/\b y<=c l[i])->
  ∃ys:List β,ys.length=l.length/\(∀i (h:i<ys.length),R i ys[i])/\(ys.map b).sum<=(l.map c).sum
 |[],R,_=>⟨[],rfl,λi h=>bJ h (Jx _),JG _⟩
 |a::l,R,h=>by
  obtain⟨y,h1,h2⟩:=h 0 (by simp);obtain⟨ys,h3,h4,h5⟩:=qa b c l (λi=>R (i+1)) (λi hi=>h (i+1) (by simpa using hi));refine⟨y::ys,by simp[h3],λi hi=>?_,?_⟩
  ·cases i with
   |zero=>exact h1
   |succ i=>exact h4 i (by simpa using hi)
  ·simp only[List.getElem_cons_zero]at h2
   simp only[Jy,JY];omega
theorem BM {w:World}{a:Addr}{v:Value}(h:w.cell? a=some v):a=⟨a.block,a.off,none⟩/\a.block<w.heap.size:=by
 unfold World.cell? at h
 split at h
 ·rename_i hh
  split at h
  ·cases h
  ·rename_i hs
   refine⟨?_,(Array.getElem?_eq_some_iff.1 hh).1⟩;obtain⟨b,o,s⟩:=a;cases s with
   |none=>rfl
   |some _=>simp at hs
 ·cases h
theorem xj {w:World}{a:Addr}{n:Nat}{cs:List Value}(hn:0<n)(h:w.cells? 0 a n=some cs):a=⟨a.block,a.off,none⟩/\a.block<w.heap.size/\cs.length=n/\CellsAt w a.block a.off cs:=by
 unfold World.cells? at h;rw[ab (Nat.zero_le _)]at h;have hl:cs.length=n:=by simpa using mapM_some_length h
 have hg:∀i (hi:i<n),w.cell? (a.add i)=cs[i]?:=λi hi=>mapM_some_get h i i (by simp[hi])
 have h0:w.cell? a=some cs[0]:=by
  have:=hg 0 hn;rw[show a.add 0=a from rfl]at this;rw[this,KL (by omega)]
 obtain⟨e1,e2⟩:=BM h0;refine⟨e1,e2,hl,λj hj=>?_⟩;have:=hg j (by omega);rw[e1,fU,KL hj]at this;exact this
section
variable {P:Program} {ty:List (Nat×Kd)} {w:World} {H:Type} {enc:TypeId×Value->H} {held:Bool}
def mW (P:Program)(w:World)(H:Type)(enc:TypeId×Value->H)(held:Bool)(K:Kd)(t:Nat):Prop:=
 ∀fuel cs x,LB enc P w 0 (λ_=>true) held fuel t cs=some x->∃y:K.T,RO (λb=>b<w.heap.size) w K y cs/\K.okv y/\K.bulk y<=Rows.uptoBulk x.1
theorem kA {t:Nat}{K:Kd}(h:TyOk P ty t K):P.cellsOf t=K.size:=by
 obtain⟨i,z,h1,h2,_⟩:=h.info
 simp[Program.cellsOf,h1,h2]
theorem kF (hty:TysOk P ty){K:Kd}:(∀t,TyOk P ty t K->mW P w H enc held K t)->(∀a b,K≠ .pair a b)->∀(fs:List Field) (off:Nat) (cs:List Value) (n:Nat) (xs:List (DataW H×List MemPlace)),cB ty fs off K=true->cs.length=off+K.size->xs.length=fs.length->
   (∀(i:Nat) (f:Field),fs[i]? =some f->LB enc P w 0 (λ_=>true) held n f.type ((cs.drop f.offset).take (P.cellsOf f.type))=xs[i]?)->
   ∃y:K.T,RO (λb=>b<w.heap.size) w K y (cs.drop off)/\K.okv y/\K.bulk y<=((xs.map (·.1)).map Rows.uptoBulk).sum:=by
 intro hA hnp fs off cs n xs hf hl hx hr
 match fs,hf with
 |[f],hf=>
  simp only[cB,Jm]at hf;have e1:=JM hf.1.1;have hT:=hty.get (fg hf.1.2);obtain⟨x,rfl⟩:∃x,xs=[x]:=List.length_eq_one_iff.1 hx
  have h0:=hr 0 f rfl;rw[e1,kA hT]at h0;have h1:(cs.drop off).take K.size=cs.drop off:=List.take_of_length_le (by rw[List.length_drop];omega);rw[h1]at h0;obtain⟨y,r1,r2,r3⟩:=hA f.type hT n _ x h0;exact⟨y,r1,r2,by simpa using r3⟩
 |f::g::r,hf=>
  exfalso
  cases K with
  |pair a b=>exact hnp a b rfl
  |_=>simp[cB]at hf
 |[],hf=>simp[cB]at hf
theorem BN (hty:TysOk P ty):∀K:Kd,K.noraw=true->(∀t,TyOk P ty t K->mW P w H enc held K t)/\
  (∀(fs:List Field) (off:Nat) (cs:List Value) (n:Nat) (xs:List (DataW H×List MemPlace)),cB ty fs off K=true->cs.length=off+K.size->xs.length=fs.length->
   (∀(i:Nat) (f:Field),fs[i]? =some f->LB enc P w 0 (λ_=>true) held n f.type ((cs.drop f.offset).take (P.cellsOf f.type))=xs[i]?)->
   ∃y:K.T,RO (λb=>b<w.heap.size) w K y (cs.drop off)/\K.okv y/\K.bulk y<=((xs.map (·.1)).map Rows.uptoBulk).sum):=by
 intro K hnr
 induction K with
 |raw k=>cases hnr
 |mp _ _=>cases hnr
 |fcell _ _ _=>cases hnr
 |int k=>
  have hA:∀t,TyOk P ty t (.int k)->mW P w H enc held (.int k) t:=by
   intro t hT fuel cs x h;obtain⟨n,rfl,rfl,hw⟩:=DataW.trod_int (hT.int k rfl) h;exact⟨n,rfl,hw,by rw[xi _ (λb=>by simp)];exact JG _⟩
  exact⟨hA,kF hty hA (λ_ _ h=>by cases h)⟩
 |bool=>
  have hA:∀t,TyOk P ty t .bool->mW P w H enc held .bool t:=by
   intro t hT fuel cs x h;obtain⟨n,rfl,rfl⟩:=DataW.trod_bool (hT.bool rfl) h;exact⟨n,rfl,trivial,by rw[xi _ (λb=>by simp)];exact JG _⟩
  exact⟨hA,kF hty hA (λ_ _ h=>by cases h)⟩
 |str=>
  have hA:∀t,TyOk P ty t .str->mW P w H enc held .str t:=by
   intro t hT fuel cs x h;obtain⟨s,rfl,rfl,_⟩:=DataW.trod_string (hT.str rfl) h;refine⟨s,rfl,trivial,?_⟩;show s.size+1<=s.data.toList.length+1;exact JG _
  exact⟨hA,kF hty hA (λ_ _ h=>by cases h)⟩
 |err=>
  have hA:∀t,TyOk P ty t .err->mW P w H enc held .err t:=by
   intro t hT fuel cs x h;obtain⟨ms,hu⟩:=hT.err rfl;cases fuel with
   |zero=>simp[LB]at h
   |succ fuel=>
    rcases cs with _|⟨v,_|⟨v2,r⟩⟩
    ·simp[LB,hu]at h
    ·cases v<;>first|exact⟨false,⟨_,rfl,.inl ⟨rfl,rfl⟩⟩,trivial,Gz _⟩|exact⟨true,⟨_,rfl,.inr ⟨rfl,_,_,rfl⟩⟩,trivial,Gz _⟩|(simp[LB,hu]at h;done)
    ·simp[LB,hu]at h
  exact⟨hA,kF hty hA (λ_ _ h=>by cases h)⟩
 |sl e ih=>
  have ih:=ih hnr;have hA:∀t,TyOk P ty t (.sl e)->mW P w H enc held (.sl e) t:=by
   intro t hT fuel cs x h;obtain⟨t',hu,hl⟩:=hT.sl e rfl;have hT':=hty.get hl;have hsz:=kA hT';rcases DataW.trod_slice hu h with⟨rfl,rfl⟩|⟨a,len,cap,elems,rest,n,rfl,rfl,rfl,_,hle,_,hlen,hel,_,_⟩
   ·exact⟨[],⟨none,0,rfl,JG _,λi hi=>bJ hi (Jx i)⟩,(λx hx=>by cases hx),JG _⟩
   ·obtain⟨ys,h1,h2,h3⟩:=qa (b:=e.bulk) (c:=λq:DataW H×List MemPlace=>Rows.uptoBulk q.1) elems
     (λi y=>(∃vs,a=⟨a.block,a.off,none⟩/\a.block<w.heap.size/\CellsAt w a.block (a.off+i*e.size) vs/\RO (λb=>b<w.heap.size) w e y vs)/\e.okv y) (λi hi=>by
      have h4:=hel i (by omega);rw[KL hi,LC]at h4;obtain⟨vs,h5,h6⟩:=h4;rw[hsz]at h5;obtain⟨c1,c2,c3,c4⟩:=xj e.size_pos h5;obtain⟨y,r1,r2,r3⟩:=ih.1 t' hT' n vs _ h6;have hab:(a.add (i*e.size)).block=a.block:=by unfold Addr.add;split<;>rfl
      have hspot:a=⟨a.block,a.off,none⟩:=by
       by_cases hi0:i*e.size=0
       ·rw[hi0]at c1;exact c1
       ·-- the first element tells
        have h7:=hel 0 (by omega);rw[KL (by omega),LC]at h7;obtain⟨vs0,h8,_⟩:=h7;rw[hsz,Nat.zero_mul]at h8;exact(xj e.size_pos h8).1
      refine⟨y,⟨⟨vs,hspot,by rw[← hab];exact c2,?_,r1⟩,r2⟩,r3⟩;rw[hspot,fU]at c4;exact c4)
    refine⟨ys,⟨some a,cap,by show [_]=[_];rw[show List.length ys=len by omega],by show List.length ys<=cap;omega,λi hi=>?_⟩,λy hy=>?_,?_⟩
    ·obtain⟨⟨vs,c1,c2,c3,c4⟩,_⟩:=h2 i hi
     exact⟨a.block,a.off,vs,congrArg some c1,c2,c3,c4⟩
    ·obtain⟨i,hi,rfl⟩:=List.getElem_of_mem hy
     exact(h2 i hi).2
    ·show(KI e.bulk ys).sum+1<=_
     simp only[Rows.uptoBulk,q9,List.map_map];have h3':(KI e.bulk ys).sum<=(KI (Rows.uptoBulk∘λx:DataW H×List MemPlace=>x.1) elems).sum:=h3;omega
  exact⟨hA,kF hty hA (λ_ _ h=>by cases h)⟩
 |st k ih=>
  have ih:=ih hnr;have hA:∀t,TyOk P ty t (.st k)->mW P w H enc held (.st k) t:=by
   intro t hT fuel cs x h;obtain⟨fs,hu,hf⟩:=hT.st k rfl;obtain⟨xs,n,rfl,rfl,h1,h2,h3⟩:=DataW.trod_struct hu h;rw[kA hT]at h1;obtain⟨y,r1,r2,r3⟩:=ih.2 fs.toList 0 cs n xs hf (by rw[h1];simp[Kd.size]) (by simpa using h2) (λi f hi=>h3 i f (by simpa using hi));rw[List.drop_zero]at r1;refine⟨y,r1,r2,?_⟩;show k.bulk y<=_;simp only[Rows.uptoBulk,q9];omega
  exact⟨hA,kF hty hA (λ_ _ h=>by cases h)⟩
 |pair a b iha ihb=>
  have hnr':(a.noraw&&b.noraw)=true:=hnr;rw[Jm]at hnr';have iha:=iha hnr'.1;have ihb:=ihb hnr'.2;refine⟨λt hT=>bJ rfl (hT.np a b),λfs off cs n xs hf hl hx hr=>?_⟩
  match fs,hf with
  |[f],hf=>simp[cB,Kd.np]at hf
  |[],hf=>simp[cB]at hf
  |f::g::r,hf=>
   simp only[cB,Jm]at hf;obtain⟨⟨⟨h1,h2⟩,h3⟩,h4⟩:=hf;have e1:=JM h1;have hT:=hty.get (fg h2);simp only[Kd.size]at hl
   match xs,hx with
   |[],hx=>simp at hx
   |x::xs,hx=>
    have h0:=hr 0 f rfl;rw[e1,kA hT]at h0;obtain⟨y,r1,r2,r3⟩:=iha.1 f.type hT n _ x h0;obtain⟨z,s1,s2,s3⟩:=ihb.2 (g::r) (off+a.size) cs n xs h4 (by omega) (by simpa using hx) (λi f' hi=>by
     have:=hr (i+1) f' (by simpa using hi);simpa using this)
    refine⟨((y,z):a.T×b.T),⟨(cs.drop off).take a.size,cs.drop (off+a.size),?_,r1,s1⟩,⟨r2,s2⟩,?_⟩
    ·rw[← List.drop_drop,List.take_append_drop]
    ·show a.bulk y+b.bulk z<=_
     simp only[Jy,JY];omega
end
theorem Ft {P:Program}{ty:List (Nat×Kd)}{W:World}{r:Reach}{b t:Nat}{K:Kd}{v:Value}(hn:K.noraw=true)(hT:TyOk P ty t K)(h:Me P W r b t v):VRep K v.cells.toList v:=by
 cases K with
 |raw k=>cases hn
 |mp _ _=>cases hn
 |fcell _ _ _=>cases hn
 |int k=>obtain⟨n,rfl⟩:=okWide_int (hT.int k rfl) h;exact⟨rfl,rfl⟩
 |bool=>
  have hu:=hT.bool rfl;unfold Me Cell.okWide at h;rw[hu]at h
  cases v<;>first|exact⟨rfl,rfl⟩|(simp[hu,Cell.ok]at h;done)
 |str=>obtain⟨n,rfl⟩:=okWide_string (hT.str rfl) h;exact⟨rfl,rfl⟩
 |err=>obtain⟨ms,hu⟩:=hT.err rfl;rcases okWide_iface hu h with rfl|⟨u,x,rfl⟩<;>exact⟨rfl,rfl⟩
 |sl e=>obtain⟨t',hu,_⟩:=hT.sl e rfl;obtain⟨a,l,c,rfl⟩:=okWide_slice hu h;exact⟨rfl,rfl⟩
 |st k=>
  obtain⟨fs,hu,_⟩:=hT.st k rfl;unfold Me at h;rw[hu]at h;obtain⟨cs,rfl,_⟩:=h;exact⟨rfl,rfl⟩
 |pair a c=>exact bJ rfl (hT.np a c)
@[reducible] def Aq (Ks:List Kd):List ASh:=Ks.map ASh.ro
def Fu:(Ks:List Kd)->jB (Aq Ks)->Prop
 |[],_=>True
 |K::Ks,x=>K.okv x.1/\Fu Ks x.2
def mX:(Ks:List Kd)->jB (Aq Ks)->Nat
 |[],_=>0
 |K::Ks,x=>K.bulk x.1+mX Ks x.2
def xk (ty:List (Nat×Kd)):List Nat->List Kd->Bool
 |[],[]=>true
 |t::ts,K::Ks=>(K.noraw&&pU ty t K)&&xk ty ts Ks
 |_,_=>false
section
variable {P:Program} {ty:List (Nat×Kd)} {W W':World} {H:Type} {enc:TypeId×Value->H}
theorem tN (hty:TysOk P ty){base:Nat}:∀(ts:List Nat) (Ks:List Kd) (vs:List Value) (ds:List (DataW H)) (ps:List MemPlace),xk ty ts Ks=true->
  LS enc P W 0 (λ_=>true) true ts vs ds ps->(∀(j:Nat) t v,ts[j]? =some t->vs[j]? =some v->Me P W .any base t v)->
  ∃v:jB (Aq Ks),vs.length=(eG (Aq Ks) v).length/\(∀(j:Nat) a x,(eG (Aq Ks) v)[j]? =some a->vs[j]? =some x->pi P (λb=>b<W.heap.size) W (λ_=>False) none [] a x)/\Fu Ks v/\mX Ks v<=Rows.uptoBulkAll ds
 |[],[],[],[],ps,_,_,_=>⟨(),rfl,(λj a x h=>by cases h),trivial,JG _⟩
 |t::ts,K::Ks,v::vs,d::ds,ps,ht,⟨p,q,h1,h2,_⟩,hv=>by
  simp only[xk,Jm]at ht;have hT:=hty.get (fg ht.1.2);obtain⟨fuel,hf⟩:=h1;obtain⟨y,r1,r2,r3⟩:=(BN hty K ht.1.1).1 t hT fuel _ _ hf;obtain⟨z,s1,s2,s3,s4⟩:=tN hty ts Ks vs ds q ht.2 h2 (λj t v h1 h2=>hv (j+1) t v (by simpa using h1) (by simpa using h2));refine⟨((y,z):K.T×jB (Aq Ks)),by show vs.length+1=(eG (Aq Ks) z).length+1;rw[s1],λj a x ha hx=>?_,⟨r2,s3⟩,?_⟩
  ·cases j with
   |zero=>
    have e1:ASh.enc (.ro K) y=a:=Option.some.inj (show some (ASh.enc (.ro K) y)=some a from ha);have e2:v=x:=by simpa using hx
    subst e1 e2;exact⟨λ_ h=>h,rfl,_,r1,Ft ht.1.1 hT (hv 0 t v rfl rfl)⟩
   |succ j=>exact s2 j a x (show(eG (Aq Ks) z)[j]? =some a from ha) (by simpa using hx)
  ·show K.bulk y+mX Ks z<=Rows.uptoBulk d+Rows.uptoBulkAll ds
   have:K.bulk y<=Rows.uptoBulk d:=r3;omega
 |[],[],_::_,_,_,_,h,_=>h.elim
 |[],[],[],_::_,_,_,h,_=>h.elim
 |[],_::_,_,_,_,h,_,_=>by cases h
 |_::_,[],_,_,_,h,_,_=>by cases h
 |_::_,_::_,[],_,_,_,h,_=>by cases h
 |_::_,_::_,_::_,[],_,_,h,_=>by cases h
theorem law_calls (hty:TysOk P ty){f:Nat}{Ks:List Kd}{F:jB (Aq Ks)->Option Bool}(hok:aq P f ⟨Aq Ks,[.ro .bool],F⟩){base:Nat}{ts:List Nat}(hts:xk ty ts Ks=true){args:Array Value}{ds:List (DataW H)}{ps:List MemPlace}
  (hA:LS enc P W 0 (λ_=>true) true ts args.toList ds ps) (hv:∀(j:Nat) t v,ts[j]? =some t->args[j]? =some v->Me P W .any base t v)
  (hG:GlobOk P (λb=>b<W.heap.size) W) (hF:∀v,Fu Ks v->mX Ks v<=Rows.uptoBulkAll ds->F v=some true):Calls P f args W λe W'=>e= .returned (.bool true)/\Below W.heap.size W W':=by
 obtain⟨v,h1,h2,h3,h4⟩:=tN hty ts Ks args.toList ds ps hts hA (λj t v h1 h2=>hv j t v h1 (by simpa using h2));have hE:tl P W (eG (Aq Ks) v) args.toList ⟨λb=>b<W.heap.size,λ_ _=>False,λ_=>none,λ_=>[]⟩:=
  ⟨h1,λj a x ha hx=>h2 j a x ha hx,λj _=>⟨λ_ h=>h,rfl⟩,λb h=>h,λ_ _ h=>h.elim,λ_ _ h=>h.elim,λ_ _ _ _ h=>h.elim,(λi b off h=>by cases h),hG⟩
 have hc:=hok.ans v true (hF v h3 h4) W args.toList _ hE;rw[show args.toList.toArray=args by simp]at hc;refine hc.mono λe w2 ⟨x,g2,he,hd⟩=>?_
 have hno:∀b o,¬Wr (eG (Aq Ks) v) ⟨λb=>b<W.heap.size,λ_ _=>False,λ_=>none,λ_=>[]⟩ b o:=by
  rintro b o (⟨j,h⟩|⟨j,a,off,_,h,_⟩)
  ·exact h
  ·cases h
 refine⟨?_,hd.ext.os,hd.ext.tape,hd.ext.output,hd.ext.size,λk hk=>hd.ext.block k hk (λo=>hno k o)⟩;obtain⟨_,r1,r2⟩:RetRep g2.S w2 _ _ (.ro .bool true) x:=hd.rets;have r1:_=[Value.bool true]:=r1;rw[r1]at r2;rw[he,r2.1]
 rfl
theorem nC {base:Nat}{spare:Nat->Bool}{held:Bool}:∀{ts:List TypeId} {vs:List Value} {ds:List (DataW H)} {ps:List MemPlace},LS enc P W base spare held ts vs ds ps->(∀p,p∈ps->W.sameAt W' p)->LS enc P W' base spare held ts vs ds ps
 |[],[],[],_,h,_=>h
 |_::_,_::_,_::_,_,⟨p,q,⟨n,h1⟩,h2,e⟩,hs=>⟨p,q,⟨n,DataW.trod_carry n _ _ _ h1 (λx hx=>hs x (by rw[e];exact Ko _ hx))⟩,nC h2 (λx hx=>hs x (by rw[e];exact List.mem_append_right _ hx)),e⟩
theorem law_contract (hty:TysOk P ty)(hl:laidOutB P=true)(hm:mapsRowed P=true)(hz:((List.range P.types.size).all λt=>match P.underlying t with|some (.slice e)=>decide (0<P.cellsOf e)|_=>true)=true)
  {f:Nat} {fn:Func} {s:ChangeSpec} {Ks:List Kd} {F:jB (Aq Ks)->Option Bool} (hok:aq P f ⟨Aq Ks,[.ro .bool],F⟩) (hts:xk ty fn.params.toList Ks=true) (hrow:(fn.params.toList.all λt=>Nat.blt t P.types.size)=true)
  {tb:Nat} (hres:fn.resultTypes= #[tb]) (htb:P.underlying tb=some .bool) (hsv:s.vars=[]) (hsf:∀(H:Type) (ds:List (DataW H)),ds.length=fn.params.size->s.fn H ds={results:=[.lit (.bool true)],args:=ds})
  {base:Nat} {args:Array Value} {ds gs:List (DataW H)} {before:List MemPlace}
  (hval:∀(j:Nat) t v,fn.params[j]? =some t->args[j]? =some v->Me P W .any base t v)
  (hW:DataW.Whole enc P fn.params.toList s.vars false W args.toList ds gs before)
  (hG:GlobOk P (λb=>b<W.heap.size) W) (hF:∀v,Fu Ks v->mX Ks v<=Rows.uptoBulkAll (ds++gs)->F v=some true):
  Calls P f args W λe W'=>∃v,e= .returned v/\s.post enc P fn false true false false W args v W':=by
 have hW':=hW;obtain⟨p,q,hA,hV,rfl,hfz,_⟩:=hW;rw[hsv]at hV;obtain⟨rfl,rfl⟩:=trodVars_none hV;rw[Kv]at hF;refine(law_calls hty hok hts hA (λj t v h1 h2=>hval j t v (by simpa using h1) h2) hG hF).mono λe W' ⟨he,hb⟩=>⟨_,he,?_⟩
 have hlt:∀x,x∈p->x.block<W.heap.size:=λx hx=>hW'.lt x (Ko _ hx)
 have hlen:(ds++([]:List (DataW H))).length=fn.params.size:=by
  have:∀(ts:List TypeId) (vs:List Value) (ds:List (DataW H)) (ps:List MemPlace),LS enc P W 0 (λ_=>true) true ts vs ds ps->ds.length=ts.length:=by
   intro ts
   induction ts with
   |nil=>intro vs ds ps h;match vs,ds,h with|[],[],_=>rfl
   |cons t ts ih=>intro vs ds ps h;match vs,ds,h with|v::vs,d::ds,⟨p,q,_,h2,_⟩=>simp[ih vs ds q h2]
  rw[Kv,this _ _ _ _ hA]
  simp
 have hargs:∀sp:Nat->Bool,(∀x,x∈p->sp x.block=true)->LS enc P W' 0 sp true fn.params.toList args.toList ds p:=λsp hsp=>
  nC (DataW.TrodAll.respare (kids_rows hl hm) (slices_full_of P hz) (λt ht=>Nat.le_of_ble_eq_true (List.all_eq_true.1 hrow t ht)) hA hsp) (λx hx=>hb.same (hlt x hx))
 have hres':∀(b:Nat) (sp:Nat->Bool) (hd:Bool),LS enc P W' b sp hd fn.resultTypes.toList ((Value.bool true).resultList fn.resultTypes.size) [.lit (.bool true)] []:=by
  intro b sp hd;rw[hres];exact trodAll_mk1 (shut_bool htb true)
 refine⟨ds,[],p++[],[],p,[],hW',?_,?_,?_,hb.frame _,λ_=>?_⟩
 ·rw[hsf H _ hlen];exact hres' _ _ _
 ·rw[hsf H _ hlen,Kv];exact hargs _ (λx hx=>by simpa using hlt x hx)
 ·rw[hsf H _ hlen,hsv];rfl
 ·refine⟨ok_one hres rfl (okWide_bool_mk htb true),[.lit (.bool true)]++ds,[],([]++p)++[],⟨[]++p,[],?_,?_,rfl,?_,(λh=>by cases h)⟩,?_⟩
  ·exact trodAll_append (hargs _ (λ_ _=>rfl)) (hres' 0 (λ_=>true) true)
  ·rw[hsv];rfl
  ·intro b off hp
   have hp':MemPlace.cell b off∈p:=by simpa using hp
   rw[hb.frozen (p:=⟨b,off,none⟩) (hlt _ hp')];exact hfz b off (by simpa using hp')
  ·intro x hx _
   simpa using hx
end
end Go.Abs
