/- The abstract interpreter of the elaborated code, and that what it answers is what the machine does: part 1. Conditions: none. -/
import Derived.Calls
import Derived.Laws.Sem
import Derived.Laws.IdiomCopy
import Derived.Laws.Cells
import Derived.Laws.NewBlocks
import Derived.Laws.AppendOwn
import Derived.Lib.LaidTab
import Derived.Lib.ItoaNum
import Derived.Laws.Entries
import Derived.ChangeKeysEq
import Derived.Laws.BytesString
open Array renaming ext' → MJ,getElem?_eq_none → Mw,getElem?_modify → NK,getElem?_push → N6
open Bool renaming and_eq_true → Jm,eq_false_iff → JK,false_eq_true → Jt,or_eq_true → KY
open Go.Addr.mk renaming injEq → ML
open Go.Builtin renaming len_ → Nu
open Go.Instr renaming loadAt → N8,sliceBound → OG,sliceBounds → Ok
open Go.IntKind renaming i64 → Jh
open Go.Op renaming equalIn → MI
open Go.Oper renaming upon_value → Nx
open Go.Region renaming binds → LF
open Go.Result renaming andThen_ok → Js
open Go.Sem renaming run_bind → JC,run_ite → Of,run_pure → JP
open Go.Value renaming oneCell' → LN
open Go.World renaming cell? → M8,var? → Oe
open Iff renaming rfl → NV
open List renaming drop_left → Kx,getD → Ji,getElem?_cons_zero → Kq,getElem?_eq_some_iff → JU,getElem?_toArray → MR,getElem_append_left → LX,getElem_append_right → Mr,getElem_cons_zero → NL,length → Je,length_eq_one_iff → My,length_set → MN,map_cons → Jy,map_nil → Kz,mem_append → KC,mem_cons_of_mem → JE,mem_cons_self → JA,replicate → JZ,set → Kl,take_append_drop → KP,take_left → KM
open List.cons renaming injEq → Ky
open Nat renaming add_assoc → L5,add_mul → Ku,add_zero → KH,beq → KA,ble → NW,blt → Ll,eq_of_beq_eq_true → JM,le_of_ble_eq_true → JV,le_refl → JG,lt_of_lt_of_le → JX,lt_or_ge → NX,mul_le_mul_right → JW,one_mul → KQ,one_pos → Mc
open Option renaming map_some → KR
open Option.some renaming injEq → Jq
open Prod.mk renaming injEq → JH
set_option linter.unusedVariables false
set_option linter.unusedSimpArgs false
namespace Go.Abs
theorem ab {c:Prop}{h:Decidable c}(hc:c){α:Sort _}{t e:α}:ite c t e=t:=if_pos hc
theorem ao {c:Prop}{h:Decidable c}(hc:¬c){α:Sort _}{t e:α}:ite c t e=e:=if_neg hc
theorem db {p:Prop} [Decidable p]:(decide p=true)=p:=decide_eq_true_eq
theorem iN {p:Prop} [h:Decidable p]:p->decide p=true:=decide_eq_true
theorem dp {p:Prop} [h:Decidable p]:¬p->decide p=false:=decide_eq_false
theorem vk {p:Prop}{h:Decidable p}:decide p=false↔¬p:=decide_eq_false_iff_not
abbrev bJ {a:Prop}{b:Sort _}(h:a)(k:¬a):b:=absurd h k
inductive Kd where
 |int (k:IntKind)
 |bool
 |str
 |err
 |raw (k:Kd)
 |sl (e:Kd)
 |st (k:Kd)
 |pair (a b:Kd)
 |mp (k e:Kd)
 |fcell (f:Nat) (a b:Kd)
@[reducible] def Kd.T:Kd → Type
 | .int _=>Int
 | .bool=>Bool
 | .str=>ByteArray
 | .err=>Bool
 | .raw _=>List Value
 | .sl e=>List e.T
 | .st k=>k.T
 | .pair a b=>a.T×b.T
 | .mp k e=>List (k.T×e.T)
 | .fcell _ a b=>Option (a.T×b.T)
def Kd.size:Kd->Nat
 | .int _=>1
 | .bool=>1
 | .str=>1
 | .err=>1
 | .raw k=>k.size
 | .sl _=>1
 | .st k=>k.size
 | .pair a b=>a.size+b.size
 | .mp _ _=>1
 | .fcell _ _ _=>1
def Kd.zc:Kd->List Value
 | .int k=>[.int k 0]
 | .bool=>[.bool false]
 | .str=>[.string ⟨#[]⟩]
 | .err=>[.nilIface]
 | .raw k=>k.zc
 | .sl _=>[.slice none 0 0]
 | .st k=>k.zc
 | .pair a b=>a.zc++b.zc
 | .mp _ _=>[.map none]
 | .fcell _ _ _=>[.nilFunc]
def Kd.zero:(K:Kd)->K.T
 | .int _=>(0:Int)
 | .bool=>false
 | .str=>(⟨#[]⟩:ByteArray)
 | .err=>false
 | .raw k=>k.zc
 | .sl _=>[]
 | .st k=>k.zero
 | .pair a b=>(a.zero,b.zero)
 | .mp _ _=>[]
 | .fcell _ _ _=>none
def BU:IntKind->IntKind->Bool
 | .i8,.i8=>true| .i16,.i16=>true| .i32,.i32=>true| .i64,.i64=>true
 | .u8,.u8=>true| .u16,.u16=>true| .u32,.u32=>true| .u64,.u64=>true
 |_,_=>false
theorem qv:∀{a b:IntKind},BU a b=true->a=b:=by
 intro a b h;cases a<;>cases b<;>first|rfl|(exact bJ h (by decide))
def Kd.beq:Kd->Kd->Bool
 | .int k,.int l=>BU k l
 | .bool,.bool=>true
 | .str,.str=>true
 | .err,.err=>true
 | .raw a,.raw b=>a.beq b
 | .sl a,.sl b=>a.beq b
 | .st a,.st b=>a.beq b
 | .pair a b,.pair c d=>a.beq c&&b.beq d
 | .mp a b,.mp c d=>a.beq c&&b.beq d
 | .fcell f a b,.fcell g c d=>KA f g&&(a.beq c&&b.beq d)
 |_,_=>false
theorem Kd.eq_of_beq:∀{a b:Kd},a.beq b=true->a=b
 | .int _,.int _,h=>by rw[qv h]
 | .bool,.bool,_=>rfl
 | .str,.str,_=>rfl
 | .err,.err,_=>rfl
 | .raw a,.raw b,h=>by rw[Kd.eq_of_beq (a:=a) (b:=b) h]
 | .sl a,.sl b,h=>by rw[Kd.eq_of_beq (a:=a) (b:=b) h]
 | .st a,.st b,h=>by rw[Kd.eq_of_beq (a:=a) (b:=b) h]
 | .pair a b,.pair c d,h=>by
  have h':(a.beq c&&b.beq d)=true:=h;rw[Jm]at h';rw[Kd.eq_of_beq (a:=a) (b:=c) h'.1,Kd.eq_of_beq (a:=b) (b:=d) h'.2]
 | .mp a b,.mp c d,h=>by
  have h':(a.beq c&&b.beq d)=true:=h;rw[Jm]at h';rw[Kd.eq_of_beq (a:=a) (b:=c) h'.1,Kd.eq_of_beq (a:=b) (b:=d) h'.2]
 | .fcell f a b,.fcell g c d,h=>by
  have h':(KA f g&&(a.beq c&&b.beq d))=true:=h;rw[Jm,Jm]at h';rw[JM h'.1,Kd.eq_of_beq (a:=a) (b:=c) h'.2.1,Kd.eq_of_beq (a:=b) (b:=d) h'.2.2]
 | .fcell _ _ _,.int _,h| .fcell _ _ _,.bool,h| .fcell _ _ _,.str,h| .fcell _ _ _,.err,h| .fcell _ _ _,.raw _,h| .fcell _ _ _,.sl _,h| .fcell _ _ _,.st _,h| .fcell _ _ _,.pair _ _,h| .fcell _ _ _,.mp _ _,h
 | .int _,.fcell _ _ _,h| .bool,.fcell _ _ _,h| .str,.fcell _ _ _,h| .err,.fcell _ _ _,h| .raw _,.fcell _ _ _,h| .sl _,.fcell _ _ _,h| .st _,.fcell _ _ _,h| .pair _ _,.fcell _ _ _,h| .mp _ _,.fcell _ _ _,h
 | .mp _ _,.int _,h| .mp _ _,.bool,h| .mp _ _,.str,h| .mp _ _,.err,h| .mp _ _,.raw _,h| .mp _ _,.sl _,h| .mp _ _,.st _,h| .mp _ _,.pair _ _,h
 | .int _,.mp _ _,h| .bool,.mp _ _,h| .str,.mp _ _,h| .err,.mp _ _,h| .raw _,.mp _ _,h| .sl _,.mp _ _,h| .st _,.mp _ _,h| .pair _ _,.mp _ _,h
 | .int _,.raw _,h| .bool,.raw _,h| .str,.raw _,h| .err,.raw _,h| .sl _,.raw _,h| .st _,.raw _,h| .pair _ _,.raw _,h
 | .raw _,.int _,h| .raw _,.bool,h| .raw _,.str,h| .raw _,.err,h| .raw _,.sl _,h| .raw _,.st _,h| .raw _,.pair _ _,h
 | .int _,.err,h| .bool,.err,h| .str,.err,h| .sl _,.err,h| .st _,.err,h| .pair _ _,.err,h
 | .err,.int _,h| .err,.bool,h| .err,.str,h| .err,.sl _,h| .err,.st _,h| .err,.pair _ _,h
 | .int _,.bool,h| .int _,.str,h| .int _,.sl _,h| .int _,.st _,h| .int _,.pair _ _,h
 | .bool,.int _,h| .bool,.str,h| .bool,.sl _,h| .bool,.st _,h| .bool,.pair _ _,h
 | .str,.int _,h| .str,.bool,h| .str,.sl _,h| .str,.st _,h| .str,.pair _ _,h
 | .sl _,.int _,h| .sl _,.bool,h| .sl _,.str,h| .sl _,.st _,h| .sl _,.pair _ _,h
 | .st _,.int _,h| .st _,.bool,h| .st _,.str,h| .st _,.sl _,h| .st _,.pair _ _,h
 | .pair _ _,.int _,h| .pair _ _,.bool,h| .pair _ _,.str,h| .pair _ _,.sl _,h| .pair _ _,.st _,h=>bJ h (by simp[Kd.beq])
def Kd.flat:Kd->Bool
 | .int _=>true
 | .bool=>true
 | .str=>true
 | .err=>true
 | .raw _=>true
 | .sl _=>false
 | .st k=>k.flat
 | .pair a b=>a.flat&&b.flat
 | .mp _ _=>false
 | .fcell _ _ _=>false
def Kd.agg:Kd->Bool
 | .st _=>true
 | .raw _=>true
 |_=>false
def Kd.val (K:Kd)(cs:List Value):Value:=if K.agg then .agg cs.toArray else cs.headD undef
def VRep (K:Kd)(cs:List Value)(v:Value):Prop:=v=K.val cs/\v.cells=cs.toArray
def CellsAt (w:World)(b o:Nat)(vs:List Value):Prop:=∀j (h:j<vs.length),w.cell? ⟨b,o+j,none⟩=some vs[j]
def vl (b:Bool)(v:Value):Prop:=(b=false/\v= .nilIface)\/(b=true/\∃t p,v= .iface t p)
abbrev PV:Type:=Value ⊕(Array MapEntry×Nat)
def _root_.Go.World.pk (w:World)(b o:Nat):Option PV:=match w.heap[b]? with
 |some (.map es c)=>some (.inr (es,c))
 |_=>(w.cell? ⟨b,o,none⟩).map .inl
theorem zy {w w':World}{b o:Nat}(h:w'.heap[b]? =w.heap[b]?):w'.pk b o=w.pk b o:=by
 unfold World.pk M8;rw[h]
theorem km {w:World}{b o:Nat}{v:Value}:w.pk b o=some (.inl v)↔w.cell? ⟨b,o,none⟩=some v:=by
 unfold World.pk;cases hb:w.heap[b]? with
 |none=>simp
 |some x=>
  cases x with
  |map es c=>
   have:w.cell? ⟨b,o,none⟩=none:=by unfold M8;dsimp only;rw[hb]
   rw[this];simp
  |_=>simp
theorem tZ {w:World}{b o:Nat}{z:Array MapEntry×Nat}:w.pk b o=some (.inr z)↔w.heap[b]? =some (.map z.1 z.2):=by
 unfold World.pk;cases hb:w.heap[b]? with
 |none=>simp
 |some x=>
  cases x with
  |map es c=>obtain⟨z1,z2⟩:=z;simp
  |_=>simp
theorem na {w w':World}{b o b' o':Nat}(h:w'.pk b' o'=w.pk b o):w'.cell? ⟨b',o',none⟩=w.cell? ⟨b,o,none⟩:=by
 cases hc:w.cell? ⟨b,o,none⟩with
 |some v=>exact km.1 (h.trans (km.2 hc))
 |none=>
  cases hc':w'.cell? ⟨b',o',none⟩with
  |none=>rfl
  |some v=>exact bJ (km.1 (h.symm.trans (km.2 hc'))) (by rw[hc];simp)
theorem xU {w w':World}{b o:Nat}(hc:w'.cell? ⟨b,o,none⟩=w.cell? ⟨b,o,none⟩)(hm:∀es c,w'.heap[b]? =some (.map es c)↔w.heap[b]? =some (.map es c)):w'.pk b o=w.pk b o:=by
 cases h:w.pk b o with
 |some x=>
  cases x with
  |inl v=>exact km.2 (hc.trans (km.1 h))
  |inr z=>exact tZ.2 ((hm _ _).2 (tZ.1 h))
 |none=>
  cases h':w'.pk b o with
  |none=>rfl
  |some x=>
   cases x with
   |inl v=>exact bJ (km.2 (hc.symm.trans (km.1 h'))) (by rw[h];simp)
   |inr z=>exact bJ (tZ.2 ((hm _ _).1 (tZ.1 h'))) (by rw[h];simp)
theorem vm (w:World)(a:Addr)(v:Value)(i:Nat)(es:Array MapEntry)(c:Nat):(w.setCell a v).heap[i]? =some (.map es c)↔w.heap[i]? =some (.map es c):=by
 simp only[World.setCell,NK]
 by_cases h:a.block=i
 ·rw[ab h]
  cases w.heap[i]? with
  |none=>simp
  |some x=>cases x<;>simp
 ·rw[ao h]
def I0:(K:Kd)->K.T->Value->Prop
 | .int k,n,v=>v= .int k n
 | .str,s,v=>v= .string s
 |_,_,_=>False
def xV (f b1 o1 b2 o2 c oc:Nat):Value:=.func (.func f) #[] #[.pointer (some ⟨b1,o1,none⟩),.pointer (some ⟨b2,o2,none⟩),.pointer (some ⟨c,oc,none⟩)]
def RO (S:Nat->Prop)(w:World):(K:Kd)->K.T->List Value->Prop
 | .int k,n,cs=>cs=[.int k n]
 | .bool,b,cs=>cs=[.bool b]
 | .str,s,cs=>cs=[.string s]
 | .err,b,cs=>∃v,cs=[v]/\vl b v
 | .raw k,x,cs=>cs=x/\x.length=k.size/\∀v∈x,v.oneCell'=true
 | .sl e,xs,cs=>∃A cap,cs=[.slice A (Je xs) cap]/\Je xs<=cap/\
   ∀i (h:i<Je xs),∃b o vs,A=some ⟨b,o,none⟩/\S b/\CellsAt w b (o+i*e.size) vs/\RO S w e xs[i] vs
 | .st k,x,cs=>RO S w k x cs
 | .pair a b,x,cs=>∃c1 c2,cs=c1++c2/\RO S w a x.1 c1/\RO S w b x.2 c2
 | .mp k e,xs,cs=>(cs=[.map none]/\xs=[])\/∃r es c,cs=[.map (some r)]/\S r/\w.pk r 0=some (.inr (es,c))/\es.size=Je xs/\
   ∀i (h:i<Je xs),∃en vs,es[i]? =some en/\I0 k xs[i].1 en.key/\VRep e vs en.val/\RO S w e xs[i].2 vs
 | .fcell f a b,x,cs=>(x=none/\cs=[.nilFunc])\/∃(q:a.T×b.T) (b1 o1 b2 o2 c oc:Nat) (c1 c2:List Value),x=some q/\cs=[xV f b1 o1 b2 o2 c oc]/\
   (S b1/\CellsAt w b1 o1 c1/\RO S w a q.1 c1)/\(S b2/\CellsAt w b2 o2 c2/\RO S w b q.2 c2)/\S c/\CellsAt w c oc [xV f b1 o1 b2 o2 c oc]
theorem RO.length {S:Nat->Prop}{w:World}:∀{K:Kd} {x:K.T} {cs:List Value},RO S w K x cs->cs.length=K.size
 | .int _,_,_,h=>by rw[show _=_ from h];rfl
 | .bool,_,_,h=>by rw[show _=_ from h];rfl
 | .str,_,_,h=>by rw[show _=_ from h];rfl
 | .err,_,_,h=>by obtain⟨v,rfl,_⟩:=h;rfl
 | .raw k,_,_,h=>by obtain⟨rfl,h,_⟩:=h;exact h
 | .sl e,xs,cs,h=>by
  obtain⟨A,cap,rfl,_⟩:=h
  rfl
 | .st k,x,cs,h=>RO.length (K:=k) h
 | .pair a b,x,cs,h=>by
  obtain⟨c1,c2,rfl,h1,h2⟩:=h
  simp[Kd.size,RO.length h1,RO.length h2]
 | .mp k e,xs,cs,h=>by
  rcases h with⟨rfl,_⟩|⟨r,es,c,rfl,_⟩<;>rfl
 | .fcell f a b,x,cs,h=>by
  rcases h with⟨_,rfl⟩|⟨q,b1,o1,b2,o2,c,oc,c1,c2,_,rfl,_⟩<;>rfl
theorem Kd.size_pos:∀K:Kd,0<K.size
 | .int _=>Mc
 | .bool=>Mc
 | .str=>Mc
 | .err=>Mc
 | .raw k=>k.size_pos
 | .sl _=>Mc
 | .st k=>k.size_pos
 | .pair a b=>by have:=a.size_pos;simp only[Kd.size];omega
 | .mp _ _=>Mc
 | .fcell _ _ _=>Mc
theorem CellsAt.of_same {w w':World}{b o:Nat}{vs:List Value}(h:CellsAt w b o vs)
  (hs:∀o' v,w.pk b o'=some v->w'.pk b o'=some v):CellsAt w' b o vs:=
 λj hj=>km.1 (hs _ _ (km.2 (h j hj)))
theorem RO.mono {S S':Nat->Prop}{w w':World}(hS:∀b,S b->S' b)
  (hw:∀b o v,S b->w.pk b o=some v->w'.pk b o=some v):
  ∀{K:Kd} {x:K.T} {cs:List Value},RO S w K x cs->RO S' w' K x cs
 | .int _,_,_,h=>h
 | .bool,_,_,h=>h
 | .str,_,_,h=>h
 | .err,_,_,h=>h
 | .raw _,_,_,h=>h
 | .sl e,xs,cs,h=>by
  obtain⟨A,cap,rfl,hl,he⟩:=h;refine⟨A,cap,rfl,hl,λi hi=>?_⟩;obtain⟨b,o,vs,hA,hb,hc,hr⟩:=he i hi;exact⟨b,o,vs,hA,hS b hb,hc.of_same (λo' v=>hw b o' v hb),RO.mono hS hw hr⟩
 | .st k,x,cs,h=>RO.mono (K:=k) hS hw h
 | .pair a b,x,cs,h=>by
  obtain⟨c1,c2,rfl,h1,h2⟩:=h;exact⟨c1,c2,rfl,RO.mono hS hw h1,RO.mono hS hw h2⟩
 | .mp k e,xs,cs,h=>by
  rcases h with h|⟨r,es,c,rfl,hr,hp,hl,he⟩
  ·exact .inl h
  ·refine .inr ⟨r,es,c,rfl,hS r hr,hw r 0 _ hr hp,hl,λi hi=>?_⟩
   obtain⟨en,vs,h1,h2,h3,h4⟩:=he i hi;exact⟨en,vs,h1,h2,h3,RO.mono hS hw h4⟩
 | .fcell f a b,x,cs,h=>by
  rcases h with h|⟨q,b1,o1,b2,o2,c,oc,c1,c2,hx,hc,⟨s1,k1,r1⟩,⟨s2,k2,r2⟩,s3,k3⟩
  ·exact .inl h
  ·exact .inr ⟨q,b1,o1,b2,o2,c,oc,c1,c2,hx,hc,⟨hS _ s1,k1.of_same (λo' v=>hw _ o' v s1),RO.mono hS hw r1⟩,⟨hS _ s2,k2.of_same (λo' v=>hw _ o' v s2),RO.mono hS hw r2⟩,hS _ s3,k3.of_same (λo' v=>hw _ o' v s3)⟩
theorem RO.flat {S S':Nat->Prop}{w w':World}:∀{K:Kd} {x:K.T} {cs:List Value},K.flat=true->RO S w K x cs->RO S' w' K x cs
 | .int _,_,_,_,h=>h
 | .bool,_,_,_,h=>h
 | .str,_,_,_,h=>h
 | .err,_,_,_,h=>h
 | .raw _,_,_,_,h=>h
 | .sl _,_,_,hf,_=>bJ hf (by simp[Kd.flat])
 | .st k,_,_,hf,h=>RO.flat (K:=k) hf h
 | .pair a b,_,_,hf,h=>by
  have hf':(a.flat&&b.flat)=true:=hf;rw[Jm]at hf';obtain⟨c1,c2,rfl,h1,h2⟩:=h;exact⟨c1,c2,rfl,RO.flat hf'.1 h1,RO.flat hf'.2 h2⟩
 | .mp _ _,_,_,hf,_=>bJ hf (by simp[Kd.flat])
 | .fcell _ _ _,_,_,hf,_=>bJ hf (by simp[Kd.flat])
theorem Kd.zc_len:∀K:Kd,K.zc.length=K.size
 | .int _=>rfl
 | .bool=>rfl
 | .str=>rfl
 | .err=>rfl
 | .raw k=>k.zc_len
 | .sl _=>rfl
 | .st k=>k.zc_len
 | .pair a b=>by simp[Kd.zc,Kd.size,a.zc_len,b.zc_len]
 | .mp _ _=>rfl
 | .fcell _ _ _=>rfl
theorem Kd.zc_one:∀K:Kd,∀v∈K.zc,v.oneCell'=true
 | .int _,v,h=>by simp[Kd.zc]at h;subst h;rfl
 | .bool,v,h=>by simp[Kd.zc]at h;subst h;rfl
 | .str,v,h=>by simp[Kd.zc]at h;subst h;rfl
 | .err,v,h=>by simp[Kd.zc]at h;subst h;rfl
 | .raw k,v,h=>k.zc_one v h
 | .sl _,v,h=>by simp[Kd.zc]at h;subst h;rfl
 | .st k,v,h=>k.zc_one v h
 | .pair a b,v,h=>by
  rcases KC.1 (show v∈a.zc++b.zc from h)with h|h
  ·exact a.zc_one v h
  ·exact b.zc_one v h
 | .mp _ _,v,h=>by simp[Kd.zc]at h;subst h;rfl
 | .fcell _ _ _,v,h=>by simp[Kd.zc]at h;subst h;rfl
theorem RO.zero {S:Nat->Prop}{w:World}:∀K:Kd,RO S w K K.zero K.zc
 | .int _=>rfl
 | .bool=>rfl
 | .str=>rfl
 | .err=>⟨_,rfl,.inl ⟨rfl,rfl⟩⟩
 | .raw k=>⟨rfl,k.zc_len,k.zc_one⟩
 | .sl _=>⟨none,0,rfl,JG _,λ_ h=>bJ h (Nat.not_lt_zero _)⟩
 | .st k=>RO.zero k
 | .pair a b=>⟨a.zc,b.zc,rfl,RO.zero a,RO.zero b⟩
 | .mp _ _=>.inl ⟨rfl,rfl⟩
 | .fcell _ _ _=>.inl ⟨rfl,rfl⟩
theorem RO.vrep {S:Nat->Prop}{w:World}:∀{K:Kd} {x:K.T} {cs:List Value},(∀a b,K≠ .pair a b)->RO S w K x cs->VRep K cs (K.val cs)
 | .int _,_,_,_,h=>by rw[show _=_ from h];exact⟨rfl,rfl⟩
 | .bool,_,_,_,h=>by rw[show _=_ from h];exact⟨rfl,rfl⟩
 | .str,_,_,_,h=>by rw[show _=_ from h];exact⟨rfl,rfl⟩
 | .err,_,_,_,h=>by obtain⟨v,rfl,h⟩:=h;rcases h with⟨_,rfl⟩|⟨_,t,p,rfl⟩<;>exact⟨rfl,rfl⟩
 | .raw _,_,_,_,h=>⟨rfl,rfl⟩
 | .sl e,_,_,_,h=>by obtain⟨A,cap,rfl,_⟩:=h;exact⟨rfl,rfl⟩
 | .st k,_,_,_,h=>⟨rfl,rfl⟩
 | .pair a b,_,_,hp,_=>bJ rfl (hp a b)
 | .mp _ _,_,_,_,h=>by rcases h with⟨rfl,_⟩|⟨r,es,c,rfl,_⟩<;>exact⟨rfl,rfl⟩
 | .fcell _ _ _,_,_,_,h=>by rcases h with⟨_,rfl⟩|⟨q,b1,o1,b2,o2,c,oc,c1,c2,_,rfl,_⟩<;>exact⟨rfl,rfl⟩
inductive Md where
 |ro
 |own (m:Md)
 |pr (a b:Md)
def Md.beq:Md->Md->Bool
 | .ro,.ro=>true
 | .own a,.own b=>a.beq b
 | .pr a b,.pr c d=>a.beq c&&b.beq d
 |_,_=>false
theorem Md.eq_of_beq:∀{a b:Md},a.beq b=true->a=b
 | .ro,.ro,_=>rfl
 | .own a,.own b,h=>by rw[Md.eq_of_beq (a:=a) (b:=b) h]
 | .pr a b,.pr c d,h=>by
  have h':(a.beq c&&b.beq d)=true:=h;rw[Jm]at h';rw[Md.eq_of_beq (a:=a) (b:=c) h'.1,Md.eq_of_beq (a:=b) (b:=d) h'.2]
 | .ro,.own _,h| .ro,.pr _ _,h| .own _,.ro,h| .own _,.pr _ _,h| .pr _ _,.ro,h| .pr _ _,.own _,h=>bJ h (by simp[Md.beq])
def Md.fst:Md->Md
 | .pr a _=>a
 |_=>.ro
def Md.snd:Md->Md
 | .pr _ b=>b
 |_=>.ro
def Md.elem:Md->Md
 | .own m=>m
 |_=>.ro
def E7 (w:World)(b o n:Nat):Prop:=∀j,(j<n->∃v,w.cell? ⟨b,o+j,none⟩=some v)/\w.frozen? ⟨b,o+j,none⟩=false
def Own (S:Nat->Prop)(w:World):(K:Kd)->Md->K.T->List Value->(Nat->Prop)->Prop
 |K,.ro,x,cs,_=>RO S w K x cs
 | .sl e,.own m,xs,cs,F=>∃A cap,cs=[.slice A (Je xs) cap]/\Je xs<=cap/\(A=none->cap=0)/\
   (∀ad,A=some ad->ad.spot=none/\F ad.block/\E7 w ad.block ad.off (cap*e.size))/\
   ∃G:Nat->Nat->Prop,(∀i b,G i b->F b)/\(∀i ad,A=some ad->¬G i ad.block)/\(∀i j b,i≠j->G i b->¬G j b)/\
    ∀i (h:i<Je xs),∃b o vs,A=some ⟨b,o,none⟩/\CellsAt w b (o+i*e.size) vs/\Own S w e m xs[i] vs (G i)
 | .st k,.own m,x,cs,F=>Own S w k (.own m) x cs F
 | .st k,.pr m n,x,cs,F=>Own S w k (.pr m n) x cs F
 | .pair a b,.pr m n,x,cs,F=>∃c1 c2 F1 F2,cs=c1++c2/\(∀b,F1 b->F b)/\(∀b,F2 b->F b)/\(∀b,F1 b->¬F2 b)/\
   Own S w a m x.1 c1 F1/\Own S w b n x.2 c2 F2
 | .mp k e,.own m,xs,cs,F=>∃r es c,cs=[.map (some r)]/\F r/\w.pk r 0=some (.inr (es,c))/\es.size=Je xs/\
   ∃G:Nat->Nat->Prop,(∀i b,G i b->F b)/\(∀i,¬G i r)/\(∀i j b,i≠j->G i b->¬G j b)/\
    ∀i (h:i<Je xs),∃en vs,es[i]? =some en/\I0 k xs[i].1 en.key/\VRep e vs en.val/\Own S w e m xs[i].2 vs (G i)
 |_,_,_,_,_=>False
theorem Own.ro {S:Nat->Prop}{w:World}{K:Kd}{x:K.T}{cs:List Value}{F:Nat->Prop}:Own S w K .ro x cs F↔RO S w K x cs:=by
 cases K<;>exact NV
theorem Own.st {S:Nat->Prop}{w:World}{k:Kd}{m:Md}{x:k.T}{cs:List Value}{F:Nat->Prop}:Own S w (.st k) m x cs F↔Own S w k m x cs F:=by
 cases m
 ·exact Own.ro.trans (Iff.symm (Own.ro (K:=k)))
 ·exact NV
 ·exact NV
theorem Own.length {S:Nat->Prop}{w:World}:∀{K:Kd} {m:Md} {x:K.T} {cs:List Value} {F:Nat->Prop},Own S w K m x cs F->cs.length=K.size
 |K,.ro,x,cs,F,h=>(Own.ro.1 h).length
 | .sl e,.own m,xs,cs,F,h=>by obtain⟨A,cap,rfl,_⟩:=h;rfl
 | .st k,.own m,x,cs,F,h=>Own.length (K:=k) (m:=.own m) h
 | .st k,.pr m n,x,cs,F,h=>Own.length (K:=k) (m:=.pr m n) h
 | .pair a b,.pr m n,x,cs,F,h=>by
  obtain⟨c1,c2,F1,F2,rfl,_,_,_,h1,h2⟩:=h
  simp[Kd.size,Own.length h1,Own.length h2]
 | .mp k e,.own m,xs,cs,F,h=>by obtain⟨r,es,c,rfl,_⟩:=h;rfl
 | .int _,.own _,_,_,_,h| .bool,.own _,_,_,_,h| .str,.own _,_,_,_,h| .err,.own _,_,_,_,h| .raw _,.own _,_,_,_,h| .pair _ _,.own _,_,_,_,h=>h.elim
 | .int _,.pr _ _,_,_,_,h| .bool,.pr _ _,_,_,_,h| .str,.pr _ _,_,_,_,h| .err,.pr _ _,_,_,_,h| .raw _,.pr _ _,_,_,_,h| .mp _ _,.pr _ _,_,_,_,h| .sl _,.pr _ _,_,_,_,h=>h.elim
theorem Own.mono {S S':Nat->Prop}{w w':World}(hS:∀b,S b->S' b)
  (hw:∀b o v,S b->w.pk b o=some v->w'.pk b o=some v):
  ∀{K:Kd} {m:Md} {x:K.T} {cs:List Value} {F F':Nat->Prop},(∀b,F b->F' b)->
   (∀b o,F b->w'.pk b o=w.pk b o/\w'.frozen? ⟨b,o,none⟩=w.frozen? ⟨b,o,none⟩)->
   Own S w K m x cs F->Own S' w' K m x cs F'
 |K,.ro,x,cs,F,F',_,_,h=>Own.ro.2 ((Own.ro.1 h).mono hS hw)
 | .sl e,.own m,xs,cs,F,F',hF,hf,h=>by
  obtain⟨A,cap,rfl,hl,hn,hr,G,hG,hG1,hG2,he⟩:=h;refine⟨A,cap,rfl,hl,hn,λad had=>?_,G,λi b h=>hF b (hG i b h),hG1,hG2,λi hi=>?_⟩
  ·obtain⟨h1,h2,h3⟩:=hr ad had
   refine⟨h1,hF _ h2,λj=>?_⟩;obtain⟨h4,hz⟩:=h3 j;obtain⟨e1,e2⟩:=hf ad.block (ad.off+j) h2;exact⟨λhj=>by obtain⟨v,hv⟩:=h4 hj;exact⟨v,km.1 (by rw[e1];exact km.2 hv)⟩,by rw[e2];exact hz⟩
  ·obtain⟨b,o,vs,hA,hc,ho⟩:=he i hi
   refine⟨b,o,vs,hA,?_,Own.mono hS hw (λ_ h=>h) (λb o hb=>hf b o (hG i b hb)) ho⟩;have hb:F b:=(hr _ hA).2.1;exact hc.of_same λo' v hv=>by rw[(hf b o' hb).1];exact hv
 | .st k,.own m,x,cs,F,F',hF,hf,h=>Own.mono (K:=k) (m:=.own m) hS hw hF hf h
 | .st k,.pr m n,x,cs,F,F',hF,hf,h=>Own.mono (K:=k) (m:=.pr m n) hS hw hF hf h
 | .pair a b,.pr m n,x,cs,F,F',hF,hf,h=>by
  obtain⟨c1,c2,F1,F2,rfl,h1,h2,h3,ha,hb⟩:=h;exact⟨c1,c2,F1,F2,rfl,λb h=>hF b (h1 b h),λb h=>hF b (h2 b h),h3,
   Own.mono hS hw (λ_ h=>h) (λb o hb=>hf b o (h1 b hb)) ha,Own.mono hS hw (λ_ h=>h) (λb o hb=>hf b o (h2 b hb)) hb⟩
 | .mp k e,.own m,xs,cs,F,F',hF,hf,h=>by
  obtain⟨r,es,c,rfl,hr,hp,hl,G,hG,hG1,hG2,he⟩:=h;refine⟨r,es,c,rfl,hF r hr,(hf r 0 hr).1.trans hp,hl,G,λi b h=>hF b (hG i b h),hG1,hG2,λi hi=>?_⟩;obtain⟨en,vs,h1,h2,h3,h4⟩:=he i hi;exact⟨en,vs,h1,h2,h3,Own.mono hS hw (λ_ h=>h) (λb o hb=>hf b o (hG i b hb)) h4⟩
 | .int _,.own _,_,_,_,_,_,_,h| .bool,.own _,_,_,_,_,_,_,h| .str,.own _,_,_,_,_,_,_,h| .err,.own _,_,_,_,_,_,_,h| .raw _,.own _,_,_,_,_,_,_,h| .pair _ _,.own _,_,_,_,_,_,_,h=>h.elim
 | .int _,.pr _ _,_,_,_,_,_,_,h| .bool,.pr _ _,_,_,_,_,_,_,h| .str,.pr _ _,_,_,_,_,_,_,h| .err,.pr _ _,_,_,_,_,_,_,h| .raw _,.pr _ _,_,_,_,_,_,_,h| .mp _ _,.pr _ _,_,_,_,_,_,_,h| .sl _,.pr _ _,_,_,_,_,_,_,h=>h.elim
theorem Own.toRO {S S':Nat->Prop}{w:World}(hS:∀b,S b->S' b):
  ∀{K:Kd} {m:Md} {x:K.T} {cs:List Value} {F:Nat->Prop},(∀b,F b->S' b)->Own S w K m x cs F->RO S' w K x cs
 |K,.ro,x,cs,F,_,h=>(Own.ro.1 h).mono hS (λ_ _ _ _ h=>h)
 | .sl e,.own m,xs,cs,F,hF,h=>by
  obtain⟨A,cap,rfl,hl,hn,hr,G,hG,hG1,hG2,he⟩:=h;refine⟨A,cap,rfl,hl,λi hi=>?_⟩;obtain⟨b,o,vs,hA,hc,ho⟩:=he i hi;exact⟨b,o,vs,hA,hF _ (hr _ hA).2.1,hc,Own.toRO hS (λb hb=>hF b (hG i b hb)) ho⟩
 | .st k,.own m,x,cs,F,hF,h=>Own.toRO (K:=k) (m:=.own m) hS hF h
 | .st k,.pr m n,x,cs,F,hF,h=>Own.toRO (K:=k) (m:=.pr m n) hS hF h
 | .pair a b,.pr m n,x,cs,F,hF,h=>by
  obtain⟨c1,c2,F1,F2,rfl,h1,h2,h3,ha,hb⟩:=h;exact⟨c1,c2,rfl,Own.toRO hS (λb h=>hF b (h1 b h)) ha,Own.toRO hS (λb h=>hF b (h2 b h)) hb⟩
 | .mp k e,.own m,xs,cs,F,hF,h=>by
  obtain⟨r,es,c,rfl,hr,hp,hl,G,hG,hG1,hG2,he⟩:=h;refine .inr ⟨r,es,c,rfl,hF r hr,hp,hl,λi hi=>?_⟩;obtain⟨en,vs,h1,h2,h3,h4⟩:=he i hi;exact⟨en,vs,h1,h2,h3,Own.toRO hS (λb hb=>hF b (hG i b hb)) h4⟩
 | .int _,.own _,_,_,_,_,h| .bool,.own _,_,_,_,_,h| .str,.own _,_,_,_,_,h| .err,.own _,_,_,_,_,h| .raw _,.own _,_,_,_,_,h| .pair _ _,.own _,_,_,_,_,h=>h.elim
 | .int _,.pr _ _,_,_,_,_,h| .bool,.pr _ _,_,_,_,_,h| .str,.pr _ _,_,_,_,_,h| .err,.pr _ _,_,_,_,_,h| .raw _,.pr _ _,_,_,_,_,h| .mp _ _,.pr _ _,_,_,_,_,h| .sl _,.pr _ _,_,_,_,_,h=>h.elim
def Md.full:Kd->Md->Bool
 |K,.ro=>K.flat
 | .sl e,.own m=>Md.full e m
 | .st k,m=>Md.full k m
 | .pair a b,.pr m n=>Md.full a m&&Md.full b n
 | .mp _ e,.own m=>Md.full e m
 |_,_=>false
theorem Own.full {S S':Nat->Prop}{w:World}:
  ∀{K:Kd} {m:Md} {x:K.T} {cs:List Value} {F:Nat->Prop},Md.full K m=true->Own S w K m x cs F->Own S' w K m x cs F
 |K,.ro,x,cs,F,hf,h=>Own.ro.2 ((Own.ro.1 h).flat (by cases K<;>exact hf))
 | .sl e,.own m,xs,cs,F,hf,h=>by
  obtain⟨A,cap,rfl,hl,hn,hr,G,hG,hG1,hG2,he⟩:=h;refine⟨A,cap,rfl,hl,hn,hr,G,hG,hG1,hG2,λi hi=>?_⟩;obtain⟨b,o,vs,hA,hc,ho⟩:=he i hi;exact⟨b,o,vs,hA,hc,Own.full (show Md.full e m=true from hf) ho⟩
 | .st k,.own m,x,cs,F,hf,h=>Own.full (K:=k) (m:=.own m) hf h
 | .st k,.pr m n,x,cs,F,hf,h=>Own.full (K:=k) (m:=.pr m n) hf h
 | .pair a b,.pr m n,x,cs,F,hf,h=>by
  have hf':(Md.full a m&&Md.full b n)=true:=hf;rw[Jm]at hf';obtain⟨c1,c2,F1,F2,rfl,h1,h2,h3,ha,hb⟩:=h;exact⟨c1,c2,F1,F2,rfl,h1,h2,h3,Own.full hf'.1 ha,Own.full hf'.2 hb⟩
 | .mp k e,.own m,xs,cs,F,hf,h=>by
  obtain⟨r,es,c,rfl,hr,hp,hl,G,hG,hG1,hG2,he⟩:=h;refine⟨r,es,c,rfl,hr,hp,hl,G,hG,hG1,hG2,λi hi=>?_⟩;obtain⟨en,vs,h1,h2,h3,h4⟩:=he i hi;exact⟨en,vs,h1,h2,h3,Own.full (show Md.full e m=true from hf) h4⟩
 | .int _,.own _,_,_,_,_,h| .bool,.own _,_,_,_,_,h| .str,.own _,_,_,_,_,h| .err,.own _,_,_,_,_,h| .raw _,.own _,_,_,_,_,h| .pair _ _,.own _,_,_,_,_,h=>h.elim
 | .int _,.pr _ _,_,_,_,_,h| .bool,.pr _ _,_,_,_,_,h| .str,.pr _ _,_,_,_,_,h| .err,.pr _ _,_,_,_,_,h| .raw _,.pr _ _,_,_,_,_,h| .mp _ _,.pr _ _,_,_,_,_,h| .sl _,.pr _ _,_,_,_,_,h=>h.elim
theorem Own.vrep {S:Nat->Prop}{w:World}{K:Kd}{m:Md}{x:K.T}{cs:List Value}{F:Nat->Prop}(hp:∀a b,K≠ .pair a b)(h:Own S w K m x cs F):VRep K cs (K.val cs):=
 RO.vrep hp (Own.toRO (S':=λb=>S b\/F b) (λ_=>Or.inl) (λ_=>Or.inr) h)
inductive Step where
 |inn
 |fst
 |snd
 |idx (i:Int)
abbrev bI:=List Step
def aS:(K:Kd)->Md->K.T->bI->Option ((K':Kd)×Md×K'.T)
 |K,m,x,[]=>some ⟨K,m,x⟩
 | .st k,m,x,.inn::p=>aS k m x p
 | .pair a _,m,x,.fst::p=>aS a m.fst x.1 p
 | .pair _ b,m,x,.snd::p=>aS b m.snd x.2 p
 | .sl e,.own m,xs,.idx i::p=>aS e m (Ji xs i.toNat e.zero) p
 |_,_,_,_=>none
def gx:(K:Kd)->K.T->bI->(K':Kd)->K'.T->Option K.T
 |K,_,[],K',y=>if h:K'.beq K=true then some (Kd.eq_of_beq h▸y)else none
 | .st k,x,.inn::p,K',y=>gx k x p K' y
 | .pair a b,x,.fst::p,K',y=>match gx a x.1 p K' y with|some z=>some ((z,x.2):a.T×b.T)|none=>none
 | .pair a b,x,.snd::p,K',y=>match gx b x.2 p K' y with|some z=>some ((x.1,z):a.T×b.T)|none=>none
 | .sl e,xs,.idx i::p,K',y=>match gx e (Ji xs i.toNat e.zero) p K' y with|some z=>some (Kl xs i.toNat z)|none=>none
 |_,_,_,_,_=>none
def vn:Md->Md->Md
 | .ro,.ro=>.ro
 |a,b=>.pr a b
def iY:Md->bI->Md->Option Md
 |_,[],m2=>some m2
 |m,.inn::p,m2=>iY m p m2
 |m,.fst::p,m2=>match m with
  | .own _=>none
  |m=>match iY m.fst p m2 with|some a=>some (vn a m.snd)|none=>none
 |m,.snd::p,m2=>match m with
  | .own _=>none
  |m=>match iY m.snd p m2 with|some b=>some (vn m.fst b)|none=>none
 |m,.idx _::p,m2=>match m with
  | .own m=>match iY m p m2 with|some m3=>if m3.beq m then some (.own m)else none|none=>none
  |_=>none
def aV:bI->Bool
 |[]=>false
 | .idx _::_=>true
 |_::p=>aV p
abbrev Place:=Option (Nat×Nat)
def Place.up (pl:Place)(n:Nat):Place:=pl.map λq=>(q.1,q.2+n)
def je (w:World)(b o n:Nat):List Value:=(List.range n).map λj=>(w.cell? ⟨b,o+j,none⟩).getD undef
def bV:bI->Kd->List Value->List Value->List Value
 |[],_,_,cs2=>cs2
 | .inn::p,.st k,cs,cs2=>bV p k cs cs2
 | .fst::p,.pair a _,cs,cs2=>bV p a (cs.take a.size) cs2++cs.drop a.size
 | .snd::p,.pair a b,cs,cs2=>cs.take a.size++bV p b (cs.drop a.size) cs2
 |_,_,cs,_=>cs
def fq:bI->bI->Bool
 |[],_=>true
 | .inn::q,.inn::p=>fq q p
 | .fst::q,.fst::p=>fq q p
 | .snd::q,.snd::p=>fq q p
 | .idx _::q,.idx _::p=>fq q p
 |_,_=>false
def gm (p q:bI):Bool:=fq q p||(fq p q&& !aV (q.drop p.length))
def iO (p q:bI):Bool:=fq q p&&aV (p.drop q.length)
theorem eT {w:World}{b o:Nat}{vs:List Value}(h:CellsAt w b o vs){n:Nat}(hn:vs.length=n):je w b o n=vs:=by
 subst hn;unfold je;apply List.ext_getElem
 ·simp
 ·intro i h1 h2
  simp[h i h2]
def ck (w:World):bI->Kd->Place->List Value->Option (Place×List Value)
 |[],_,pl,cs=>some (pl,cs)
 | .inn::p,.st k,pl,cs=>ck w p k pl cs
 | .fst::p,.pair a _,pl,cs=>ck w p a pl (cs.take a.size)
 | .snd::p,.pair a b,pl,cs=>ck w p b (pl.up a.size) (cs.drop a.size)
 | .idx i::p,.sl e,_,[.slice (some ⟨b,o,none⟩) n _]=>
  if 0<=i/\i<n then ck w p e (some (b,o+i.toNat*e.size)) (je w b (o+i.toNat*e.size) e.size)else none
 |_,_,_,_=>none
theorem iZ {w w2:World}:∀(p:bI) {K:Kd} {pl:Place} {cs c2:List Value} {r:Place} {c:List Value},aV p=false->ck w p K pl cs=some (r,c)->∃c3,ck w2 p K pl c2=some (r,c3)
 |[],K,pl,cs,c2,r,c,_,h=>by
  simp only[ck,Jq,JH]at h;exact⟨c2,by simp only[ck,h.1]⟩
 | .inn::p,.st k,pl,cs,c2,r,c,hi,h=>iZ p (K:=k) (by simpa[aV]using hi) h
 | .fst::p,.pair a b,pl,cs,c2,r,c,hi,h=>iZ p (K:=a) (by simpa[aV]using hi) h
 | .snd::p,.pair a b,pl,cs,c2,r,c,hi,h=>iZ p (K:=b) (by simpa[aV]using hi) h
 | .idx i::p,_,pl,cs,c2,r,c,hi,h=>by simp[aV]at hi
 | .inn::_,.int _,_,_,_,_,_,_,h| .inn::_,.bool,_,_,_,_,_,_,h| .inn::_,.str,_,_,_,_,_,_,h| .inn::_,.err,_,_,_,_,_,_,h| .inn::_,.mp _ _,_,_,_,_,_,_,h| .inn::_,.fcell _ _ _,_,_,_,_,_,_,h| .inn::_,.raw _,_,_,_,_,_,_,h| .inn::_,.sl _,_,_,_,_,_,_,h| .inn::_,.pair _ _,_,_,_,_,_,_,h=>by simp[ck]at h
 | .fst::_,.int _,_,_,_,_,_,_,h| .fst::_,.bool,_,_,_,_,_,_,h| .fst::_,.str,_,_,_,_,_,_,h| .fst::_,.err,_,_,_,_,_,_,h| .fst::_,.mp _ _,_,_,_,_,_,_,h| .fst::_,.fcell _ _ _,_,_,_,_,_,_,h| .fst::_,.raw _,_,_,_,_,_,_,h| .fst::_,.sl _,_,_,_,_,_,_,h| .fst::_,.st _,_,_,_,_,_,_,h=>by simp[ck]at h
 | .snd::_,.int _,_,_,_,_,_,_,h| .snd::_,.bool,_,_,_,_,_,_,h| .snd::_,.str,_,_,_,_,_,_,h| .snd::_,.err,_,_,_,_,_,_,h| .snd::_,.mp _ _,_,_,_,_,_,_,h| .snd::_,.fcell _ _ _,_,_,_,_,_,_,h| .snd::_,.raw _,_,_,_,_,_,_,h| .snd::_,.sl _,_,_,_,_,_,_,h| .snd::_,.st _,_,_,_,_,_,_,h=>by simp[ck]at h
theorem ff:∀(p:bI) {w:World} {K:Kd} {pl:Place} {cs:List Value} {r:Place×List Value} {c2:List Value},aV p=true->ck w p K pl cs=some r->bV p K cs c2=cs
 |[],_,_,_,_,_,_,hi,_=>by simp[aV]at hi
 | .inn::p,w,.st k,pl,cs,r,c2,hi,h=>ff p (K:=k) (by simpa[aV]using hi) h
 | .fst::p,w,.pair a b,pl,cs,r,c2,hi,h=>by
  have:=ff p (K:=a) (c2:=c2) (by simpa[aV]using hi) h;simp only[bV,this,KP]
 | .snd::p,w,.pair a b,pl,cs,r,c2,hi,h=>by
  have:=ff p (K:=b) (c2:=c2) (by simpa[aV]using hi) h;simp only[bV,this,KP]
 | .idx i::p,_,K,_,cs,_,c2,_,_=>by simp only[bV]
 | .inn::_,_,.int _,_,_,_,_,_,h| .inn::_,_,.bool,_,_,_,_,_,h| .inn::_,_,.str,_,_,_,_,_,h| .inn::_,_,.err,_,_,_,_,_,h| .inn::_,_,.mp _ _,_,_,_,_,_,h| .inn::_,_,.fcell _ _ _,_,_,_,_,_,h| .inn::_,_,.raw _,_,_,_,_,_,h| .inn::_,_,.sl _,_,_,_,_,_,h| .inn::_,_,.pair _ _,_,_,_,_,_,h=>by simp[ck]at h
 | .fst::_,_,.int _,_,_,_,_,_,h| .fst::_,_,.bool,_,_,_,_,_,h| .fst::_,_,.str,_,_,_,_,_,h| .fst::_,_,.err,_,_,_,_,_,h| .fst::_,_,.mp _ _,_,_,_,_,_,h| .fst::_,_,.fcell _ _ _,_,_,_,_,_,h| .fst::_,_,.raw _,_,_,_,_,_,h| .fst::_,_,.sl _,_,_,_,_,_,h| .fst::_,_,.st _,_,_,_,_,_,h=>by simp[ck]at h
 | .snd::_,_,.int _,_,_,_,_,_,h| .snd::_,_,.bool,_,_,_,_,_,h| .snd::_,_,.str,_,_,_,_,_,h| .snd::_,_,.err,_,_,_,_,_,h| .snd::_,_,.mp _ _,_,_,_,_,_,h| .snd::_,_,.fcell _ _ _,_,_,_,_,_,h| .snd::_,_,.raw _,_,_,_,_,_,h| .snd::_,_,.sl _,_,_,_,_,_,h| .snd::_,_,.st _,_,_,_,_,_,h=>by simp[ck]at h
theorem eB:∀(p:bI) {w:World} {K:Kd} {pl:Place} {cs:List Value} {r:Place} {c2:List Value},ck w p K pl cs=some (r,c2)->bV p K cs c2=cs
 |[],_,_,_,_,_,_,h=>by simp only[ck,Jq,JH]at h;simp only[bV,h.2]
 | .inn::p,w,.st k,pl,cs,r,c2,h=>eB p (K:=k) h
 | .fst::p,w,.pair a b,pl,cs,r,c2,h=>by
  have:=eB p (K:=a) (c2:=c2) h;simp only[bV,this,KP]
 | .snd::p,w,.pair a b,pl,cs,r,c2,h=>by
  have:=eB p (K:=b) (c2:=c2) h;simp only[bV,this,KP]
 | .idx i::p,_,K,_,cs,_,c2,_=>by simp only[bV]
 | .inn::_,_,.int _,_,_,_,_,h| .inn::_,_,.bool,_,_,_,_,h| .inn::_,_,.str,_,_,_,_,h| .inn::_,_,.err,_,_,_,_,h| .inn::_,_,.mp _ _,_,_,_,_,h| .inn::_,_,.fcell _ _ _,_,_,_,_,h| .inn::_,_,.raw _,_,_,_,_,h| .inn::_,_,.sl _,_,_,_,_,h| .inn::_,_,.pair _ _,_,_,_,_,h=>by simp[ck]at h
 | .fst::_,_,.int _,_,_,_,_,h| .fst::_,_,.bool,_,_,_,_,h| .fst::_,_,.str,_,_,_,_,h| .fst::_,_,.err,_,_,_,_,h| .fst::_,_,.mp _ _,_,_,_,_,h| .fst::_,_,.fcell _ _ _,_,_,_,_,h| .fst::_,_,.raw _,_,_,_,_,h| .fst::_,_,.sl _,_,_,_,_,h| .fst::_,_,.st _,_,_,_,_,h=>by simp[ck]at h
 | .snd::_,_,.int _,_,_,_,_,h| .snd::_,_,.bool,_,_,_,_,h| .snd::_,_,.str,_,_,_,_,h| .snd::_,_,.err,_,_,_,_,h| .snd::_,_,.mp _ _,_,_,_,_,h| .snd::_,_,.fcell _ _ _,_,_,_,_,h| .snd::_,_,.raw _,_,_,_,_,h| .snd::_,_,.sl _,_,_,_,_,h| .snd::_,_,.st _,_,_,_,_,h=>by simp[ck]at h
def PlOk (w:World)(pl:Place)(cs:List Value):Prop:=
 ∀b o,pl=some (b,o)->CellsAt w b o cs/\∀j,j<cs.length->w.frozen? ⟨b,o+j,none⟩=false
def sY (pl:Place)(n b o:Nat):Prop:=∃o0,pl=some (b,o0)/\o0<=o/\o<o0+n
theorem CellsAt.append {w:World}{b o:Nat}{c1 c2:List Value}(h:CellsAt w b o (c1++c2)):CellsAt w b o c1/\CellsAt w b (o+c1.length) c2:=by
 refine⟨λj hj=>?_,λj hj=>?_⟩
 ·have:=h j (by simp;omega)
  rwa [LX hj]at this
 ·have:=h (c1.length+j) (by simp;omega)
  rw[Mr (by omega)]at this;simpa[L5]using this
theorem CellsAt.join {w:World}{b o:Nat}{c1 c2:List Value}(h1:CellsAt w b o c1)(h2:CellsAt w b (o+c1.length) c2):CellsAt w b o (c1++c2):=by
 intro j hj
 by_cases h:j<c1.length
 ·rw[LX h];exact h1 j h
 ·rw[Mr (by omega)]
  have:=h2 (j - c1.length) (by simp at hj;omega)
  rwa [show o+c1.length+(j - c1.length)=o+j by omega]at this
theorem PlOk.append {w:World}{pl:Place}{c1 c2:List Value}(h:PlOk w pl (c1++c2)):PlOk w pl c1/\PlOk w (pl.up c1.length) c2:=by
 refine⟨λb o e=>?_,λb o e=>?_⟩
 ·obtain⟨h1,h2⟩:=h b o e
  exact⟨h1.append.1,λj hj=>h2 j (by simp;omega)⟩
 ·cases pl with
  |none=>simp[Place.up]at e
  |some q=>
   obtain⟨b',o'⟩:=q;simp only[Place.up,KR,Jq,JH]at e;obtain⟨rfl,rfl⟩:=e;obtain⟨h1,h2⟩:=h b' o' rfl;refine⟨h1.append.2,λj hj=>?_⟩;have:=h2 (c1.length+j) (by simp;omega)
   rwa [show o'+(c1.length+j)=o'+c1.length+j by omega]at this
theorem PlOk.join {w:World}{pl:Place}{c1 c2:List Value}(h1:PlOk w pl c1)(h2:PlOk w (pl.up c1.length) c2):PlOk w pl (c1++c2):=by
 intro b o e;obtain⟨a1,a2⟩:=h1 b o e;obtain⟨b1,b2⟩:=h2 b (o+c1.length) (by rw[e];rfl);refine⟨a1.join b1,λj hj=>?_⟩
 by_cases h:j<c1.length
 ·exact a2 j h
 ·have:=b2 (j - c1.length) (by simp at hj;omega)
  rwa [show o+c1.length+(j - c1.length)=o+j by omega]at this
theorem PlOk.of_same {w w':World}{pl:Place}{cs:List Value}(h:PlOk w pl cs)
  (hs:∀b o,sY pl cs.length b o->w'.pk b o=w.pk b o/\w'.frozen? ⟨b,o,none⟩=w.frozen? ⟨b,o,none⟩):PlOk w' pl cs:=by
 intro b o e;obtain⟨h1,h2⟩:=h b o e;refine⟨λj hj=>?_,λj hj=>?_⟩
 ·rw[na (hs b (o+j) ⟨o,e,by omega,by omega⟩).1];exact h1 j hj
 ·rw[(hs b (o+j) ⟨o,e,by omega,by omega⟩).2];exact h2 j hj
theorem Own.pair_parts {S:Nat->Prop}{w:World}{a b:Kd}{m:Md}{x:a.T×b.T}{cs:List Value}{F:Nat->Prop}(hm:∀n,m≠ .own n)
  (h:Own S w (.pair a b) m x cs F):∃c1 c2 F1 F2,cs=c1++c2/\(∀b,F1 b->F b)/\(∀b,F2 b->F b)/\(∀b,F1 b->¬F2 b)/\
   Own S w a m.fst x.1 c1 F1/\Own S w b m.snd x.2 c2 F2:=by
 cases m with
 |ro=>
  obtain⟨c1,c2,rfl,h1,h2⟩:=h;exact⟨c1,c2,λ_=>False,λ_=>False,rfl,λ_ h=>h.elim,λ_ h=>h.elim,λ_ h=>h.elim,Own.ro.2 h1,Own.ro.2 h2⟩
 |own n=>exact bJ rfl (hm n)
 |pr m n=>exact h
theorem Own.pair_join {S:Nat->Prop}{w:World}{a b:Kd}{m n:Md}{x:a.T}{y:b.T}{c1 c2:List Value}{F F1 F2:Nat->Prop}
  (h1:∀b,F1 b->F b) (h2:∀b,F2 b->F b) (h3:∀b,F1 b->¬F2 b) (ha:Own S w a m x c1 F1) (hb:Own S w b n y c2 F2):
  Own S w (.pair a b) (vn m n) ((x,y):a.T×b.T) (c1++c2) F:=by
 have key:Own S w (.pair a b) (.pr m n) ((x,y):a.T×b.T) (c1++c2) F:=⟨c1,c2,F1,F2,rfl,h1,h2,h3,ha,hb⟩;unfold vn
 split
 ·exact⟨c1,c2,rfl,Own.ro.1 ha,Own.ro.1 hb⟩
 ·exact key
theorem iw {S:Nat->Prop}{w w2:World}:∀(p:bI) {K:Kd} {m:Md} {x:K.T} {cs:List Value} {F:Nat->Prop} {pl:Place} {r:Place×List Value} {g:(K':Kd)×Md×K'.T},
  aS K m x p=some g->Own S w K m x cs F->(∀b o,F b->w2.pk b o=w.pk b o)->ck w p K pl cs=some r->ck w2 p K pl cs=some r
 |[],_,_,_,_,_,_,_,_,_,_,_,h=>h
 | .inn::p,.st k,m,x,cs,F,pl,r,g,hg,ho,hs,h=>iw p (K:=k) hg (Own.st.1 ho) hs h
 | .fst::p,.pair a b,m,x,cs,F,pl,r,g,hg,ho,hs,h=>by
  by_cases hm0:∃n,m= .own n
  ·obtain⟨n,rfl⟩:=hm0;exact ho.elim
  obtain⟨c1,c2,F1,F2,rfl,k1,k2,k3,o1,o2⟩:=Own.pair_parts (λn e=>hm0 ⟨n,e⟩) ho;simp only[ck]at h⊢;rw[← o1.length,KM]at h⊢;exact iw p (K:=a) hg o1 (λb o hF=>hs b o (k1 b hF)) h
 | .snd::p,.pair a b,m,x,cs,F,pl,r,g,hg,ho,hs,h=>by
  by_cases hm0:∃n,m= .own n
  ·obtain⟨n,rfl⟩:=hm0;exact ho.elim
  obtain⟨c1,c2,F1,F2,rfl,k1,k2,k3,o1,o2⟩:=Own.pair_parts (λn e=>hm0 ⟨n,e⟩) ho;simp only[ck]at h⊢;rw[← o1.length,Kx]at h⊢;exact iw p (K:=b) hg o2 (λb o hF=>hs b o (k2 b hF)) h
 | .idx i::p,.sl e,.own m,xs,cs,F,pl,r,g,hg,ho,hs,h=>by
  obtain⟨A,cap,rfl,hl,hnil,hr,G,hG,hG1,hG2,he⟩:=ho;cases A with
  |none=>simp[ck]at h
  |some ad=>
   obtain⟨b,o,sp⟩:=ad;have hsp:sp=none:=(hr _ rfl).1;subst hsp;simp only[ck]at h⊢
   split at h
   ·rename_i hi
    rw[ab hi];have hi':i.toNat<Je xs:=by omega
    obtain⟨b',o',vs,hA,hc,hov⟩:=he i.toNat hi';simp only[Jq,ML,and_true]at hA;obtain⟨rfl,rfl⟩:=hA;have hFb:F b:=(hr _ rfl).2.1;have hc2:CellsAt w2 b (o+i.toNat*e.size) vs:=hc.of_same λo' v hv=>by rw[hs b o' hFb];exact hv
    rw[eT hc hov.length]at h;rw[eT hc2 hov.length];have hget:Ji xs i.toNat e.zero=xs[i.toNat]:=by simp[Ji,hi']
    have hg':aS e m (xs[i.toNat]) p=some g:=by
     have:aS e m (Ji xs i.toNat e.zero) p=some g:=hg
     rwa [hget]at this
    exact iw p (K:=e) hg' hov (λb1 o1 hF=>hs b1 o1 (hG _ b1 hF)) h
   ·cases h
 | .inn::_,.int _,_,_,_,_,_,_,_,hg,_,_,_| .inn::_,.bool,_,_,_,_,_,_,_,hg,_,_,_| .inn::_,.str,_,_,_,_,_,_,_,hg,_,_,_| .inn::_,.err,_,_,_,_,_,_,_,hg,_,_,_| .inn::_,.raw _,_,_,_,_,_,_,_,hg,_,_,_
 | .inn::_,.sl _,_,_,_,_,_,_,_,hg,_,_,_| .inn::_,.pair _ _,_,_,_,_,_,_,_,hg,_,_,_=>by simp[aS]at hg
 | .fst::_,.int _,_,_,_,_,_,_,_,hg,_,_,_| .fst::_,.bool,_,_,_,_,_,_,_,hg,_,_,_| .fst::_,.str,_,_,_,_,_,_,_,hg,_,_,_| .fst::_,.err,_,_,_,_,_,_,_,hg,_,_,_| .fst::_,.raw _,_,_,_,_,_,_,_,hg,_,_,_
 | .fst::_,.sl _,_,_,_,_,_,_,_,hg,_,_,_| .fst::_,.st _,_,_,_,_,_,_,_,hg,_,_,_=>by simp[aS]at hg
 | .snd::_,.int _,_,_,_,_,_,_,_,hg,_,_,_| .snd::_,.bool,_,_,_,_,_,_,_,hg,_,_,_| .snd::_,.str,_,_,_,_,_,_,_,hg,_,_,_| .snd::_,.err,_,_,_,_,_,_,_,hg,_,_,_| .snd::_,.raw _,_,_,_,_,_,_,_,hg,_,_,_
 | .snd::_,.sl _,_,_,_,_,_,_,_,hg,_,_,_| .snd::_,.st _,_,_,_,_,_,_,_,hg,_,_,_=>by simp[aS]at hg
 | .idx _::_,.int _,_,_,_,_,_,_,_,hg,_,_,_| .idx _::_,.bool,_,_,_,_,_,_,_,hg,_,_,_| .idx _::_,.str,_,_,_,_,_,_,_,hg,_,_,_| .idx _::_,.err,_,_,_,_,_,_,_,hg,_,_,_| .idx _::_,.raw _,_,_,_,_,_,_,_,hg,_,_,_
 | .idx _::_,.pair _ _,_,_,_,_,_,_,_,hg,_,_,_| .idx _::_,.st _,_,_,_,_,_,_,_,hg,_,_,_=>by simp[aS]at hg
 | .idx _::_,.sl _,.ro,_,_,_,_,_,_,hg,_,_,_| .idx _::_,.sl _,.pr _ _,_,_,_,_,_,_,hg,_,_,_=>by simp[aS]at hg
structure I1 (w w2:World) (p:bI) (K:Kd) (m:Md) (x:K.T) (cs:List Value) (pl:Place) (K':Kd) (cs' cs2 csn:List Value):Prop where
 al:∀p2 g r,aS K m x p2=some g->ck w p2 K pl cs=some r->gm p2 p=false->ck w2 p2 K pl csn=some r
 pt:∀p2 g r c,aS K m x p2=some g->ck w p2 K pl cs=some (r,c)->iO p2 p=false->∃c3,ck w2 p2 K pl csn=some (r,c3)
 ms:∀p2 g r,aS K m x p2=some g->ck w p2 K pl cs=some r->(∃e,K'= .sl e)->cs2=cs'->gm p2 (p++[.idx 0])=false->ck w2 p2 K pl csn=some r
 mt:∀p2 g r c,aS K m x p2=some g->ck w p2 K pl cs=some (r,c)->(∃e,K'= .sl e)->cs2=cs'->iO p2 (p++[.idx 0])=false->∃c3,ck w2 p2 K pl csn=some (r,c3)
structure Focus (S:Nat->Prop) (w:World) (p:bI) (K:Kd) (m:Md) (x:K.T) (cs:List Value) (F:Nat->Prop) (pl:Place)
  (K':Kd) (m':Md) (x':K'.T) (cs':List Value) (pl':Place) (F':Nat->Prop):Prop where
 sub:∀b,F' b->F b
 own:Own S w K' m' x' cs' F'
 ok:PlOk w pl' cs'
 nv:∀w2:World,(∀b o,F b->¬F' b->w2.pk b o=w.pk b o)->ck w2 p K pl cs=some (pl',cs')
 at_:∀b o,pl'=some (b,o)->¬F' b/\((∃o0,pl=some (b,o0)/\o0<=o/\o+K'.size<=o0+K.size)\/F b)
 set:∀(S2:Nat->Prop) (w2:World) (m2 mm:Md) (y:K'.T) (x2:K.T) (cs2:List Value) (F2:Nat->Prop),gx K x p K' y=some x2->iY m p m2=some mm->
  (∀b,S b->S2 b)->(∀b o v,S b->w.pk b o=some v->w2.pk b o=some v)->
  (∀b o,F b->¬F' b->¬sY pl' K'.size b o->w2.pk b o=w.pk b o/\w2.frozen? ⟨b,o,none⟩=w.frozen? ⟨b,o,none⟩)->
  (∀b o,sY pl K.size b o->¬sY pl' K'.size b o->w2.pk b o=w.pk b o/\w2.frozen? ⟨b,o,none⟩=w.frozen? ⟨b,o,none⟩)->
  PlOk w2 pl' cs2->Own S2 w2 K' m2 y cs2 F2->(∀b,F2 b->F b->F' b)->(∀b o,pl=some (b,o)->¬F2 b)->(∀b o,pl'=some (b,o)->¬F2 b)->
  Own S2 w2 K mm x2 (bV p K cs cs2) (λb=>(F b/\¬F' b)\/F2 b)/\PlOk w2 pl (bV p K cs cs2)/\I1 w w2 p K m x cs pl K' cs' cs2 (bV p K cs cs2)
theorem pP {i j s a b:Nat}(h:i≠j)(ha:a<s)(hb:b<s):i*s+a≠j*s+b:=by
 intro e;rcases Nat.lt_or_gt_of_ne h with hlt|hlt
 ·have:(i+1)*s<=j*s:=JW s hlt
  rw[Ku,KQ]at this;omega
 ·have:(j+1)*s<=i*s:=JW s hlt
  rw[Ku,KQ]at this;omega
theorem ns {S:Nat->Prop}{w:World}:∀(p:bI) {K:Kd} {m:Md} {x:K.T} {cs:List Value} {F:Nat->Prop} {pl:Place}
  {K':Kd} {m':Md} {x':K'.T} {cs':List Value} {pl':Place},aS K m x p=some ⟨K',m',x'⟩->ck w p K pl cs=some (pl',cs')->
  Own S w K m x cs F->PlOk w pl cs->(∀b o,pl=some (b,o)->¬F b)->∃F',Focus S w p K m x cs F pl K' m' x' cs' pl' F'
 |[],K,m,x,cs,F,pl,K',m',x',cs',pl',hg,hn,ho,hp,hb=>by
  simp only[aS,Jq]at hg;simp only[ck,Jq,JH]at hn;obtain⟨rfl,rfl⟩:=hn;cases hg;refine⟨F,λ_ h=>h,ho,hp,λ_ _=>rfl,λb o e=>⟨hb b o e,.inl ⟨o,e,JG _,JG _⟩⟩,?_⟩;intro S2 w2 m2 mm y x2 cs2 F2 hs hm _ _ _ _ hok hown _ _ _;simp only[iY,Jq]at hm;subst hm;simp only[gx]at hs
  split at hs
  ·rename_i hk
   simp only[Jq]at hs;have hs1:y=x2:=hs;subst hs1;refine⟨hown.mono (λ_ h=>h) (λ_ _ _ _ h=>h) (λb h=>.inr h) (λ_ _ _=>⟨rfl,rfl⟩),hok,?_⟩;refine⟨λp2 g r _ _ hh=>?_,λp2 g r c _ hn hh=>?_,λp2 g r hg hn hk hc hh=>?_,λp2 g r c hg hn hk hc hh=>?_⟩
   ·simp[gm,fq]at hh
   ·exact iZ p2 (by simpa[iO,fq]using hh) hn
   ·have hc':cs2=cs:=hc
    show ck w2 p2 K pl cs2=some r;rw[hc'];obtain⟨e,rfl⟩:=hk;cases p2 with
    |nil=>exact hn
    |cons s p2=>cases s<;>first|(simp[ck]at hn;done)|(simp[gm,fq]at hh;done)
   ·have hc':cs2=cs:=hc
    show∃c3,ck w2 p2 K pl cs2=some (r,c3)
    rw[hc'];obtain⟨e,rfl⟩:=hk;cases p2 with
    |nil=>exact⟨_,hn⟩
    |cons s p2=>
     cases s with
     |idx i=>
      cases m with
      |own m=>
       obtain⟨A,cap,rfl,hl,hnil,hr,_⟩:=ho;cases A with
       |none=>simp[ck]at hn
       |some ad=>
        obtain⟨b,o,sp⟩:=ad;have hsp:sp=none:=(hr _ rfl).1;subst hsp;simp only[ck]at hn⊢
        split at hn
        ·rename_i hi
         rw[ab hi];refine iZ p2 ?_ hn;simpa[iO,fq]using hh
        ·cases hn
      |_=>simp[aS]at hg
     |_=>simp[ck]at hn
  ·cases hs
 | .inn::p,.st k,m,x,cs,F,pl,K',m',x',cs',pl',hg,hn,ho,hp,hb=>by
  obtain⟨F',f⟩:=ns p (K:=k) (m:=m) (x:=x) (cs:=cs) (F:=F) (pl:=pl) hg hn (Own.st.1 ho) hp hb;refine⟨F',f.sub,f.own,f.ok,f.nv,f.at_,?_⟩;intro S2 w2 m2 mm y x2 cs2 F2 hs hm h1 h2 h3 h4 h5 h6 h7 h8 h9;obtain⟨c1,c2,c3⟩:=f.set S2 w2 m2 mm y x2 cs2 F2 hs hm h1 h2 h3 h4 h5 h6 h7 h8 h9;refine⟨Own.st.2 c1,c2,?_⟩;refine⟨λp2 g r hg2 hn2 hh=>?_,λp2 g r c hg2 hn2 hh=>?_,λp2 g r hg2 hn2 hk hc hh=>?_,λp2 g r c hg2 hn2 hk hc hh=>?_⟩<;>cases p2 with
   |nil=>
    simp only[ck,Jq]at hn2
    first
     |exact⟨_,by simp only[ck,JH]at hn2⊢;rw[hn2.1]⟩
     |(have hx:aV p=true:=by simpa[gm,fq,aV]using hh
       have es:bV (.inn::p) (.st k) cs cs2=cs:=ff p (K:=k) hx hn;rw[es];simp only[ck,hn2])
     |(have es:bV (.inn::p) (.st k) cs cs2=cs:=by rw[hc];exact eB p (K:=k) hn
       rw[es];simp only[ck,hn2])
   |cons s p2=>
    cases s with
    |inn=>first
     |exact c3.al p2 g r hg2 hn2 (by simpa[gm,fq]using hh)
     |exact c3.pt p2 g r c hg2 hn2 (by simpa[iO,fq]using hh)
     |exact c3.ms p2 g r hg2 hn2 hk hc (by simpa[gm,fq]using hh)
     |exact c3.mt p2 g r c hg2 hn2 hk hc (by simpa[iO,fq]using hh)
    |_=>simp[aS]at hg2
 | .fst::p,.pair a b,m,x,cs,F,pl,K',m',x',cs',pl',hg,hn,ho,hp,hb=>by
  by_cases hm0:∃n,m= .own n
  ·obtain⟨n,rfl⟩:=hm0;exact ho.elim
  have hm0':∀n,m≠ .own n:=λn e=>hm0 ⟨n,e⟩
  obtain⟨c1,c2,F1,F2,rfl,k1,k2,k3,o1,o2⟩:=Own.pair_parts hm0' ho;have l1:c1.length=a.size:=o1.length;have hn':ck w p a pl c1=some (pl',cs'):=by
   have:ck w p a pl ((c1++c2).take a.size)=some (pl',cs'):=hn
   rwa [← l1,KM]at this
  obtain⟨F',f⟩:=ns p (K:=a) (m:=m.fst) (x:=x.1) (cs:=c1) (F:=F1) (pl:=pl) hg hn' o1 hp.append.1 (λb o e h=>hb b o e (k1 b h));refine⟨F',λb h=>k1 b (f.sub b h),f.own,f.ok,λw2 h=>?_,λb o e=>?_,?_⟩
  ·have:=f.nv w2 (λb' o' hF hF'=>h b' o' (k1 b' hF) hF')
   simp only[ck];rw[← l1,KM];exact this
  ·obtain⟨h1,h2⟩:=f.at_ b o e
   refine⟨h1,?_⟩;rcases h2 with⟨o0,e0,h3,h4⟩|h2
   ·exact .inl ⟨o0,e0,h3,by simp only[Kd.size];omega⟩
   ·exact .inr (k1 b h2)
  intro S2 w2 m2 mm y x2 cs2 Fn hs hm h1 h2 h3 h4 h5 h6 h7 h8 h9;have hs':(match gx a x.1 p K' y with|some z=>some ((z,x.2):a.T×b.T)|none=>none)=some x2:=hs;cases hz:gx a x.1 p K' y with
  |none=>rw[hz]at hs';cases hs'
  |some z=>
   rw[hz]at hs';simp only[Jq]at hs';subst hs';have hm':(match iY m.fst p m2 with|some a=>some (vn a m.snd)|none=>none)=some mm:=by
    cases m with
    |own n=>exact bJ rfl (hm0' n)
    |ro=>exact hm
    |pr _ _=>exact hm
   cases hq:iY m.fst p m2 with
   |none=>rw[hq]at hm';cases hm'
   |some ma=>
    rw[hq]at hm';simp only[Jq]at hm';subst hm';obtain⟨q1,q2,q3⟩:=f.set S2 w2 m2 ma y z cs2 Fn hz hq h1 h2 (λb o hF hF' hR=>h3 b o (k1 b hF) hF' hR)
     (λb o hR hR'=>h4 b o (by obtain⟨o0,e0,r1,r2⟩:=hR;exact⟨o0,e0,r1,by simp only[Kd.size];omega⟩) hR') h5 h6 (λb hn hF=>h7 b hn (k1 b hF)) h8 h9
    have apart:∀b' o',F2 b'->¬sY pl' K'.size b' o':=by
     intro b' o' hF ⟨o0,e0,_,_⟩;obtain⟨_,h⟩:=f.at_ b' o0 e0;rcases h with⟨o1',e1,_,_⟩|h
     ·exact hb b' o1' e1 (k2 b' hF)
     ·exact k3 b' h hF
    have keep2:Own S2 w2 b m.snd x.2 c2 F2:=o2.mono h1 h2 (λ_ h=>h) (λb' o' hF=>h3 b' o' (k2 b' hF) (λh=>k3 b' (f.sub b' h) hF) (apart b' o' hF));have es:bV (.fst::p) (.pair a b) (c1++c2) cs2=bV p a c1 cs2++c2:=by
     simp only[bV];rw[← l1,KM,Kx]
    have ln:(bV p a c1 cs2).length=a.size:=q1.length;have e1:∀p2,ck w (.fst::p2) (.pair a b) pl (c1++c2)=ck w p2 a pl c1:=λp2=>by simp only[ck];rw[← l1,KM]
    have e2:∀p2,ck w2 (.fst::p2) (.pair a b) pl (bV p a c1 cs2++c2)=ck w2 p2 a pl (bV p a c1 cs2):=λp2=>by simp only[ck];rw[← ln,KM]
    have e3:∀p2,ck w (.snd::p2) (.pair a b) pl (c1++c2)=ck w p2 b (pl.up a.size) c2:=λp2=>by simp only[ck];rw[← l1,Kx]
    have e4:∀p2,ck w2 (.snd::p2) (.pair a b) pl (bV p a c1 cs2++c2)=ck w2 p2 b (pl.up a.size) c2:=λp2=>by simp only[ck];rw[← ln,Kx]
    rw[es];refine⟨?_,?_,?_⟩
    ·refine Own.pair_join (F1:=λb=>(F1 b/\¬F' b)\/Fn b) (F2:=F2) (λb' h=>?_) (λb' h=>?_) (λb' h hF=>?_) q1 keep2
     ·rcases h with⟨h,h'⟩|h
      ·exact .inl ⟨k1 b' h,h'⟩
      ·exact .inr h
     ·exact .inl ⟨k2 b' h,λh'=>k3 b' (f.sub b' h') h⟩
     ·rcases h with⟨h,_⟩|h
      ·exact k3 b' h hF
      ·exact k3 b' (f.sub b' (h7 b' h (k2 b' hF))) hF
    ·refine q2.join ?_
     rw[ln,← l1];refine hp.append.2.of_same λb' o' hR=>h4 b' o' ?_ ?_
     ·obtain⟨o0,e0,r1,r2⟩:=hR
      cases pl with
      |none=>simp[Place.up]at e0
      |some q=>
       simp only[Place.up,KR,Jq,JH]at e0;obtain⟨e1,e2⟩:=e0;have l2:c2.length=b.size:=o2.length;exact⟨q.2,by rw[← e1],by omega,by simp only[Kd.size];omega⟩
     ·rintro⟨o0,e0,r1,r2⟩
      obtain⟨o3,e3,r3,r4⟩:=hR;cases pl with
      |none=>simp[Place.up]at e3
      |some q=>
       simp only[Place.up,KR,Jq,JH]at e3;obtain⟨e1,e2⟩:=e3;obtain⟨_,h⟩:=f.at_ b' o0 e0;rcases h with⟨o1',e4,r5,r6⟩|h
       ·simp only[Jq]at e4
        subst e4
        simp only at e2
        omega
       ·exact hb b' q.2 (by rw[← e1]) (k1 b' h)
    ·have same2:∀b' o',F2 b'->w2.pk b' o'=w.pk b' o':=λb' o' hF=>(h3 b' o' (k2 b' hF) (λh=>k3 b' (f.sub b' h) hF) (apart b' o' hF)).1
     refine⟨λp2 g r hg2 hn2 hh=>?_,λp2 g r c hg2 hn2 hh=>?_,λp2 g r hg2 hn2 hk hc hh=>?_,λp2 g r c hg2 hn2 hk hc hh=>?_⟩<;>cases p2 with
     |nil=>
      simp only[ck,Jq]at hn2
      first
       |exact⟨_,by simp only[ck,JH]at hn2⊢;rw[hn2.1]⟩
       |(have hx:aV p=true:=by simpa[gm,fq,aV]using hh
         have es2:bV p a c1 cs2=c1:=ff p (K:=a) hx hn';rw[es2];simp only[ck,hn2])
       |(have es2:bV p a c1 cs2=c1:=by rw[hc];exact eB p (K:=a) hn'
         rw[es2];simp only[ck,hn2])
     |cons s p2=>
      cases s with
      |fst=>
       rw[e1]at hn2;rw[e2]
       first
       |exact q3.al p2 g r hg2 hn2 (by simpa[gm,fq]using hh)
       |exact q3.pt p2 g r c hg2 hn2 (by simpa[iO,fq]using hh)
       |exact q3.ms p2 g r hg2 hn2 hk hc (by simpa[gm,fq]using hh)
       |exact q3.mt p2 g r c hg2 hn2 hk hc (by simpa[iO,fq]using hh)
      |snd=>
       rw[e3]at hn2;rw[e4]
       first
       |exact iw p2 (K:=b) hg2 o2 same2 hn2
       |exact⟨_,iw p2 (K:=b) hg2 o2 same2 hn2⟩
      |_=>simp[aS]at hg2
 | .snd::p,.pair a b,m,x,cs,F,pl,K',m',x',cs',pl',hg,hn,ho,hp,hb=>by
  by_cases hm0:∃n,m= .own n
  ·obtain⟨n,rfl⟩:=hm0;exact ho.elim
  have hm0':∀n,m≠ .own n:=λn e=>hm0 ⟨n,e⟩
  obtain⟨c1,c2,F1,F2,rfl,k1,k2,k3,o1,o2⟩:=Own.pair_parts hm0' ho;have l1:c1.length=a.size:=o1.length;have l2:c2.length=b.size:=o2.length;have hn':ck w p b (pl.up a.size) c2=some (pl',cs'):=by
   have:ck w p b (pl.up a.size) ((c1++c2).drop a.size)=some (pl',cs'):=hn
   rwa [← l1,Kx,l1]at this
  have upb:∀b' o',pl.up a.size=some (b',o')->∃o0,pl=some (b',o0)/\o'=o0+a.size:=by
   intro b' o' e;cases pl with
   |none=>simp[Place.up]at e
   |some q=>
    simp only[Place.up,KR,Jq,JH]at e;exact⟨q.2,by rw[← e.1],e.2.symm⟩
  obtain⟨F',f⟩:=ns p (K:=b) (m:=m.snd) (x:=x.2) (cs:=c2) (F:=F2) (pl:=pl.up a.size) hg hn' o2 (by have:=hp.append.2;rwa [l1]at this)
   (λb' o' e h=>by obtain⟨o0,e0,_⟩:=upb b' o' e;exact hb b' o0 e0 (k2 b' h))
  refine⟨F',λb h=>k2 b (f.sub b h),f.own,f.ok,λw2 h=>?_,λb' o' e=>?_,?_⟩
  ·have:=f.nv w2 (λb' o' hF hF'=>h b' o' (k2 b' hF) hF')
   simp only[ck];rw[← l1,Kx,l1];exact this
  ·obtain⟨h1,h2⟩:=f.at_ b' o' e
   refine⟨h1,?_⟩;rcases h2 with⟨o0,e0,h3,h4⟩|h2
   ·obtain⟨o1',e1,e2⟩:=upb _ _ e0
    exact .inl ⟨o1',e1,by omega,by simp only[Kd.size];omega⟩
   ·exact .inr (k2 b' h2)
  intro S2 w2 m2 mm y x2 cs2 Fn hs hm h1 h2 h3 h4 h5 h6 h7 h8 h9;have hs':(match gx b x.2 p K' y with|some z=>some ((x.1,z):a.T×b.T)|none=>none)=some x2:=hs;cases hz:gx b x.2 p K' y with
  |none=>rw[hz]at hs';cases hs'
  |some z=>
   rw[hz]at hs';simp only[Jq]at hs';subst hs';have hm':(match iY m.snd p m2 with|some b=>some (vn m.fst b)|none=>none)=some mm:=by
    cases m with
    |own n=>exact bJ rfl (hm0' n)
    |ro=>exact hm
    |pr _ _=>exact hm
   cases hq:iY m.snd p m2 with
   |none=>rw[hq]at hm';cases hm'
   |some mb=>
    rw[hq]at hm';simp only[Jq]at hm';subst hm';obtain⟨q1,q2,q3⟩:=f.set S2 w2 m2 mb y z cs2 Fn hz hq h1 h2 (λb' o' hF hF' hR=>h3 b' o' (k2 b' hF) hF' hR)
     (λb' o' hR hR'=>h4 b' o' (by
      obtain⟨o0,e0,r1,r2⟩:=hR;obtain⟨o1',e1,e2⟩:=upb _ _ e0;exact⟨o1',e1,by omega,by simp only[Kd.size];omega⟩) hR') h5 h6 (λb' hn hF=>h7 b' hn (k2 b' hF))
     (λb' o' e=>by obtain⟨o0,e0,_⟩:=upb b' o' e;exact h8 b' o0 e0) h9
    have apart:∀b' o',F1 b'->¬sY pl' K'.size b' o':=by
     intro b' o' hF ⟨o0,e0,_,_⟩;obtain⟨_,h⟩:=f.at_ b' o0 e0;rcases h with⟨o1',e1,_,_⟩|h
     ·obtain⟨o2',e2,_⟩:=upb _ _ e1
      exact hb b' o2' e2 (k1 b' hF)
     ·exact k3 b' hF h
    have keep1:Own S2 w2 a m.fst x.1 c1 F1:=o1.mono h1 h2 (λ_ h=>h) (λb' o' hF=>h3 b' o' (k1 b' hF) (λh=>k3 b' hF (f.sub b' h)) (apart b' o' hF));have es:bV (.snd::p) (.pair a b) (c1++c2) cs2=c1++bV p b c2 cs2:=by
     simp only[bV];rw[← l1,KM,Kx]
    have e1:∀p2,ck w (.fst::p2) (.pair a b) pl (c1++c2)=ck w p2 a pl c1:=λp2=>by simp only[ck];rw[← l1,KM]
    have e2:∀p2,ck w2 (.fst::p2) (.pair a b) pl (c1++bV p b c2 cs2)=ck w2 p2 a pl c1:=λp2=>by simp only[ck];rw[← l1,KM]
    have e3:∀p2,ck w (.snd::p2) (.pair a b) pl (c1++c2)=ck w p2 b (pl.up a.size) c2:=λp2=>by simp only[ck];rw[← l1,Kx]
    have e4:∀p2,ck w2 (.snd::p2) (.pair a b) pl (c1++bV p b c2 cs2)=ck w2 p2 b (pl.up a.size) (bV p b c2 cs2):=λp2=>by simp only[ck];rw[← l1,Kx]
    rw[es];refine⟨?_,?_,?_⟩
    ·refine Own.pair_join (F1:=F1) (F2:=λb=>(F2 b/\¬F' b)\/Fn b) (λb' h=>?_) (λb' h=>?_) (λb' hF h=>?_) keep1 q1
     ·exact .inl ⟨k1 b' h,λh'=>k3 b' h (f.sub b' h')⟩
     ·rcases h with⟨h,h'⟩|h
      ·exact .inl ⟨k2 b' h,h'⟩
      ·exact .inr h
     ·rcases h with⟨h,_⟩|h
      ·exact k3 b' hF h
      ·exact k3 b' hF (f.sub b' (h7 b' h (k1 b' hF)))
    ·refine PlOk.join ?_ (by rw[l1];exact q2)
     refine hp.append.1.of_same λb' o' hR=>h4 b' o' ?_ ?_
     ·obtain⟨o0,e0,r1,r2⟩:=hR
      exact⟨o0,e0,r1,by simp only[Kd.size];omega⟩
     ·rintro⟨o0,e0,r1,r2⟩
      obtain⟨o3,e3,r3,r4⟩:=hR;obtain⟨_,h⟩:=f.at_ b' o0 e0;rcases h with⟨o1',e4,r5,r6⟩|h
      ·obtain⟨o2',e5,e6⟩:=upb _ _ e4
       rw[e3]at e5;simp only[Jq,JH]at e5;omega
      ·exact hb b' o3 e3 (k2 b' h)
    ·have same2:∀b' o',F1 b'->w2.pk b' o'=w.pk b' o':=λb' o' hF=>(h3 b' o' (k1 b' hF) (λh=>k3 b' hF (f.sub b' h)) (apart b' o' hF)).1
     refine⟨λp2 g r hg2 hn2 hh=>?_,λp2 g r c hg2 hn2 hh=>?_,λp2 g r hg2 hn2 hk hc hh=>?_,λp2 g r c hg2 hn2 hk hc hh=>?_⟩<;>cases p2 with
     |nil=>
      simp only[ck,Jq]at hn2
      first
       |exact⟨_,by simp only[ck,JH]at hn2⊢;rw[hn2.1]⟩
       |(have hx:aV p=true:=by simpa[gm,fq,aV]using hh
         have es2:bV p b c2 cs2=c2:=ff p (K:=b) hx hn';rw[es2];simp only[ck,hn2])
       |(have es2:bV p b c2 cs2=c2:=by rw[hc];exact eB p (K:=b) hn'
         rw[es2];simp only[ck,hn2])
     |cons s p2=>
      cases s with
      |snd=>
       rw[e3]at hn2;rw[e4]
       first
       |exact q3.al p2 g r hg2 hn2 (by simpa[gm,fq]using hh)
       |exact q3.pt p2 g r c hg2 hn2 (by simpa[iO,fq]using hh)
       |exact q3.ms p2 g r hg2 hn2 hk hc (by simpa[gm,fq]using hh)
       |exact q3.mt p2 g r c hg2 hn2 hk hc (by simpa[iO,fq]using hh)
      |fst=>
       rw[e1]at hn2;rw[e2]
       first
       |exact iw p2 (K:=a) hg2 o1 same2 hn2
       |exact⟨_,iw p2 (K:=a) hg2 o1 same2 hn2⟩
      |_=>simp[aS]at hg2
 | .idx i::p,.sl e,.own m,xs,cs,F,pl,K',m',x',cs',pl',hg,hn,ho,hp,hb=>by
  obtain⟨A,cap,rfl,hl,hnil,hr,G,hG,hG1,hG2,he⟩:=ho;have hn0:∃b o,A=some ⟨b,o,none⟩/\0<=i/\i<(Je xs:Int)/\ck w p e (some (b,o+i.toNat*e.size)) (je w b (o+i.toNat*e.size) e.size)=some (pl',cs'):=by
   cases A with
   |none=>simp[ck]at hn
   |some ad=>
    obtain⟨b,o,sp⟩:=ad;have hsp:sp=none:=(hr _ rfl).1;subst hsp;simp only[ck]at hn
    split at hn
    ·rename_i hi;exact⟨b,o,rfl,hi.1,hi.2,hn⟩
    ·cases hn
  obtain⟨b,o,rfl,hi0,hi1,hn'⟩:=hn0;have hi:i.toNat<Je xs:=by omega
  obtain⟨b',o',vs,hA,hc,hov⟩:=he i.toNat hi;simp only[Jq,ML,and_true]at hA;obtain⟨rfl,rfl⟩:=hA;obtain⟨-,hFb,hroom⟩:=hr _ rfl;have lv:vs.length=e.size:=hov.length;rw[eT hc lv]at hn';have inroom:∀j,j<e.size->i.toNat*e.size+j<cap*e.size:=by
   intro j hj;have h1:(i.toNat+1)*e.size<=cap*e.size:=JW _ (by omega);rw[Ku,KQ]at h1;omega
  have hok:PlOk w (some (b,o+i.toNat*e.size)) vs:=by
   intro b1 o1 e1;simp only[Jq,JH]at e1;obtain⟨rfl,rfl⟩:=e1;refine⟨hc,λj hj=>?_⟩;have:=(hroom (i.toNat*e.size+j)).2
   rwa [show o+(i.toNat*e.size+j)=o+i.toNat*e.size+j by omega]at this
  have hget:Ji xs i.toNat e.zero=xs[i.toNat]:=by simp[Ji,hi]
  have hg':aS e m (xs[i.toNat]) p=some ⟨K',m',x'⟩:=by
   have:aS e m (Ji xs i.toNat e.zero) p=some ⟨K',m',x'⟩:=hg
   rwa [hget]at this
  obtain⟨F',f⟩:=ns p (K:=e) (m:=m) (x:=xs[i.toNat]) (cs:=vs) (F:=G i.toNat) (pl:=some (b,o+i.toNat*e.size)) hg' hn' hov hok
   (λb1 o1 e1 h=>by simp only[Jq,JH]at e1;obtain⟨rfl,rfl⟩:=e1;exact hG1 _ _ rfl h)
  refine⟨F',λb1 h=>hG _ b1 (f.sub b1 h),f.own,f.ok,λw2 h=>?_,λb1 o1 e1=>?_,?_⟩
  ·have h1:=f.nv w2 (λb' o' hF hF'=>h b' o' (hG _ b' hF) hF')
   have hc2:CellsAt w2 b (o+i.toNat*e.size) vs:=hc.of_same λo' v hv=>by rw[h b o' hFb (λh=>hG1 i.toNat _ rfl (f.sub _ h))];exact hv
   simp only[ck];rw[ab ⟨hi0,hi1⟩,eT hc2 lv];exact h1
  ·obtain⟨h1,h2⟩:=f.at_ b1 o1 e1
   refine⟨h1,.inr ?_⟩;rcases h2 with⟨o0,e0,_,_⟩|h2
   ·simp only[Jq,JH]at e0
    rw[← e0.1];exact hFb
   ·exact hG _ b1 h2
  intro S2 w2 m2 mm y x2 cs2 Fn hs hm h1 h2 h3 h4 h5 h6 h7 h8 h9;have hs':(match gx e (Ji xs i.toNat e.zero) p K' y with|some z=>some (Kl xs i.toNat z)|none=>none)=some x2:=hs;rw[hget]at hs';cases hz:gx e xs[i.toNat] p K' y with
  |none=>rw[hz]at hs';cases hs'
  |some z=>
   rw[hz]at hs';simp only[Jq]at hs';subst hs';have hm':(match iY m p m2 with|some m3=>if m3.beq m then some (Md.own m)else none|none=>none)=some mm:=hm;cases hq:iY m p m2 with
   |none=>rw[hq]at hm';cases hm'
   |some m3=>
    rw[hq]at hm';dsimp only at hm'
    split at hm'
    ·rename_i hbeq
     have:=Md.eq_of_beq hbeq;subst this;simp only[Jq]at hm';subst hm';have pl'at:∀b1 o1,sY pl' K'.size b1 o1->(b1=b/\o+i.toNat*e.size<=o1/\o1<o+i.toNat*e.size+e.size)\/G i.toNat b1:=by
      rintro b1 o1 ⟨o0,e0,r1,r2⟩;obtain⟨_,h⟩:=f.at_ b1 o0 e0;rcases h with⟨o2,e2,r3,r4⟩|h
      ·simp only[Jq,JH]at e2
       exact .inl ⟨e2.1.symm,by omega,by omega⟩
      ·exact .inr h
     have notG:∀b1,G i.toNat b1->b1≠b:=λb1 h e1=>hG1 i.toNat _ rfl (by rw[← e1];exact h)
     have inner:∀b1 o1,sY (some (b,o+i.toNat*e.size)) e.size b1 o1->¬sY pl' K'.size b1 o1->w2.pk b1 o1=w.pk b1 o1/\w2.frozen? ⟨b1,o1,none⟩=w.frozen? ⟨b1,o1,none⟩:=by
      rintro b1 o1 ⟨o0,e0,r1,r2⟩ hR';simp only[Jq,JH]at e0;obtain⟨rfl,rfl⟩:=e0;exact h3 _ o1 hFb (λh=>hG1 i.toNat _ rfl (f.sub _ h)) hR'
     obtain⟨q1,q2,q3⟩:=f.set S2 w2 m2 m3 y z cs2 Fn hz hq h1 h2 (λb1 o1 hF hF' hR=>h3 b1 o1 (hG _ b1 hF) hF' hR) inner h5 h6
      (λb1 hn hF=>h7 b1 hn (hG _ b1 hF)) (λb1 o1 e1 h=>by
       simp only[Jq,JH]at e1;obtain⟨rfl,_⟩:=e1;exact hG1 i.toNat _ rfl (f.sub _ (h7 _ h hFb))) h9
     show Own S2 w2 (.sl e) (.own m3) (Kl xs i.toNat z) [.slice (some ⟨b,o,none⟩) (Je xs) cap] _/\PlOk w2 pl [.slice (some ⟨b,o,none⟩) (Je xs) cap]/\
      I1 w w2 (.idx i::p) (.sl e) (.own m3) xs [.slice (some ⟨b,o,none⟩) (Je xs) cap] pl K' cs' cs2 [.slice (some ⟨b,o,none⟩) (Je xs) cap]
     have rci:je w2 b (o+i.toNat*e.size) e.size=bV p e vs cs2:=eT (q2 b _ rfl).1 q1.length;have keepj:∀j (hj:j<Je xs),j≠i.toNat->∀vs1,CellsAt w b (o+j*e.size) vs1->vs1.length=e.size->CellsAt w2 b (o+j*e.size) vs1:=by
      intro j hj hji vs1 hc1 lv1 k hk;rw[na (h3 b (o+j*e.size+k) hFb (λh=>hG1 i.toNat _ rfl (f.sub _ h)) (λhR=>?_)).1]
      ·exact hc1 k hk
      ·rcases pl'at _ _ hR with⟨_,r1,r2⟩|h
       ·have:=pP (s:=e.size) (a:=k) (b:=o+j*e.size+k - (o+i.toNat*e.size)) hji (by omega) (by omega)
        omega
       ·exact notG _ h rfl
     have samej:∀j,j≠i.toNat->∀b1 o1,G j b1->w2.pk b1 o1=w.pk b1 o1:=by
      intro j hji b1 o1 hF;refine(h3 b1 o1 (hG _ b1 hF) (λh=>hG2 _ _ b1 hji hF (f.sub b1 h)) (λhR=>?_)).1;rcases pl'at _ _ hR with⟨e2,_,_⟩|h
      ·exact hG1 j _ rfl (by rw[← e2];exact hF)
      ·exact hG2 _ _ b1 hji hF h
     refine⟨?_,?_,?_⟩
     ·refine⟨some ⟨b,o,none⟩,cap,by rw[MN],by rw[MN];exact hl,(λh=>by cases h),λad had=>?_,λj b1=>if j=i.toNat then(G j b1/\¬F' b1)\/Fn b1 else G j b1,?_,?_,?_,?_⟩
      ·simp only[Jq]at had
       subst had;refine⟨rfl,.inl ⟨hFb,λh=>hG1 i.toNat _ rfl (f.sub _ h)⟩,λj=>?_⟩
       by_cases hin:sY pl' K'.size b (o+j)
       ·obtain⟨o0,e0,r1,r2⟩:=hin
        obtain⟨g1,g2⟩:=h5 b o0 e0;have l3:cs2.length=K'.size:=h6.length;have hlt:o+j - o0<cs2.length:=by omega
        have c1:=g1 (o+j - o0) hlt;have c2:=g2 (o+j - o0) hlt;rw[show o0+(o+j - o0)=o+j by omega]at c1 c2;exact⟨λ_=>⟨_,c1⟩,c2⟩
       ·obtain⟨hv0,hz'⟩:=hroom j
        obtain⟨g1,g2⟩:=h3 b (o+j) hFb (λh=>hG1 i.toNat _ rfl (f.sub _ h)) hin;exact⟨λhj=>by obtain⟨v,hv⟩:=hv0 hj;exact⟨v,by rw[na g1];exact hv⟩,by rw[g2];exact hz'⟩
      ·intro j b1 h
       split at h
       ·rename_i hj
        subst hj;rcases h with⟨h,h'⟩|h
        ·exact .inl ⟨hG _ b1 h,h'⟩
        ·exact .inr h
       ·rename_i hj
        exact .inl ⟨hG _ b1 h,λh'=>hG2 _ _ b1 hj h (f.sub b1 h')⟩
      ·intro j ad had h
       simp only[Jq]at had;subst had
       split at h
       ·rename_i hj
        rcases h with⟨h,_⟩|h
        ·exact hG1 j _ rfl h
        ·exact hG1 i.toNat _ rfl (f.sub _ (h7 _ h hFb))
       ·exact hG1 j _ rfl h
      ·intro j1 j2 b1 hne h h'
       split at h
       ·rename_i hj
        rw[ao (λe2=>hne (by rw[hj,e2]))]at h';rcases h with⟨h,_⟩|h
        ·exact hG2 _ _ b1 hne h h'
        ·exact hG2 _ _ b1 (by rw[← hj];exact hne) (f.sub b1 (h7 b1 h (hG _ b1 h'))) h'
       ·rename_i hj
        split at h'
        ·rename_i hj'
         rcases h' with⟨h',_⟩|h'
         ·exact hG2 _ _ b1 hne h h'
         ·exact hG2 _ _ b1 (by rw[← hj'];exact hne) h (f.sub b1 (h7 b1 h' (hG _ b1 h)))
        ·exact hG2 _ _ b1 hne h h'
      ·intro j hj
       have hj0:j<Je xs:=by rw[MN]at hj;exact hj
       by_cases hji:j=i.toNat
       ·subst hji
        refine⟨b,o,bV p e vs cs2,rfl,(q2 b _ rfl).1,?_⟩;rw[List.getElem_set_self];have e1:(λb1=>if i.toNat=i.toNat then(G i.toNat b1/\¬F' b1)\/Fn b1 else G i.toNat b1)=λb1=>(G i.toNat b1/\¬F' b1)\/Fn b1:=by
         funext b1;rw[ab rfl]
        show Own S2 w2 e m3 z (bV p e vs cs2) (λb1=>if i.toNat=i.toNat then(G i.toNat b1/\¬F' b1)\/Fn b1 else G i.toNat b1);rw[e1];exact q1
       ·obtain⟨b1,o1,vs1,hA1,hc1,ho1⟩:=he j hj0
        simp only[Jq,ML,and_true]at hA1;obtain⟨rfl,rfl⟩:=hA1;have lv1:vs1.length=e.size:=ho1.length;refine⟨b,o,vs1,rfl,λk hk=>?_,?_⟩
        ·rw[na (h3 b (o+j*e.size+k) hFb (λh=>hG1 i.toNat _ rfl (f.sub _ h)) (λhR=>?_)).1]
         ·exact hc1 k hk
         ·rcases pl'at _ _ hR with⟨_,r1,r2⟩|h
          ·have:=pP (s:=e.size) (a:=k) (b:=o+j*e.size+k - (o+i.toNat*e.size)) hji (by omega) (by omega)
           omega
          ·exact notG _ h rfl
        ·rw[List.getElem_set_ne (λe2=>hji e2.symm)]
         have e1:(λb1=>if j=i.toNat then(G j b1/\¬F' b1)\/Fn b1 else G j b1)=G j:=by
          funext b1;rw[ao hji]
         show Own S2 w2 e m3 xs[j] vs1 (λb1=>if j=i.toNat then(G j b1/\¬F' b1)\/Fn b1 else G j b1);rw[e1];refine ho1.mono h1 h2 (λ_ h=>h) (λb1 o1 hF=>h3 b1 o1 (hG _ b1 hF) (λh=>hG2 _ _ b1 hji hF (f.sub b1 h)) (λhR=>?_));rcases pl'at _ _ hR with⟨e2,_,_⟩|h
         ·exact hG1 j _ rfl (by rw[← e2];exact hF)
         ·exact hG2 _ _ b1 hji hF h
     ·refine hp.of_same λb1 o1 hR=>h4 b1 o1 hR (λhR'=>?_)
      obtain⟨o2,e2,_,_⟩:=hR;rcases pl'at _ _ hR' with⟨e3,_,_⟩|h
      ·exact hb b1 o2 e2 (by rw[e3];exact hFb)
      ·exact hb b1 o2 e2 (hG _ b1 h)
     ·have other:∀j p2 g r,aS (.sl e) (.own m3) xs (.idx j::p2)=some g->ck w (.idx j::p2) (.sl e) pl [.slice (some ⟨b,o,none⟩) (Je xs) cap]=some r->j.toNat≠i.toNat->
        ck w2 (.idx j::p2) (.sl e) pl [.slice (some ⟨b,o,none⟩) (Je xs) cap]=some r:=by
       intro j p2 g r hg2 hn2 hji;simp only[ck]at hn2⊢
       split at hn2
       ·rename_i hj
        rw[ab hj];have hj':j.toNat<Je xs:=by omega
        obtain⟨b1,o1,vs1,hA1,hc1,ho1⟩:=he j.toNat hj';simp only[Jq,ML,and_true]at hA1;obtain⟨rfl,rfl⟩:=hA1;rw[eT hc1 ho1.length]at hn2;rw[eT (keepj j.toNat hj' hji vs1 hc1 ho1.length) ho1.length];have hget2:Ji xs j.toNat e.zero=xs[j.toNat]:=by simp[Ji,hj']
        have hg3:aS e m3 (xs[j.toNat]) p2=some g:=by
         have:aS e m3 (Ji xs j.toNat e.zero) p2=some g:=hg2
         rwa [hget2]at this
        exact iw p2 (K:=e) hg3 ho1 (samej j.toNat hji) hn2
       ·cases hn2
      have here:∀j p2 g r,aS (.sl e) (.own m3) xs (.idx j::p2)=some g->ck w (.idx j::p2) (.sl e) pl [.slice (some ⟨b,o,none⟩) (Je xs) cap]=some r->j.toNat=i.toNat->
        (0<=j/\j<((Je xs:Nat):Int))/\aS e m3 xs[i.toNat] p2=some g/\ck w p2 e (some (b,o+i.toNat*e.size)) vs=some r:=by
       intro j p2 g r hg2 hn2 hji;simp only[ck]at hn2
       split at hn2
       ·rename_i hj
        refine⟨hj,?_,?_⟩
        ·have:aS e m3 (Ji xs j.toNat e.zero) p2=some g:=hg2
         rwa [hji,hget]at this
        ·rw[hji,eT hc lv]at hn2
         exact hn2
       ·cases hn2
      have there:∀j p2 r,(0<=j/\j<((Je xs:Nat):Int))->j.toNat=i.toNat->ck w2 p2 e (some (b,o+i.toNat*e.size)) (bV p e vs cs2)=some r->
        ck w2 (.idx j::p2) (.sl e) pl [.slice (some ⟨b,o,none⟩) (Je xs) cap]=some r:=by
       intro j p2 r hj hji h;simp only[ck];rw[ab hj,hji,rci];exact h
      refine⟨λp2 g r hg2 hn2 hh=>?_,λp2 g r c hg2 hn2 hh=>?_,λp2 g r hg2 hn2 hk hc2 hh=>?_,λp2 g r c hg2 hn2 hk hc2 hh=>?_⟩<;>cases p2 with
      |nil=>first
       |exact hn2
       |exact⟨_,hn2⟩
      |cons s p2=>
       cases s with
       |idx j=>
        by_cases hji:j.toNat=i.toNat
        ·obtain⟨a1,a2,a3⟩:=here j p2 g _ hg2 hn2 hji
         first
         |exact there j p2 _ a1 hji (q3.al p2 g r a2 a3 (by simpa[gm,fq]using hh))
         |exact(q3.mt p2 g r c a2 a3 hk hc2 (by simpa[iO,fq]using hh)).elim λc4 hc4=>⟨c4,there j p2 _ a1 hji hc4⟩
         |exact(q3.pt p2 g r c a2 a3 (by simpa[iO,fq]using hh)).elim λc4 hc4=>⟨c4,there j p2 _ a1 hji hc4⟩
         |exact there j p2 _ a1 hji (q3.ms p2 g r a2 a3 hk hc2 (by simpa[gm,fq]using hh))
        ·first
         |exact other j p2 g r hg2 hn2 hji
         |exact⟨_,other j p2 g _ hg2 hn2 hji⟩
       |_=>simp[aS]at hg2
    ·cases hm'
 | .inn::_,.int _,_,_,_,_,_,_,_,_,_,_,hg,_,_,_,_| .inn::_,.bool,_,_,_,_,_,_,_,_,_,_,hg,_,_,_,_| .inn::_,.str,_,_,_,_,_,_,_,_,_,_,hg,_,_,_,_| .inn::_,.err,_,_,_,_,_,_,_,_,_,_,hg,_,_,_,_| .inn::_,.raw _,_,_,_,_,_,_,_,_,_,_,hg,_,_,_,_
 | .inn::_,.sl _,_,_,_,_,_,_,_,_,_,_,hg,_,_,_,_| .inn::_,.pair _ _,_,_,_,_,_,_,_,_,_,_,hg,_,_,_,_=>by simp[aS]at hg
 | .fst::_,.int _,_,_,_,_,_,_,_,_,_,_,hg,_,_,_,_| .fst::_,.bool,_,_,_,_,_,_,_,_,_,_,hg,_,_,_,_| .fst::_,.str,_,_,_,_,_,_,_,_,_,_,hg,_,_,_,_| .fst::_,.err,_,_,_,_,_,_,_,_,_,_,hg,_,_,_,_| .fst::_,.raw _,_,_,_,_,_,_,_,_,_,_,hg,_,_,_,_
 | .fst::_,.sl _,_,_,_,_,_,_,_,_,_,_,hg,_,_,_,_| .fst::_,.st _,_,_,_,_,_,_,_,_,_,_,hg,_,_,_,_=>by simp[aS]at hg
 | .snd::_,.int _,_,_,_,_,_,_,_,_,_,_,hg,_,_,_,_| .snd::_,.bool,_,_,_,_,_,_,_,_,_,_,hg,_,_,_,_| .snd::_,.str,_,_,_,_,_,_,_,_,_,_,hg,_,_,_,_| .snd::_,.err,_,_,_,_,_,_,_,_,_,_,hg,_,_,_,_| .snd::_,.raw _,_,_,_,_,_,_,_,_,_,_,hg,_,_,_,_
 | .snd::_,.sl _,_,_,_,_,_,_,_,_,_,_,hg,_,_,_,_| .snd::_,.st _,_,_,_,_,_,_,_,_,_,_,hg,_,_,_,_=>by simp[aS]at hg
 | .idx _::_,.int _,_,_,_,_,_,_,_,_,_,_,hg,_,_,_,_| .idx _::_,.bool,_,_,_,_,_,_,_,_,_,_,hg,_,_,_,_| .idx _::_,.str,_,_,_,_,_,_,_,_,_,_,hg,_,_,_,_| .idx _::_,.err,_,_,_,_,_,_,_,_,_,_,hg,_,_,_,_| .idx _::_,.raw _,_,_,_,_,_,_,_,_,_,_,hg,_,_,_,_
 | .idx _::_,.pair _ _,_,_,_,_,_,_,_,_,_,_,hg,_,_,_,_| .idx _::_,.st _,_,_,_,_,_,_,_,_,_,_,hg,_,_,_,_=>by simp[aS]at hg
 | .idx _::_,.sl _,.ro,_,_,_,_,_,_,_,_,_,hg,_,_,_,_| .idx _::_,.sl _,.pr _ _,_,_,_,_,_,_,_,_,_,hg,_,_,_,_=>by simp[aS]at hg
theorem jk:∀(p:bI) {K:Kd} {m:Md} {x:K.T} {K':Kd} {m':Md} {x':K'.T} (q:bI),aS K m x p=some ⟨K',m',x'⟩->aS K m x (p++q)=aS K' m' x' q
 |[],K,m,x,K',m',x',q,h=>by simp only[aS,Jq]at h;cases h;rfl
 | .inn::p,.st k,m,x,K',m',x',q,h=>jk p (K:=k) q h
 | .fst::p,.pair a b,m,x,K',m',x',q,h=>jk p (K:=a) q h
 | .snd::p,.pair a b,m,x,K',m',x',q,h=>jk p (K:=b) q h
 | .idx i::p,.sl e,.own m,x,K',m',x',q,h=>jk p (K:=e) q h
 | .inn::_,.int _,_,_,_,_,_,_,hg| .inn::_,.bool,_,_,_,_,_,_,hg| .inn::_,.str,_,_,_,_,_,_,hg| .inn::_,.err,_,_,_,_,_,_,hg| .inn::_,.mp _ _,_,_,_,_,_,_,hg| .inn::_,.fcell _ _ _,_,_,_,_,_,_,hg| .inn::_,.raw _,_,_,_,_,_,_,hg| .inn::_,.sl _,_,_,_,_,_,_,hg| .inn::_,.pair _ _,_,_,_,_,_,_,hg=>by simp[aS]at hg
 | .fst::_,.int _,_,_,_,_,_,_,hg| .fst::_,.bool,_,_,_,_,_,_,hg| .fst::_,.str,_,_,_,_,_,_,hg| .fst::_,.err,_,_,_,_,_,_,hg| .fst::_,.mp _ _,_,_,_,_,_,_,hg| .fst::_,.fcell _ _ _,_,_,_,_,_,_,hg| .fst::_,.raw _,_,_,_,_,_,_,hg| .fst::_,.sl _,_,_,_,_,_,_,hg| .fst::_,.st _,_,_,_,_,_,_,hg=>by simp[aS]at hg
 | .snd::_,.int _,_,_,_,_,_,_,hg| .snd::_,.bool,_,_,_,_,_,_,hg| .snd::_,.str,_,_,_,_,_,_,hg| .snd::_,.err,_,_,_,_,_,_,hg| .snd::_,.mp _ _,_,_,_,_,_,_,hg| .snd::_,.fcell _ _ _,_,_,_,_,_,_,hg| .snd::_,.raw _,_,_,_,_,_,_,hg| .snd::_,.sl _,_,_,_,_,_,_,hg| .snd::_,.st _,_,_,_,_,_,_,hg=>by simp[aS]at hg
 | .idx _::_,.int _,_,_,_,_,_,_,hg| .idx _::_,.bool,_,_,_,_,_,_,hg| .idx _::_,.str,_,_,_,_,_,_,hg| .idx _::_,.err,_,_,_,_,_,_,hg| .idx _::_,.mp _ _,_,_,_,_,_,_,hg| .idx _::_,.fcell _ _ _,_,_,_,_,_,_,hg| .idx _::_,.raw _,_,_,_,_,_,_,hg| .idx _::_,.pair _ _,_,_,_,_,_,_,hg| .idx _::_,.st _,_,_,_,_,_,_,hg=>by simp[aS]at hg
 | .idx _::_,.sl _,.ro,_,_,_,_,_,hg| .idx _::_,.sl _,.pr _ _,_,_,_,_,_,hg=>by simp[aS]at hg
theorem ua {w:World}{i:Int}{p:bI}{e:Kd}{pl:Place}{cs:List Value}{r:Place×List Value}(h:ck w (.idx i::p) (.sl e) pl cs=some r):
  ∃b o n cap,cs=[.slice (some ⟨b,o,none⟩) n cap]/\0<=i/\i<(n:Int)/\ck w p e (some (b,o+i.toNat*e.size)) (je w b (o+i.toNat*e.size) e.size)=some r:=by
 cases cs with
 |nil=>simp[ck]at h
 |cons v l=>
  cases l with
  |cons _ _=>simp[ck]at h
  |nil=>
   cases v with
   |slice A n cap=>
    cases A with
    |none=>simp[ck]at h
    |some ad=>
     obtain⟨b,o,sp⟩:=ad;cases sp with
     |some _=>simp[ck]at h
     |none=>
      simp only[ck]at h
      split at h
      ·rename_i hi;exact⟨b,o,n,cap,rfl,hi.1,hi.2,h⟩
      ·cases h
   |_=>simp[ck]at h
theorem jQ {w:World}:∀(p:bI) {K:Kd} {m:Md} {x:K.T} {K':Kd} {m':Md} {x':K'.T} {pl pl':Place} {cs cs':List Value} (q:bI),aS K m x p=some ⟨K',m',x'⟩->
  ck w p K pl cs=some (pl',cs')->ck w (p++q) K pl cs=ck w q K' pl' cs'
 |[],K,m,x,K',m',x',pl,pl',cs,cs',q,hg,h=>by
  simp only[aS,Jq]at hg;simp only[ck,Jq,JH]at h;cases hg;rw[h.1,h.2];rfl
 | .inn::p,.st k,m,x,K',m',x',pl,pl',cs,cs',q,hg,h=>jQ p (K:=k) q hg h
 | .fst::p,.pair a b,m,x,K',m',x',pl,pl',cs,cs',q,hg,h=>jQ p (K:=a) q hg h
 | .snd::p,.pair a b,m,x,K',m',x',pl,pl',cs,cs',q,hg,h=>jQ p (K:=b) q hg h
 | .idx i::p,.sl e,.own m,x,K',m',x',pl,pl',cs,cs',q,hg,h=>by
  obtain⟨b,o,n,cap,rfl,h1,h2,h3⟩:=ua h;have:=jQ p (K:=e) q hg h3;show ck w (.idx i::(p++q)) (.sl e) pl _=_;simp only[ck];rw[ab ⟨h1,h2⟩];exact this
 | .inn::_,.int _,_,_,_,_,_,_,_,_,_,_,hg,_| .inn::_,.bool,_,_,_,_,_,_,_,_,_,_,hg,_| .inn::_,.str,_,_,_,_,_,_,_,_,_,_,hg,_| .inn::_,.err,_,_,_,_,_,_,_,_,_,_,hg,_| .inn::_,.mp _ _,_,_,_,_,_,_,_,_,_,_,hg,_| .inn::_,.fcell _ _ _,_,_,_,_,_,_,_,_,_,_,hg,_| .inn::_,.raw _,_,_,_,_,_,_,_,_,_,_,hg,_| .inn::_,.sl _,_,_,_,_,_,_,_,_,_,_,hg,_| .inn::_,.pair _ _,_,_,_,_,_,_,_,_,_,_,hg,_=>by simp[aS]at hg
 | .fst::_,.int _,_,_,_,_,_,_,_,_,_,_,hg,_| .fst::_,.bool,_,_,_,_,_,_,_,_,_,_,hg,_| .fst::_,.str,_,_,_,_,_,_,_,_,_,_,hg,_| .fst::_,.err,_,_,_,_,_,_,_,_,_,_,hg,_| .fst::_,.mp _ _,_,_,_,_,_,_,_,_,_,_,hg,_| .fst::_,.fcell _ _ _,_,_,_,_,_,_,_,_,_,_,hg,_| .fst::_,.raw _,_,_,_,_,_,_,_,_,_,_,hg,_| .fst::_,.sl _,_,_,_,_,_,_,_,_,_,_,hg,_| .fst::_,.st _,_,_,_,_,_,_,_,_,_,_,hg,_=>by simp[aS]at hg
 | .snd::_,.int _,_,_,_,_,_,_,_,_,_,_,hg,_| .snd::_,.bool,_,_,_,_,_,_,_,_,_,_,hg,_| .snd::_,.str,_,_,_,_,_,_,_,_,_,_,hg,_| .snd::_,.err,_,_,_,_,_,_,_,_,_,_,hg,_| .snd::_,.mp _ _,_,_,_,_,_,_,_,_,_,_,hg,_| .snd::_,.fcell _ _ _,_,_,_,_,_,_,_,_,_,_,hg,_| .snd::_,.raw _,_,_,_,_,_,_,_,_,_,_,hg,_| .snd::_,.sl _,_,_,_,_,_,_,_,_,_,_,hg,_| .snd::_,.st _,_,_,_,_,_,_,_,_,_,_,hg,_=>by simp[aS]at hg
 | .idx _::_,.int _,_,_,_,_,_,_,_,_,_,_,hg,_| .idx _::_,.bool,_,_,_,_,_,_,_,_,_,_,hg,_| .idx _::_,.str,_,_,_,_,_,_,_,_,_,_,hg,_| .idx _::_,.err,_,_,_,_,_,_,_,_,_,_,hg,_| .idx _::_,.mp _ _,_,_,_,_,_,_,_,_,_,_,hg,_| .idx _::_,.fcell _ _ _,_,_,_,_,_,_,_,_,_,_,hg,_| .idx _::_,.raw _,_,_,_,_,_,_,_,_,_,_,hg,_| .idx _::_,.pair _ _,_,_,_,_,_,_,_,_,_,_,hg,_| .idx _::_,.st _,_,_,_,_,_,_,_,_,_,_,hg,_=>by simp[aS]at hg
 | .idx _::_,.sl _,.ro,_,_,_,_,_,_,_,_,_,hg,_| .idx _::_,.sl _,.pr _ _,_,_,_,_,_,_,_,_,_,hg,_=>by simp[aS]at hg
def nG:bI->Bool
 |[]=>true
 | .idx _::p=>!aV p
 |_::p=>nG p
theorem qw:∀{p:bI},aV p=false->nG p=true
 |[],_=>rfl
 | .inn::p,h=>qw (p:=p) (by simpa[aV]using h)
 | .fst::p,h=>qw (p:=p) (by simpa[aV]using h)
 | .snd::p,h=>qw (p:=p) (by simpa[aV]using h)
 | .idx _::_,h=>by simp[aV]at h
theorem lw {w w2:World}:∀(p:bI) {K:Kd} {pl:Place} {cs:List Value} {r:Place} {c:List Value},nG p=true->ck w p K pl cs=some (r,c)->∃c2,ck w2 p K pl cs=some (r,c2)
 |[],K,pl,cs,r,c,_,h=>⟨c,h⟩
 | .idx i::p,K,pl,cs,r,c,hi,h=>by
  have hi':(!aV p)=true:=hi;cases K with
  |sl e=>
   obtain⟨b,o,n,cap,rfl,h1,h2,h3⟩:=ua h;obtain⟨c3,h4⟩:=iZ (w2:=w2) (c2:=je w2 b (o+i.toNat*e.size) e.size) p (by simpa using hi') h3;refine⟨c3,?_⟩;simp only[ck];rw[ab ⟨h1,h2⟩];exact h4
  |_=>simp[ck]at h
 | .inn::p,K,pl,cs,r,c,hi,h=>by
  cases K with
  |st k=>exact lw p (K:=k) hi h
  |_=>simp[ck]at h
 | .fst::p,K,pl,cs,r,c,hi,h=>by
  cases K with
  |pair a d=>exact lw p (K:=a) hi h
  |_=>simp[ck]at h
 | .snd::p,K,pl,cs,r,c,hi,h=>by
  cases K with
  |pair a d=>exact lw p (K:=d) hi h
  |_=>simp[ck]at h
abbrev KV:Type:=(K:Kd)×K.T
@[reducible] def Kd.Ts:List Kd → Type
 |[]=>Unit
 |K::Ks=>K.T×Kd.Ts Ks
inductive Arg where
 |ro (K:Kd) (x:K.T)
 |rp (K:Kd) (x:K.T)
 |mp (K:Kd) (m:Md) (x:K.T)
 |ms (K:Kd) (m:Md) (x:K.T)
 |mv (K:Kd) (m:Md) (x:K.T)
 |fn (Ks:List Kd) (Kr:Kd) (f:Kd.Ts Ks->Option Kr.T)
 |fc (f:Nat) (fs caps:List KV)
inductive AM where
 |ro
 |rp
 |mp
 |ms
 |mv
 |fn (Ks:List Kd) (Kr:Kd)
 |fc (f:Nat) (Fs Ks:List Kd)
inductive RV where
 |ro (K:Kd) (x:K.T)
 |own (K:Kd) (m:Md) (x:K.T)
 |bx (K:Kd) (m:Md) (x:K.T)
structure oS where
 rets:List RV
 outs:List KV
abbrev zz:Type 1:=(f:Nat)->List Arg->{Ω:Type}->(oS->Option Ω)->Option Ω
structure fS where
 P:Program
 ty:List (Nat×Kd)
 sg:Nat->List (List AM)
 M:zz
def au {α:Type}:List (Nat×α)->Nat->Option α
 |[],_=>none
 |(i,x)::l,n=>if KA i n=true then some x else au l n
structure Obj where
 K:Kd
 m:Md
 x:K.T
 box:Bool
 par:Bool
 log:List (Option bI)
 hl:Option bI
inductive Cap where
 |rp (K:Kd) (x:K.T)
 |pt (id n:Nat)
inductive CapV where
 |rp (K:Kd) (x:K.T)
 |pt (id n:Nat) (o:Option Obj)
def CapV.un:CapV->Cap
 | .rp K x=>.rp K x
 | .pt id n _=>.pt id n
inductive Slot where
 |dead
 |un
 |nils
 |v (K:Kd) (x:K.T)
 |rp (K:Kd) (x:K.T)
 |al (id n:Nat) (p:bI)
 |pt (id n:Nat) (p:bI)
 |sub (e:Kd) (id n:Nat) (l h:Int)
 |fv (f:Nat) (fs:List KV) (caps:List Cap)
 |fvr (f:Nat) (fs:List KV) (caps:List CapV)
 |clo (Ks:List Kd) (Kr:Kd) (f:Kd.Ts Ks->Option Kr.T)
 |tup (l:List Slot)
structure Env where
 slots:List (Nat×Slot)
 objs:List (Nat×Option Obj)
def Env.get (e:Env)(i:Nat):Slot:=match au e.slots i with|some s=>s|none=>.dead
def Env.obj (e:Env)(i:Nat):Option (Option Obj):=au e.objs i
structure bW where
 slots:List (Nat×Slot)
 objs:List (Nat×Option Obj)
def Env.apply (e:Env)(d:bW):Env:=⟨d.slots++e.slots,d.objs++e.objs⟩
def Env.put (e:Env)(i:Nat)(s:Slot):Env:=⟨(i,s)::e.slots,e.objs⟩
abbrev bF:Type:=Slot×Option Obj
def Env.cap (e:Env):Cap->CapV
 | .rp K x=>.rp K x
 | .pt id n=>.pt id n (e.obj id).join
def Env.view (e:Env)(s:Slot):bF:=match s with
 | .al id _ _=>(s,(e.obj id).join)
 | .pt id _ _=>(s,(e.obj id).join)
 | .sub _ id _ _ _=>(s,(e.obj id).join)
 | .fv f fs l=>(.fvr f fs (l.map e.cap),none)
 |s=>(s,none)
def Slot.unv:Slot->Slot
 | .fvr f fs l=>.fv f fs (l.map CapV.un)
 |s=>s
def Env.opd (e:Env):Operand->Slot
 | .tmp t=>e.get t
 | .const (.int k n)=>.v (.int k) n
 | .const (.bool b)=>.v .bool b
 | .const (.string s)=>.v .str s
 | .const (.slice none 0 0)=>.nils
 | .const .nilIface=>.v .err false
 | .func f=>.fv f [] []
 |_=>.dead
def qK (log:List (Option bI))(n:Nat):List (Option bI):=log.take (log.length - n)
def fu (o:Obj)(n:Nat)(p:bI):Bool:=(qK o.log n).all λq=>match q with|some q=>!gm p q|none=>match p with|[]=>true|_=>false
def gy (o:Obj)(n:Nat)(p:bI):Bool:=(qK o.log n).all λq=>match q with|some q=>!iO p q|none=>!aV p
def DZ:Kd->Bool
 | .st (.st _)=>true
 |_=>false
def IR:Kd->Bool
 | .st _=>true
 |_=>false
def Obj.fx (o:Obj):Bool:=o.par&&o.box&&DZ o.K
def I2:Kd->Md->Bool
 | .sl _,.own _=>true
 | .sl _,_=>false
 |_,_=>true
def vo (K:Kd)(p:bI):Option bI:=match K with
 | .sl _=>some (p++[.idx 0])
 |_=>none
def I3 (q:bI)(off:Int):bI:=q++[.idx off,.fst]
def E3:bI->Option (bI×Int)
 |[.idx i,.fst]=>some ([],i)
 |s::p=>match E3 p with|some (q,i)=>some (s::q,i)|none=>none
 |[]=>none
def sZ (p:bI):Bool:=match E3 p with|some _=>true|none=>false
def IS:bI->Option (bI×Int)
 |[.idx i]=>some ([],i)
 |s::p=>match IS p with|some (q,i)=>some (s::q,i)|none=>none
 |[]=>none
def GH:bI->bI->Bool
 |[],[]=>true
 | .inn::p,.inn::q=>GH p q
 | .fst::p,.fst::q=>GH p q
 | .snd::p,.snd::q=>GH p q
 |_,_=>false
def nu (o:Obj)(p:bI):Option Int:=match o.hl with
 |some h=>(match E3 h with|some (q,off)=>if GH q p=true then some off else none|none=>none)
 |none=>none
def bK (o:Obj):Bool:=match o.hl with|none=>true|some _=>false
def lx {Ω:Type}:bI->bI->Option Ω->Option Ω
 |[],[],k=>k
 | .inn::p,.inn::q,k=>lx p q k
 | .fst::p,.fst::q,k=>lx p q k
 | .snd::p,.snd::q,k=>lx p q k
 | .idx i::p,.idx j::q,k=>if i=j then lx p q k else none
 |_,_,_=>none
def mx {Ω:Type}:bI->bI->Option Ω->Option Ω
 |[],_,k=>k
 | .inn::p,.inn::q,k=>mx p q k
 | .fst::p,.fst::q,k=>mx p q k
 | .snd::p,.snd::q,k=>mx p q k
 | .idx i::p,.idx j::q,k=>if i=j then mx p q k else none
 |_,_,_=>none
def fF:Kd->Nat->bI
 | .pair _ _,0=>[.fst]
 | .pair _ b,n+1=>.snd::fF b n
 |_,_=>[]
def Kd.nf:Kd->Nat
 | .pair _ b=>b.nf+1
 |_=>1
def aO (s:ByteArray)(i:Int):Int:=((s.data.getD i.toNat 0).toNat:Int)
def seq (a b:ByteArray):Bool:=a.toList==b.toList
def IF (a b:ByteArray):Bool:=Op.bytesLess a.toList b.toList
def qM (l:List Int):ByteArray:=l.foldl (λr n=>r.push (UInt8.ofNat n.toNat)) ByteArray.empty
def aU:Nat:=4294967296
def cz {Ω:Type}(nt:Nat)(dst:Option Nat)(s:Slot)(k:bW->Option Ω):Option Ω:=match dst with
 |none=>k ⟨[],[]⟩
 |some d=>if Ll d nt=true then k ⟨[(d,s)],[]⟩else none
def dH {Ω:Type}(nt:Nat)(dst:Option Nat)(fr:Bool)(o:Obj)(isPt:Bool)(more:List (Nat×Option Obj))(k:bW->Option Ω):Option Ω:=match dst with
 |none=>none
 |some d=>if(Ll d nt&&fr)=true then k ⟨[(d,if isPt then .pt d 0 []else .al d 0 [])],(d,some o)::more⟩else none
def GI (op:BinOp)(k:IntKind)(a b:Int):Option KV:=match op with
 | .add=>some ⟨.int k,k.wrap (a+b)⟩
 | .sub=>some ⟨.int k,k.wrap (a - b)⟩
 | .mul=>some ⟨.int k,k.wrap (a*b)⟩
 | .eql=>some ⟨.bool,decide (a=b)⟩
 | .neq=>some ⟨.bool,!decide (a=b)⟩
 | .lss=>some ⟨.bool,decide (a<b)⟩
 | .leq=>some ⟨.bool,decide (a<=b)⟩
 | .gtr=>some ⟨.bool,decide (a>b)⟩
 | .geq=>some ⟨.bool,decide (a>=b)⟩
 |_=>none
def xW {Ω:Type}(op:BinOp)(k:IntKind)(a b:Int)(kn:KV->Option Ω):Option Ω:=match op with
 | .quo=>if b=0 then none else kn ⟨.int k,k.wrap (a.tdiv b)⟩
 | .rem=>if b=0 then none else kn ⟨.int k,a.tmod b⟩
 |_=>none
def AS {Ω:Type}(op:BinOp)(a b:ByteArray)(kn:KV->Option Ω):Option Ω:=match op with
 | .add=>if a.size+b.size<=aU then kn ⟨.str,a++b⟩else none
 | .eql=>kn ⟨.bool,seq a b⟩
 | .neq=>kn ⟨.bool,!seq a b⟩
 | .lss=>kn ⟨.bool,IF a b⟩
 | .leq=>kn ⟨.bool,IF a b||seq a b⟩
 | .gtr=>kn ⟨.bool,!(IF a b||seq a b)⟩
 | .geq=>kn ⟨.bool,!IF a b⟩
 |_=>none
def nH {Ω:Type}(op:BinOp)(k:IntKind)(a b:Int)(kn:KV->Option Ω):Option Ω:=if b<0 then none else match op with
 | .shr=>kn ⟨.int k,a.fdiv (2 ^ (min b.toNat k.bits))⟩
 | .shl=>kn ⟨.int k,k.wrap (a*2 ^ (min b.toNat k.bits))⟩
 |_=>none
def pQ:Operand->Bool
 | .const _=>true
 |_=>false
def AT {Ω:Type}(c:fS)(op:BinOp)(t:Nat)(cst:Bool)(a b:KV)(kn:KV->Option Ω):Option Ω:=match a,b with
 |⟨.int k,a⟩,⟨.int l,b⟩=>if BU k l=true then(match op with
   | .quo=>xW .quo k a b kn
   | .rem=>xW .rem k a b kn
   |op=>match GI op k a b with|some r=>kn r|none=>nH op k a b kn)else nH op k a b kn
 |⟨.str,a⟩,⟨.str,b⟩=>AS op a b kn
 |⟨.bool,a⟩,⟨.bool,b⟩=>match au c.ty t with
  |some .bool=>(match op with
   | .eql=>kn ⟨.bool,a==b⟩
   | .neq=>kn ⟨.bool,!(a==b)⟩
   |_=>none)
  |_=>none
 |⟨.err,a⟩,⟨.err,b⟩=>if(a&&b)=true then none else match cst,au c.ty t with
  |true,some .err=>(match op with
   | .eql=>kn ⟨.bool,a==b⟩
   | .neq=>kn ⟨.bool,!(a==b)⟩
   |_=>none)
  |_,_=>none
 |_,_=>none
def E8 (v:bF):Option KV:=match v with
 |(.v K x,_)=>some ⟨K,x⟩
 |(.al _ n p,some o)=>if(bK o&&fu o n p)=true then(match aS o.K o.m o.x p with|some ⟨K,_,x⟩=>some ⟨K,x⟩|none=>none)else none
 |_=>none
def eS (c:fS)(t:Nat)(K:Kd):Bool:=match au c.ty t with|some K'=>K'.beq K|none=>false
def kH (id:Nat)(o:Obj)(p:bI):Option (Kd×Slot):=match aS o.K o.m o.x p with
 |some ⟨K,m,x⟩=>some (K,match m with| .ro=>.v K x|_=>.al id o.log.length p)
 |none=>none
inductive ji where
 |v (K:Kd) (x:K.T)
 |nils
 |al (id:Nat) (o:Obj)
def oT:bF->Option ji
 |(.v K x,_)=>some (.v K x)
 |(.nils,_)=>some .nils
 |(.al id n [],some o)=>if(bK o&&fu o n []&& !o.par)=true then some (.al id o)else none
 |_=>none
def gj:List (Nat×Operand)->List bF->Option (List (Nat×ji))
 |[],[]=>some []
 |(i,_)::l,v::vs=>match oT v,gj l vs with|some p,some r=>some ((i,p)::r)|_,_=>none
 |_,_=>none
def Md.fits:Kd->Md->Bool
 |_,.ro=>true
 | .sl _,.own _=>true
 | .st k,m=>Md.fits k m
 | .pair a b,.pr m n=>Md.fits a m&&Md.fits b n
 |_,_=>false
def I4 (K:Kd)(m:Md):Bool:=m.beq .ro||(K.flat&&Md.fits K m)
def zA:(K:Kd)->Option K.T
 | .sl _=>some []
 |_=>none
def jl (K:Kd)(m:Md):Option ji->Option K.T
 |none=>if Md.fits K m=true then some K.zero else none
 |some (.v K' y)=>if h:K'.beq K=true then(if I4 K m=true then some (Kd.eq_of_beq h▸y)else none)else none
 |some .nils=>if Md.fits K m=true then zA K else none
 |some (.al _ o)=>if h:o.K.beq K=true then(if o.m.beq m=true then some (Kd.eq_of_beq h▸o.x)else none)else none
def BS:(K:Kd)->Md->Nat->List (Nat×ji)->Option K.T
 | .pair a b,m,n,ps=>match jl a m.fst (au ps n),BS b m.snd (n+1) ps with
  |some x,some y=>some ((x,y):a.T×b.T)
  |_,_=>none
 |K,m,n,ps=>jl K m (au ps n)
def qN (K:Kd)(m:Md)(n:Nat)(ps:List (Nat×ji)):Nat->Option (List K.T)
 |0=>some []
 |k+1=>match jl K m (au ps n),qN K m (n+1) ps k with
  |some x,some l=>some (x::l)
  |_,_=>none
def kI (pl:List (Nat×ji))(n:Nat):Bool:=pl.all λq=>Ll q.1 n
def ft:List (Nat×ji)->List Nat
 |[]=>[]
 |(_,.al id _)::l=>id::ft l
 |_::l=>ft l
def gi (l:List Nat):List (Nat×Option Obj):=l.map λi=>(i,none)
def nodup:List Nat->Bool
 |[]=>true
 |a::l=>!(l.any (KA a))&&nodup l
def Kd.beqs:List Kd->List Kd->Bool
 |[],[]=>true
 |a::l,b::r=>a.beq b&&Kd.beqs l r
 |_,_=>false
theorem Kd.eq_of_beqs:∀{a b:List Kd},Kd.beqs a b=true->a=b
 |[],[],_=>rfl
 |a::l,b::r,h=>by
  have h':(a.beq b&&Kd.beqs l r)=true:=h;rw[Jm]at h';rw[Kd.eq_of_beq h'.1,Kd.eq_of_beqs h'.2]
 |[],_::_,h=>bJ h (by simp[Kd.beqs])
 |_::_,[],h=>bJ h (by simp[Kd.beqs])
def ub:(Ks:List Kd)->Kd.Ts Ks->List Arg
 |[],_=>[]
 |K::Ks,a=>.ro K a.1::ub Ks a.2
def AU:(Ks:List Kd)->List KV->Option (Kd.Ts Ks)
 |[],[]=>some ()
 |K::Ks,⟨K',x⟩::l=>if h:K'.beq K=true then(match AU Ks l with|some r=>some ((Kd.eq_of_beq h▸x,r):K.T×Kd.Ts Ks)|none=>none)else none
 |_,_=>none
def one (Kr:Kd)(r:oS):Option Kr.T:=match r with
 |⟨[.ro K x],[]⟩=>if h:K.beq Kr=true then some (Kd.eq_of_beq h▸x)else none
 |⟨[.own K _ x],[]⟩=>if h:K.beq Kr=true then some (Kd.eq_of_beq h▸x)else none
 |_=>none
def xX (l:List KV):List Arg:=l.map λq=>.rp q.1 q.2
def xY (l:List KV):List Arg:=l.map λq=>.ro q.1 q.2
def J4 (c:fS)(f:Nat)(fs caps:List KV)(Ks:List Kd)(Kr:Kd)(a:Kd.Ts Ks):Option Kr.T:=
 c.M f (xY fs++(ub Ks a++xX caps)) (one Kr)
def kY:List CapV->Option (List KV)
 |[]=>some []
 | .rp K x::l=>match kY l with|some r=>some (⟨K,x⟩::r)|none=>none
 | .pt _ n (some o)::l=>if(bK o&&gy o n [])=true then(match kY l with|some r=>some (⟨o.K,o.x⟩::r)|none=>none)else none
 | .pt _ _ none::_=>none
def ko:List CapV->List Nat
 |[]=>[]
 | .rp _ _::l=>ko l
 | .pt id _ _::l=>id::ko l
def zB:CapV->bF
 | .rp K x=>(.rp K x,none)
 | .pt id n o=>(.pt id n [],o)
def BV (c:fS)(t:Nat)(am:AM)(v:bF):Option Arg:=match am,v with
 | .ro,(.v K x,_)=>some (.ro K x)
 | .ro,(.nils,_)=>match au c.ty t with|some (.sl e)=>some (.ro (.sl e) [])|_=>none
 | .ro,(.al _ n p,some o)=>if(bK o&&fu o n p)=true then(match aS o.K o.m o.x p with|some ⟨K,_,x⟩=>some (.ro K x)|none=>none)else none
 | .rp,(.rp K x,_)=>some (.rp K x)
 | .rp,(.pt _ n p,some o)=>if(bK o&&gy o n p)=true then(match aS o.K o.m o.x p with|some ⟨K,_,x⟩=>some (.rp K x)|none=>none)else none
 | .mp,(.pt _ n p,some o)=>if(bK o&&gy o n p)=true then(match aS o.K o.m o.x p with|some ⟨K,m,x⟩=>some (.mp K m x)|none=>none)else none
 | .ms,(.al _ n p,some o)=>if(bK o&&fu o n p)=true then(match aS o.K o.m o.x p with|some ⟨K,m,x⟩=>if I2 K m=true then some (.ms K m x)else none|none=>none)else none
 | .mv,(.al _ n p,some o)=>if(bK o&&fu o n p&& !o.par)=true then(match aS o.K o.m o.x p with|some ⟨K,m,x⟩=>some (.mv K m x)|none=>none)else none
 | .fn Ks Kr,(.clo Ls Lr f,_)=>if(Kd.beqs Ls Ks&&Lr.beq Kr)=true then some (.fn Ls Lr f)else none
 | .fn Ks Kr,(.fvr f fs l,_)=>match kY l,c.sg f with|some cs,_::_=>some (.fn Ks Kr (J4 c f fs cs Ks Kr))|_,_=>none
 | .fc g Fs Ks,(.fvr f fs l,_)=>match kY l with|some cs=>if(KA f g&&Kd.beqs (fs.map (·.1)) Fs&&Kd.beqs (cs.map (·.1)) Ks)=true then some (.fc f fs cs)else none|none=>none
 |_,_=>none
def lO (c:fS):List Nat->List AM->List bF->Option (List Arg)
 |[],[],[]=>some []
 |t::ts,am::ams,v::vs=>match BV c t am v,lO c ts ams vs with
  |some a,some l=>some (a::l)
  |_,_=>none
 |_,_,_=>none
def gn:List AM->List bF->List Nat
 | .ro::ams,(.al id _ _,_)::vs=>id::gn ams vs
 | .rp::ams,(.pt id _ _,_)::vs=>id::gn ams vs
 | .fn _ _::ams,(.fvr _ _ l,_)::vs=>ko l++gn ams vs
 | .fc _ _ _::ams,(.fvr _ _ l,_)::vs=>ko l++gn ams vs
 |_::ams,_::vs=>gn ams vs
 |_,_=>[]
def ev:List AM->List bF->List Nat
 | .mp::ams,(.pt id _ _,_)::vs=>id::ev ams vs
 | .ms::ams,(.al id _ _,_)::vs=>id::ev ams vs
 | .mv::ams,(.al id _ _,_)::vs=>id::ev ams vs
 |_::ams,_::vs=>ev ams vs
 |_,_=>[]
def I5:RV->Bool
 | .ro K _=>K.flat
 | .own K m _=>Md.full K m
 | .bx K m _=>Md.full K m
def BW (o:Obj)(p:bI):Option Obj:=if sZ p=true then none else if o.box=true then some {o with hl:=some p}else match p with
 |[]=>none
 |_=>some {o with hl:=some p}
def eD:List AM->List bF->List KV->Option (List (Nat×Option Obj))
 | .mp::ams,(.pt id _ p,some o)::vs,⟨K,y⟩::l=>match aS o.K o.m o.x p with
  |some ⟨_,m,_⟩=>if(o.fx&& !aV p)=true then none else(match iY o.m p m,gx o.K o.x p K y,eD ams vs l with
   |some m2,some x,some r=>some ((id,some {o with m:=m2,x:=x,log:=some p::o.log})::r)
   |_,_,_=>none)
  |none=>none
 | .ms::ams,(.al id _ p,some o)::vs,⟨K,y⟩::l=>match aS o.K o.m o.x p with
  |some ⟨_,m,_⟩=>(match iY o.m p m,gx o.K o.x p K y,eD ams vs l with
   |some m2,some x,some r=>some ((id,some {o with m:=m2,x:=x,log:=vo K p::o.log})::r)
   |_,_,_=>none)
  |none=>none
 | .mv::ams,(.al id _ p,some o)::vs,l=>match eD ams vs l with
  |some r=>some ((id,BW o p)::r)
  |none=>none
 | .ro::ams,_::vs,l=>eD ams vs l
 | .rp::ams,_::vs,l=>eD ams vs l
 | .fn _ _::ams,_::vs,l=>eD ams vs l
 | .fc _ _ _::ams,_::vs,l=>eD ams vs l
 |[],[],[]=>some []
 |_,_,_=>none
def zC:Arg->Bool
 | .mp K m _=>Md.full K m
 | .ms K m _=>Md.full K m
 |_=>true
def sub (d i:Nat):Nat:=d+4096*(i+1)
def im (mds:List (Nat×Md))(d:Nat):RV->Slot×List (Nat×Option Obj)
 | .ro K x=>(.v K x,[])
 | .own K m x=>match au mds d with
  |some _=>(.al d 0 [],[(d,some ⟨K,m,x,false,false,[],none⟩)])
  |none=>(.v K x,[])
 | .bx K m x=>(.pt d 0 [],[(d,some ⟨K,m,x,true,false,[],none⟩)])
def fG (mds:List (Nat×Md))(d:Nat):Nat->List RV->List Slot×List (Nat×Option Obj)
 |_,[]=>([],[])
 |i,r::l=>let q:=im mds (sub d i) r;let z:=fG mds d (i+1) l;(q.1::z.1,q.2++z.2)
def oU {Ω:Type}(nt:Nat)(mds:List (Nat×Md))(dst:Option Nat)(fr:Bool)(outs:List (Nat×Option Obj))(rets:List RV)(k:bW->Option Ω):Option Ω:=match dst with
 |none=>match rets with|[]=>k ⟨[],outs⟩|_=>none
 |some d=>if(Ll d nt&&fr)=true then(match rets with
  |[]=>k ⟨[(d,.dead)],outs⟩
  |[r]=>k ⟨[(d,(im mds d r).1)],(im mds d r).2++outs⟩
  |l=>if NW l.length 4=true then k ⟨[(d,.tup (fG mds d 0 l).1)],(fG mds d 0 l).2++outs⟩else none)else none
def BX:List AM->List bF->Bool
 | .fc g _ _::ams,(.fvr f _ _,_)::vs=>KA f g&&BX ams vs
 | .fc _ _ _::_,_=>false
 |_::ams,_::vs=>BX ams vs
 |[],[]=>true
 |_,_=>false
def kJ {Ω:Type}(c:fS)(nt:Nat)(mds:List (Nat×Md))(dst:Option Nat)(fr:Bool)(f:Nat)(ts:List Nat)(vs:List bF)(k:bW->Option Ω):Option Ω:=
 match(c.sg f).find? (λams=>BX ams vs)with
 |none=>none
 |some ams=>
  match lO c ts ams vs with
  |none=>none
  |some args=>
   if(nodup (ev ams vs)&&(gn ams vs).all (λi=>!(ev ams vs).any (KA i)))=true then
    c.M f args λres=>
     if((gn ams vs).isEmpty||(res.rets.all I5&&args.all zC))=true then
      match eD ams vs res.outs with
      |none=>none
      |some outs=>oU nt mds dst fr outs res.rets k
     else none
   else none
def E4:List bF->Option (List KV)
 |[]=>some []
 |v::vs=>match v,E4 vs with
  |(.v K x,_),some l=>some (⟨K,x⟩::l)
  |_,_=>none
def AV {Ω:Type}(nt:Nat)(dst:Option Nat)(Ks:List Kd)(Kr:Kd)(f:Kd.Ts Ks->Option Kr.T)(vs:List bF)(k:bW->Option Ω):Option Ω:=
 match E4 vs with
 |none=>none
 |some l=>match AU Ks l with
  |none=>none
  |some a=>(f a).bind λr=>cz nt dst (.v Kr r) k
def oV:List bF->Option (List Cap)
 |[]=>some []
 |v::vs=>match v,oV vs with
  |(.rp K x,_),some l=>some (.rp K x::l)
  |(.pt id n [],_),some l=>some (.pt id n::l)
  |_,_=>none
def GJ (fs:List KV)(ts:List Nat)(l:List CapV):List Nat:=fs.map (λ_=>0)++(ts++l.map λ_=>0)
def GK (fs:List KV)(vs:List bF)(l:List CapV):List bF:=fs.map (λq=>(.v q.1 q.2,none))++(vs++l.map zB)
def BY (m:Md):ji->Md
 | .al _ o=>o.m
 | .nils=>m
 | .v _ _=>.ro
def gk:ji->List Nat
 | .al id _=>[id]
 |_=>[]
def nw (o:Obj)(p:bI):List (Option bI):=match o.hl with|none=>some p::o.log|some _=>none::some p::o.log
def xZ (lo hi:Option Operand)(bs:List bF):Option (Option Int×Option Int):=match lo,hi,bs with
 |none,none,[]=>some (none,none)
 |some _,none,[(.v (.int _) l,_)]=>some (some l,none)
 |none,some _,[(.v (.int _) h,_)]=>some (none,some h)
 |some _,some _,[(.v (.int _) l,_),(.v (.int _) h,_)]=>some (some l,some h)
 |_,_,_=>none
def ta (l:Option Int)(d:Int):Int:=match l with|some l=>l|none=>d
def BZ (o:Obj)(p:bI):Option (Option Obj):=if sZ p=true then none else if o.box=true then some (some {o with hl:=some p})else match p with
 |[]=>if o.par=true then none else some none
 |_=>some (some {o with hl:=some p})
def FK (mds:List (Nat×Md)):Option Nat->Bool
 |some d=>(match au mds d with|some _=>true|none=>false)
 |none=>false
def J5:Option ((K:Kd)×Md×K.T)->Bool
 |some ⟨.sl _,.own _,_⟩=>true
 |_=>false
def vp {Ω:Type}(c:fS)(nt:Nat)(mds:List (Nat×Md))(o:Oper)(vs:List bF)(fr:Bool)(k:bW->Option Ω):Option Ω:=
 match o.op,vs with
 | .move _,[(.nils,_)]=>cz nt o.dst .nils k
 | .move _,[(s,_)]=>cz nt o.dst s.unv k
 | .assign _,[(.nils,_)]=>(match au c.ty o.type,o.dst with
  |some (.sl e),some d=>(match au mds d with
   |some (.own m)=>dH nt o.dst fr ⟨.sl e,.own m,[],false,false,[],none⟩ false [] k
   |some _=>none
   |none=>cz nt o.dst (.v (.sl e) []) k)
  |_,_=>none)
 | .assign _,[(s,_)]=>cz nt o.dst s.unv k
 | .pick _ _ _,[(.v .bool b,_),(s,_),(r,_)]=>if b=true then cz nt o.dst s.unv k else cz nt o.dst r.unv k
 | .alloc t,[]=>(match au c.ty t,o.dst with
  |some K,some d=>(match au mds d with
   |some m=>if Md.fits K m=true then dH nt o.dst fr ⟨K,m,K.zero,true,false,[],none⟩ true [] k else none
   |none=>dH nt o.dst fr ⟨K,.ro,K.zero,true,false,[],none⟩ true [] k)
  |_,_=>none)
 | .box t _,[(.v K x,_)]=>if eS c t K=true then dH nt o.dst fr ⟨K,.ro,x,true,false,[],none⟩ true [] k else none
 | .box t _,[(.al id n [],some o2)]=>if(eS c t o2.K&&bK o2&&fu o2 n []&& !o2.par)=true then dH nt o.dst fr ⟨o2.K,o2.m,o2.x,true,false,[],none⟩ true [(id,none)] k
  else if(eS c t o2.K&&bK o2&&fu o2 n []&&o2.par&& !o2.box&&IR o2.K)=true then(match o.dst with
   |some d=>if Ll d nt=true then k ⟨[(d,.pt id (o2.log.length+1) [.inn])],[(id,some ⟨.st o2.K,o2.m,o2.x,true,true,none::o2.log,none⟩)]⟩else none
   |none=>none)else none
 | .build t ps,vs=>(match au c.ty t,gj ps.toList vs with
  |some (.st K),some pl=>(match o.dst with
   |some d=>(match au mds d with
    |some m=>if(nodup (ft pl)&&nodup (pl.map (·.1))&&kI pl K.nf&&Md.fits K m)=true then(match BS K m 0 pl with
     |some x=>dH nt o.dst fr ⟨.st K,m,x,false,false,[],none⟩ false (gi (ft pl)) k
     |none=>none)else none
    |none=>if((ft pl).isEmpty&&nodup (pl.map (·.1))&&kI pl K.nf)=true then(match BS K .ro 0 pl with
     |some x=>cz nt o.dst (.v (.st K) x) k
     |none=>none)else none)
   |none=>none)
  |_,_=>none)
 | .buildSlice t n ps,vs=>(match au c.ty t,gj ps.toList vs with
  |some (.sl e),some pl=>(match o.dst with
   |some d=>(match au mds d with
    |some (.own m)=>if(nodup (ft pl)&&nodup (pl.map (·.1))&&kI pl n&&NW (n*e.size) 16777216&&Md.fits e m)=true then(match qN e m 0 pl n with
     |some x=>dH nt o.dst fr ⟨.sl e,.own m,x,false,false,[],none⟩ false (gi (ft pl)) k
     |none=>none)else none
    |some _=>none
    |none=>if((ft pl).isEmpty&&nodup (pl.map (·.1))&&kI pl n&&NW (n*e.size) 16777216)=true then(match qN e .ro 0 pl n with
     |some x=>cz nt o.dst (.v (.sl e) x) k
     |none=>none)else none)
   |none=>none)
  |_,_=>none)
 | .load t _,[(.rp K x,_)]=>if eS c t K=true then cz nt o.dst (.v K x) k else none
 | .load t _,[(.pt id n p,some o2)]=>if(FK mds o.dst&&bK o2&&gy o2 n p&& !o2.par&&p.isEmpty&&eS c t o2.K)=true then(match o.dst with
   |some d=>if Ll d nt=true then k ⟨[(d,.v o2.K o2.x)],[(id,none)]⟩else none
   |none=>none)
  else if(bK o2&&gy o2 n p)=true then(match kH id o2 p with
  |some (K,s)=>if eS c t K=true then cz nt o.dst s k else none
  |none=>none)else none
 | .store t _ _,[(.pt id n p,some o2),v]=>(match aS o2.K o2.m o2.x p,oT v with
  |some ⟨K,m,_⟩,some pt=>if(gy o2 n p&&eS c t K&& !(o2.fx&& !aV p))=true then
    (
     match jl K (BY m pt) (some pt),iY o2.m p (BY m pt)with
     |some y,some m2=>(match gx o2.K o2.x p K y with
      |some x2=>if(nodup (id::gk pt))=true then(match o.dst,o2.hl with
        |some _,_=>none
        |none,none=>k ⟨[],(id,some {o2 with m:=m2,x:=x2,log:=nw o2 p,hl:=none})::gi (gk pt)⟩
        |none,some q=>if sZ q=true then none else lx q p (k ⟨[],(id,some {o2 with m:=m2,x:=x2,log:=nw o2 p,hl:=none})::gi (gk pt)⟩))else none
      |none=>none)
     |_,_=>none)else none
  |_,_=>none)
 | .fieldAddr t _ f,[(.rp K x,_)]=>(match au c.ty t with
  |some (.st k2)=>if((Kd.st k2).beq K&&Ll f k2.nf)=true then(match aS K .ro x (.inn::fF k2 f)with
   |some ⟨K',_,y⟩=>cz nt o.dst (.rp K' y) k
   |none=>none)else none
  |_=>none)
 | .fieldAddr t _ f,[(.pt id n p,some o2)]=>(match au c.ty t with
  |some (.st k2)=>(match aS o2.K o2.m o2.x p with
   |some ⟨K,_,_⟩=>if((Kd.st k2).beq K&&Ll f k2.nf&&gy o2 n p&&(bK o2||nG p))=true then cz nt o.dst (.pt id o2.log.length (p++ .inn::fF k2 f)) k else none
   |none=>none)
  |_=>none)
 | .field t _ f,[(.al id n p,some o2)]=>(match au c.ty t,aS o2.K o2.m o2.x p with
  |some (.st k2),some ⟨K,_,_⟩=>if((Kd.st k2).beq K&&Ll f k2.nf&&bK o2&&fu o2 n p)=true then(match kH id o2 (p++ .inn::fF k2 f)with
   |some (_,s)=>cz nt o.dst s k
   |none=>none)else none
  |_,_=>none)
 | .field t _ f,[(.v K x,_)]=>(match au c.ty t with
  |some (.st k2)=>if((Kd.st k2).beq K&&Ll f k2.nf)=true then(match aS K .ro x (.inn::fF k2 f)with
   |some ⟨K',_,y⟩=>cz nt o.dst (.v K' y) k
   |none=>none)else none
  |_=>none)
 | .indexAddr t _ _,[(.v (.sl e) xs,_),(.v (.int _) i,_)]=>if eS c t (.sl e)=true then
   (if 0<=i/\i<(Je xs:Int)then cz nt o.dst (.rp e (Ji xs i.toNat e.zero)) k else none)else none
 | .indexAddr t _ _,[(.al id n p,some o2),(.v (.int _) i,_)]=>if(bK o2&&fu o2 n p)=true then(match aS o2.K o2.m o2.x p with
  |some ⟨.sl e,.own _,xs⟩=>if eS c t (.sl e)=true then
   (if 0<=i/\i<(Je xs:Int)then cz nt o.dst (.pt id o2.log.length (p++[.idx i])) k else none)else none
  |_=>none)else(match o2.hl,aS o2.K o2.m o2.x p with
   |some h,some ⟨.sl e,.own _,_⟩=>if(!sZ h&& !aV p&&fu o2 n p&&eS c t (.sl e))=true then mx (p++[.idx i]) h (cz nt o.dst (.pt id o2.log.length (p++[.idx i])) k)else none
   |_,_=>none)
 | .index t _ _,[(.v .str s,_),(.v (.int _) i,_)]=>if eS c t .str=true then
   (if 0<=i/\i<(s.size:Int)then cz nt o.dst (.v (.int .u8) (aO s i)) k else none)else none
 | .slice t _ lo hi none,v::bs=>(match E8 v with
  |some ⟨K,x⟩=>if eS c t K=true then
   (match xZ lo hi bs with
    |none=>none
    |some (l,h)=>match K,x,v with
     | .str,s,_=>
      if 0<=ta l 0/\ta l 0<=ta h s.size/\ta h s.size<=(s.size:Int)then cz nt o.dst (.v .str (s.extract (ta l 0).toNat (ta h s.size).toNat)) k else none
     | .sl e,xs,(.v _ _,_)=>
      if 0<=ta l 0/\ta l 0<=ta h (Je xs)/\ta h (Je xs)<=(Je xs:Int)then cz nt o.dst (.v (.sl e) ((List.take (ta h (Je xs)).toNat xs).drop (ta l 0).toNat)) k else none
     | .sl e,xs,(.al id n [],some o2)=>
      if(!o2.par&& !o2.box)=true then
       (match o2.m with
       | .own m=>if 0<=ta l 0/\ta l 0<=ta h (Je xs)/\ta h (Je xs)<=(Je xs:Int)then
         dH nt o.dst fr ⟨.sl e,.own m,(List.take (ta h (Je xs)).toNat xs).drop (ta l 0).toNat,false,false,[],none⟩ false [(id,none)] k else none
       |_=>none)else none
     |_,_,_=>none)else none
  |none=>none)
 | .makeSlice t _ _,[(.v (.int _) n,_),(.v (.int _) cp,_)]=>(match au c.ty t with
  |some (.sl e)=>if 0<=n/\n<=cp/\cp<=(aU:Int)then(match o.dst with
   |some d=>(match au mds d with
    |some (.own m)=>if Md.fits e m=true then dH nt o.dst fr ⟨.sl e,.own m,JZ n.toNat e.zero,false,false,[],none⟩ false [] k else none
    |some _=>none
    |none=>cz nt o.dst (.v (.sl e) (JZ n.toNat e.zero)) k)
   |none=>none)else none
  |_=>none)
 | .binOp op t x y _,[(.v K a,_),(.v L b,_)]=>AT c op t (pQ x||pQ y) ⟨K,a⟩ ⟨L,b⟩ λq=>cz nt o.dst (.v q.1 q.2) k
 | .unOp .not _ _,[(.v .bool b,_)]=>cz nt o.dst (.v .bool (!b)) k
 | .unOp .neg _ _,[(.v (.int i) n,_)]=>cz nt o.dst (.v (.int i) (i.wrap (0 - n))) k
 | .convert s t _,[(.v (.int _) n,_)]=>(match au c.ty s,au c.ty t with
  |some (.int _),some (.int i)=>cz nt o.dst (.v (.int i) (i.wrap n)) k
  |_,_=>none)
 | .convert s t _,[v]=>(match E8 v,au c.ty s,au c.ty t with
  |some ⟨.sl (.int .u8),xs⟩,some (.sl (.int .u8)),some .str=>cz nt o.dst (.v .str (qM xs)) k
  |_,_,_=>none)
 | .extract _ i,[(.tup l,_)]=>(match l[i]? with
  |some (.tup _)=>none
  |some s=>cz nt o.dst s k
  |none=>none)
 | .nilCheck _,[(.rp K x,_)]=>cz nt o.dst (.rp K x) k
 | .nilCheck _,[(.pt id n p,some o2)]=>if(gy o2 n p&&(bK o2||nG p))=true then cz nt o.dst (.pt id n p) k else none
 | .makeFunc (.func f) first _,vs=>(match E4 (vs.take first.size),oV (vs.drop first.size)with
  |some fs,some l=>cz nt o.dst (.fv f fs l) k
  |_,_=>none)
 | .call {callee:=.builtin .len,argTypes:=ts,..},[v]=>(match E8 v,ts.toList with
  |some ⟨.sl e,xs⟩,[t]=>if eS c t (.sl e)=true then cz nt o.dst (.v (.int .i64) (Je xs:Int)) k else none
  |some ⟨.str,s⟩,[t]=>if eS c t .str=true then cz nt o.dst (.v (.int .i64) (s.size:Int)) k else none
  |_,_=>none)
 | .call {callee:=.builtin .append,argTypes:=ts,..},[(.al id n p,some o2),v]=>(match aS o2.K o2.m o2.x p,ts.toList with
  |some ⟨.sl e,.own m,xs⟩,[t,t2]=>if(eS c t (.sl e)&&eS c t2 (.sl e)&&bK o2&&fu o2 n p)=true then
    (match BZ o2 p with
     |none=>none
     |some oo=>
      match v with
     |(.v K ys,_)=>if h:K.beq (.sl e)=true then
        (if m.beq .ro=true then
         (let zs:List e.T:=(Kd.eq_of_beq h▸ys:(Kd.sl e).T)
         if Je xs+zs.length<=aU then dH nt o.dst fr ⟨.sl e,.own m,xs++zs,false,false,[],none⟩ false [(id,oo)] k else none)else none)else none
     |(.nils,_)=>if Je xs<=aU then dH nt o.dst fr ⟨.sl e,.own m,xs,false,false,[],none⟩ false [(id,oo)] k else none
     |(.al id3 n3 [],some o3)=>if h:o3.K.beq (.sl e)=true then
        (if(o3.m.beq (.own m)&&bK o3&&fu o3 n3 []&& !o3.par&& !(KA id id3))=true then
         (let zs:List e.T:=(Kd.eq_of_beq h▸o3.x:(Kd.sl e).T)
         if Je xs+zs.length<=aU then dH nt o.dst fr ⟨.sl e,.own m,xs++zs,false,false,[],none⟩ false [(id,oo),(id3,none)] k else none)else none)else none
      |_=>none)else none
  |_,_=>none)
 | .call {callee:=.value (.func f),argTypes:=ts,..},(_::vs)=>kJ c nt mds o.dst fr f ts.toList vs k
 | .call {callee:=.value (.tmp _),argTypes:=ts,..},((.fvr f fs l,_)::vs)=>kJ c nt mds o.dst fr f (GJ fs ts.toList l) (GK fs vs l) k
 | .call {callee:=.value (.tmp _),..},((.clo Ks Kr f,_)::vs)=>AV nt o.dst Ks Kr f vs k
 |_,_=>none
def C0 (mds:List (Nat×Md)):Option Nat->Bool
 |some d=>(match au mds d with|some .ro=>true|_=>false)
 |none=>false
def Kd.np:Kd->Bool
 | .pair _ _=>false
 |_=>true
def AW (mds:List (Nat×Md)):Option Nat->Bool
 |some d=>(match au mds d with|some (.own _)=>true|_=>false)
 |none=>false
def AX (K0:Kd)(n n0:Nat)(p:bI):Option Obj->Bool
 |some o=>bK o&&gy o n p&&NW n0 o.log.length&&(match aS o.K o.m o.x p with|some ⟨K,m,_⟩=>K.beq K0&& !(m.beq .ro)|none=>false)
 |none=>false
def y5 (K0:Kd)(n:Nat)(p:bI):Option Obj->Bool
 |some o=>gy o n p&&(bK o||nG p)&&(match aS o.K o.m o.x p with|some ⟨K,_,_⟩=>K.beq K0|none=>false)
 |none=>false
def GM (mds:List (Nat×Md)):List Operand->Bool
 |[_,.tmp t]=>(match au mds (500000+t)with|some _=>true|none=>false)
 |_=>false
def IT:Option ((K:Kd)×Md×K.T)->Bool
 |some ⟨.st _,_,_⟩=>false
 |some _=>true
 |none=>false
def IG (mds:List (Nat×Md))(o:Oper)(vs:List bF):Bool:=
 match o.op,vs with
 | .move _,[(.al _ _ [],some _)]=>C0 mds o.dst
 | .box _ _,[(.v _ _,_)]=>C0 mds o.dst
 | .load _ _,[(.pt _ _ (_::_),some _)]=>C0 mds o.dst||AW mds o.dst
 | .fieldAddr _ _ f,[(.pt _ _ p,some o2)]=>AW mds o.dst||(KA f 0&&IT (aS o2.K o2.m o2.x p))
 | .fieldAddr _ _ 0,[(.rp K _,_)]=>!(IR K)
 | .call {callee:=.value (.func _),args:=as,..},[_,_,(.pt _ _ [],some _)]=>GM mds as.toList
 |_,_=>false
def nW {Ω:Type}(c:fS)(nt:Nat)(mds:List (Nat×Md))(o:Oper)(vs:List bF)(fr:Bool)(k:bW->Option Ω):Option Ω:=
 match o.op,vs with
 | .move _,[(.al id n [],some o2)]=>if(bK o2&&fu o2 n []&& !o2.par&& !o2.box&&o2.K.np)=true then(match o.dst with
   |some d=>if Ll d nt=true then k ⟨[(d,.v o2.K o2.x)],[(id,none)]⟩else none
   |none=>none)else none
 | .box t _,[(.v K x,_)]=>if eS c t K=true then(match o.dst with
   |some d=>if Ll d nt=true then k ⟨[(d,.rp K x)],[]⟩else none
   |none=>none)else none
 | .load t _,[(.pt id n p,some o2)]=>if AW mds o.dst=true then(match aS o2.K o2.m o2.x p with
  |some ⟨K,_,_⟩=>if(AX K n o2.log.length p (some o2)&&eS c t K)=true then cz nt o.dst (.al id o2.log.length p) k else none
  |none=>none)
  else if(bK o2&&gy o2 n p&& !aV p)=true then(match aS o2.K o2.m o2.x p,iY o2.m p .ro,o.dst with
  |some ⟨K,_,x⟩,some m2,some d=>if(eS c t K&&Ll d nt)=true then k ⟨[(d,.v K x)],[(id,some {o2 with m:=m2,log:=some p::o2.log})]⟩else none
  |_,_,_=>none)else none
 | .fieldAddr t _ f,[(.pt id n p,some o2)]=>if AW mds o.dst=true then(match au c.ty t,aS o2.K o2.m o2.x p with
  |some (.st k2),some ⟨K,_,_⟩=>if((Kd.st k2).beq K&&Ll f k2.nf&&y5 K n p (some o2))=true then cz nt o.dst (.pt id n (p++ .inn::fF k2 f)) k else none
  |_,_=>none)
  else if KA f 0=true then(match au c.ty t with
  |some (.st (.pair _ _))=>if(gy o2 n p&&(bK o2||nG p))=true then cz nt o.dst (.pt id n p) k else none
  |_=>none)else none
 | .fieldAddr t _ 0,[(.rp K x,_)]=>(match au c.ty t with
  |some (.st (.pair _ _))=>cz nt o.dst (.rp K x) k
  |_=>none)
 | .call {callee:=.value (.func f),args:=as,argTypes:=ts,..},[_,v0,(.pt id n [],some o2)]=>if(bK o2&&gy o2 n [])=true then(match o2.K,as.toList with
  | .st (.pair _ _),[_,.tmp _]=>kJ c nt mds o.dst fr f ts.toList [v0,(.pt id o2.log.length [.inn,.fst],some o2)] k
  |_,_=>none)else none
 |_,_=>none
def C1 {Ω:Type}(c:fS)(nt:Nat)(mds:List (Nat×Md))(o:Oper)(vs:List bF)(fr:Bool)(k:bW->Option Ω):Option Ω:=
 if IG mds o vs=true then nW c nt mds o vs fr k else vp c nt mds o vs fr k
def Oper.opds (o:Oper):List Operand:=o.op.operands.toList
def fresh (e:Env):Option Nat->Bool
 |none=>true
 |some d=>(e.obj d).isNone&&(e.obj (sub d 0)).isNone&&(e.obj (sub d 1)).isNone&&(e.obj (sub d 2)).isNone&&(e.obj (sub d 3)).isNone
def qn {Ω:Type}(c:fS)(nt:Nat)(mds:List (Nat×Md))(o:Oper)(e:Env)(k:bW->Option Ω):Option Ω:=
 C1 c nt mds o ((Oper.opds o).map λx=>e.view (e.opd x)) (fresh e o.dst) k
def vq (ops:List Oper)(j:Nat):Option Nat:=match ops[j]? with|some o=>o.dst|none=>none
def qo {Ω:Type}(c:fS)(nt:Nat)(mds:List (Nat×Md))(ops:List Oper):List Oper->Env->(Env->Option Ω)->Option Ω
 |[],e,k=>k e
 |o::rest,e,k=>match o.guard with
  |none=>qn c nt mds o e λd=>qo c nt mds ops rest (e.apply d) k
  |some (j,want)=>match vq ops j with
   |none=>none
   |some t=>match e.get t with
    | .v .bool b=>
     if b=want then(let e1:=e.put t (.v .bool want);qn c nt mds o e1 λd=>qo c nt mds ops rest (e1.apply d) k)
     else match o.dst with
      |some d=>if Ll d nt=true then qo c nt mds ops rest ((e.put t (.v .bool (!want))).put d .un) k else none
      |none=>qo c nt mds ops rest (e.put t (.v .bool (!want))) k
    | .un=>match o.dst with
      |some d=>if Ll d nt=true then qo c nt mds ops rest (e.put d .un) k else none
      |none=>qo c nt mds ops rest e k
    |_=>none
structure mr where
 rs:List Nat
 ro:List Nat
 ws:List Nat
 wo:List Nat
 wk:List (Nat×(Option Obj->Bool))
 wb:List (Nat×Option Obj)
def kK:List Operand->List Nat
 |[]=>[]
 | .tmp t::l=>t::kK l
 |_::l=>kK l
def jf:List bF->List Nat
 |[]=>[]
 |(.al id _ _,_)::l=>id::jf l
 |(.pt id _ _,_)::l=>id::jf l
 |(.sub _ id _ _ _,_)::l=>id::jf l
 |(.fvr _ _ q,_)::l=>ko q++jf l
 |_::l=>jf l
def jG:Option Nat->List Nat
 |none=>[]
 |some d=>[d,sub d 0,sub d 1,sub d 2,sub d 3]
def vr:Op->Bool
 | .move _=>true
 | .assign _=>true
 |_=>false
def oW (mds:List (Nat×Md))(o:Oper)(vs:List bF):List (Nat×(Option Obj->Bool)):=match o.op,vs with
 | .load _ _,[(.pt id n (s::p),some o2)]=>if AW mds o.dst=true then(match aS o2.K o2.m o2.x (s::p)with|some ⟨K,_,_⟩=>[(id,AX K n o2.log.length (s::p))]|none=>[])else []
 | .fieldAddr _ _ _,[(.pt id n p,some o2)]=>if AW mds o.dst=true then(match aS o2.K o2.m o2.x p with|some ⟨K,_,_⟩=>[(id,y5 K n p)]|none=>[])else []
 |_,_=>[]
def pR (mds:List (Nat×Md))(g:List Nat)(o:Oper)(vs:List bF)(d:bW):mr:=
 ⟨g++kK (Oper.opds o),(if(vr o.op&&d.objs.isEmpty|| !(oW mds o vs).isEmpty)=true then []else jf vs)++jG o.dst,d.slots.map (·.1),d.objs.map (·.1),oW mds o vs,d.objs⟩
def tc:Option Nat->bW
 |none=>⟨[],[]⟩
 |some d=>⟨[(d,.un)],[]⟩
def oX (nt:Nat):Option Nat->Bool
 |none=>true
 |some d=>Ll d nt
def my {Ω:Type}(c:fS)(nt:Nat)(mds:List (Nat×Md))(ops:List Oper):List Oper->Env->List mr->(List mr->Env->Option Ω)->Option Ω
 |[],e,tr,k=>k tr e
 |o::rest,e,tr,k=>match o.guard with
  |none=>qn c nt mds o e λd=>my c nt mds ops rest (e.apply d) (pR mds [] o ((Oper.opds o).map λx=>e.view (e.opd x)) d::tr) k
  |some (j,want)=>match vq ops j with
   |none=>none
   |some t=>match e.get t with
    | .v .bool b=>
     if b=want then qn c nt mds o e λd=>my c nt mds ops rest (e.apply d) (pR mds [t] o ((Oper.opds o).map λx=>e.view (e.opd x)) d::tr) k
     else if oX nt o.dst=true then my c nt mds ops rest (e.apply (tc o.dst)) (⟨[t],[],o.dst.toList,[],[],[]⟩::tr) k else none
    | .un=>if oX nt o.dst=true then my c nt mds ops rest (e.apply (tc o.dst)) (⟨[t],[],o.dst.toList,[],[],[]⟩::tr) k else none
    |_=>none
def kZ (n:Nat):List Nat->Bool
 |[]=>false
 |m::l=>KA m n||kZ n l
def qO:List Nat->List Nat->Bool
 |[],_=>false
 |a::l,r=>kZ a r||qO l r
def zD (wk:List (Nat×(Option Obj->Bool)))(wo:List Nat):Bool:=wk.any λq=>kZ q.1 wo
def I6 (wk:List (Nat×(Option Obj->Bool)))(wb:List (Nat×Option Obj)):Bool:=wk.any λq=>wb.any λr=>KA q.1 r.1&& !(q.2 r.2)
def nX (x y:mr):Bool:=qO x.ws (y.rs++y.ws)||qO y.ws x.rs||qO x.wo (y.ro++y.wo)||qO y.wo x.ro||(zD y.wk x.wo||I6 x.wk y.wb)
def uc:List (List Nat)->Nat->List Nat
 |[],_=>[]
 |a::_,0=>a
 |_::l,n+1=>uc l n
def lP (acc:List (List Nat)):List Edge->List Nat
 |[]=>[]
 |e::l=>if LF .any e=true then e.on::uc acc e.on++lP acc l else lP acc l
def y6:List Oper->List (List Nat)->List (List Nat)
 |[],acc=>acc
 |o::l,acc=>y6 l (acc++[lP acc o.after.toList])
def nY (n:Nat):List Edge->Bool
 |[]=>true
 |e::l=>(!(LF .any e)||Ll e.on n)&&nY n l
def qP:Nat->List Oper->Bool
 |_,[]=>true
 |n,o::l=>nY n o.after.toList&&qP (n+1) l
def ud (an:List Nat)(y:mr):Nat->List mr->Bool
 |_,[]=>true
 |i,x::l=>(kZ i an|| !(nX x y))&&ud an y (i+1) l
def ue (an:List (List Nat))(all:List mr):Nat->List mr->Bool
 |_,[]=>true
 |j,y::l=>ud (uc an j) y 0 (all.take j)&&ue an all (j+1) l
def vt (ops:List Oper)(tr:List mr):Bool:=qP 0 ops&&ue (y6 ops []) tr.reverse 0 tr.reverse
def ly:List (Nat×Nat)->Nat->Option Nat
 |[],_=>none
 |(a,b)::l,i=>if KA a i=true then some b else ly l i
def kL (e:Env)(ren:List (Nat×Nat)):List Cap->Option (List Cap)
 |[]=>some []
 | .rp K x::l=>match kL e ren l with|some r=>some (.rp K x::r)|none=>none
 | .pt id n::l=>match(e.obj id).join,ly ren id,kL e ren l with
  |some o,some j,some r=>if(bK o&&gy o n [])=true then some (.pt j 0::r)else none
  |_,_,_=>none
def jS (e:Env):List Nat->List (Nat×Nat)->List (Nat×Slot)×List (Nat×Option Obj)
 |[],_=>([],[])
 |s::l,ren=>
  match e.get s with
  | .al id n p=>(match(e.obj id).join with
   |some o=>if((bK o||(nu o p).isSome)&&fu o n p)=true then(match ly ren id with
     |some j=>let z:=jS e l ren;((s,.al j 0 p)::z.1,z.2)
     |none=>if(!o.par||KA s id)=true then(let z:=jS e l ((id,s)::ren);((s,.al s 0 p)::z.1,(s,some {o with log:=[]})::z.2))else jS e l ren)else jS e l ren
   |none=>jS e l ren)
  | .pt id n p=>(match(e.obj id).join with
   |some o=>if(bK o&&gy o n p)=true then(match ly ren id with
     |some j=>let z:=jS e l ren;((s,.pt j 0 p)::z.1,z.2)
     |none=>if(!o.par||KA s id)=true then(let z:=jS e l ((id,s)::ren);((s,.pt s 0 p)::z.1,(s,some {o with log:=[]})::z.2))else jS e l ren)else jS e l ren
   |none=>jS e l ren)
  | .fv f fs caps=>(match kL e ren caps with
   |some cs=>let z:=jS e l ren;((s,.fv f fs cs)::z.1,z.2)
   |none=>jS e l ren)
  | .fvr _ _ _=>jS e l ren
  | .sub _ _ _ _ _=>jS e l ren
  | .tup _=>jS e l ren
  | .dead=>jS e l ren
  |x=>let z:=jS e l ren;((s,x)::z.1,z.2)
def jH (e:Env)(live:List Nat):Env:=let z:=jS e live [];⟨z.1,z.2⟩
inductive I7 where
 |nil
 |reg (mds:List (Nat×Md))
 |seq (a b:I7)
 |cond (live:Option (List Nat)) (a b:I7)
 |block (live:Option (List Nat)) (a:I7)
 |loop (live:List Nat) (a:I7)
def meet {Ω:Type}(l:Option (List Nat))(k:Env->Option Ω):Env->Option Ω:=match l with
 |none=>k
 |some l=>λe=>k (jH e l)
structure Ext (w w':World) (X:Nat->Nat->Prop):Prop where
 os:w'.os=w.os
 tape:w'.tape=w.tape
 output:w'.output=w.output
 size:w.heap.size<=w'.heap.size
 block:∀b,b<w.heap.size->(∀o,¬X b o)->w'.heap[b]? =w.heap[b]?
 cell:∀b o,b<w.heap.size->¬X b o->w'.pk b o=w.pk b o/\w'.frozen? ⟨b,o,none⟩=w.frozen? ⟨b,o,none⟩
theorem Ext.refl (w:World)(X:Nat->Nat->Prop):Ext w w X:=⟨rfl,rfl,rfl,JG _,λ_ _ _=>rfl,λ_ _ _ _=>⟨rfl,rfl⟩⟩
theorem Ext.trans {a b c:World}{X:Nat->Nat->Prop}(h:Ext a b X)(k:Ext b c X):Ext a c X:=
 ⟨k.os.trans h.os,k.tape.trans h.tape,k.output.trans h.output,Nat.le_trans h.size k.size,
  λi hi hx=>(k.block i (JX hi h.size) hx).trans (h.block i hi hx),
  λi o hi hx=>⟨(k.cell i o (JX hi h.size) hx).1.trans (h.cell i o hi hx).1,(k.cell i o (JX hi h.size) hx).2.trans (h.cell i o hi hx).2⟩⟩
theorem Ext.mono {a b:World}{X Y:Nat->Nat->Prop}(h:Ext a b X)(hX:∀b o,b<a.heap.size->X b o->Y b o):Ext a b Y:=
 ⟨h.os,h.tape,h.output,h.size,λi hi hx=>h.block i hi (λo hxo=>hx o (hX i o hi hxo)),λi o hi hx=>h.cell i o hi (λhxo=>hx (hX i o hi hxo))⟩
theorem Ext.step {a b c:World}{X Y:Nat->Nat->Prop}(h:Ext a b X)(k:Ext b c Y)(hY:∀i o,i<a.heap.size->Y i o->X i o):Ext a c X:=
 ⟨k.os.trans h.os,k.tape.trans h.tape,k.output.trans h.output,Nat.le_trans h.size k.size,
  λi hi hx=>(k.block i (JX hi h.size) (λo hy=>hx o (hY i o hi hy))).trans (h.block i hi hx),
  λi o hi hx=>⟨(k.cell i o (JX hi h.size) (λhy=>hx (hY i o hi hy))).1.trans (h.cell i o hi hx).1,
   (k.cell i o (JX hi h.size) (λhy=>hx (hY i o hi hy))).2.trans (h.cell i o hi hx).2⟩⟩
theorem sP (w:World)(o:Go.Obj){b o':Nat}(hb:b<w.heap.size):(w.alloc o).pk b o'=w.pk b o':=
 zy (by show(w.heap.push o)[b]? =_;rw[N6,ao (by omega)])
theorem nZ (b:Nat):∀(vs:List Value) (o:Nat) (w:World) (i:Nat) (es:Array MapEntry) (c:Nat),(w.setCells b o vs).heap[i]? =some (.map es c)↔w.heap[i]? =some (.map es c)
 |[],_,w,_,_,_=>NV
 |v::r,o,w,i,es,c=>(nZ b r (o+1) (w.setCell ⟨b,o,none⟩ v) i es c).trans (vm w _ v i es c)
theorem qp (b:Nat)(vs:List Value)(o:Nat)(w:World)(i o':Nat)(h:i=b->o'<o\/o+vs.length<=o'):(w.setCells b o vs).pk i o'=w.pk i o':=
 xU (World.cell?_setCells_out b vs o w _ λe _=>h e) (nZ b vs o w i)
theorem Ext.alloc (w:World)(o:Go.Obj)(X:Nat->Nat->Prop):Ext w (w.alloc o) X:=
 ⟨rfl,rfl,rfl,by rw[World.size_alloc];omega,λb hb _=>by show(w.heap.push o)[b]? =_;rw[N6,ao (by omega)],
  λb o' hb _=>⟨sP _ _ hb,World.frozen?_alloc_past _ _ _ hb⟩⟩
theorem Ext.drew (w:World)(X:Nat->Nat->Prop):Ext w {w with drawn:=w.drawn+1} X:=⟨rfl,rfl,rfl,JG _,λ_ _ _=>rfl,λ_ _ _ _=>⟨rfl,rfl⟩⟩
theorem lq (b:Nat):∀(vs:List Value) (o:Nat) (w:World),(w.setCells b o vs).os=w.os/\(w.setCells b o vs).tape=w.tape/\(w.setCells b o vs).output=w.output/\
  (w.setCells b o vs).drawn=w.drawn/\(w.setCells b o vs).heap.size=w.heap.size/\∀i,i≠b->(w.setCells b o vs).heap[i]? =w.heap[i]?
 |[],_,w=>⟨rfl,rfl,rfl,rfl,rfl,λ_ _=>rfl⟩
 |v::r,o,w=>by
  obtain⟨h1,h2,h3,h6,h4,h5⟩:=lq b r (o+1) (w.setCell ⟨b,o,none⟩ v);refine⟨h1,h2,h3,h6,h4.trans (by simp),λi hi=>(h5 i hi).trans ?_⟩;simp only[World.setCell,NK];rw[ao (by omega)]
theorem Ext.setCells (w:World)(b o:Nat)(vs:List Value):Ext w (w.setCells b o vs) (λb' o'=>b'=b/\o<=o'/\o'<o+vs.length):=by
 obtain⟨h1,h2,h3,h6,h4,h5⟩:=lq b vs o w;refine⟨h1,h2,h3,by omega,λi hi hx=>?_,λi o' hi hx=>⟨qp b vs o w i o' (λe=>?_),World.frozen?_setCells b vs o w _⟩⟩
 ·by_cases hib:i=b
  ·subst hib
   cases vs with
   |nil=>rfl
   |cons v r=>exact bJ ⟨rfl,JG o,by simp⟩ (hx o)
  ·exact h5 i hib
 ·by_cases h:o<=o'
  ·by_cases h':o'<o+vs.length
   ·exact bJ ⟨e,h,h'⟩ hx
   ·omega
  ·omega
theorem y7 {w:World}{b o:Nat}{v:Value}(h:w.cell? ⟨b,o,none⟩=some v):b<w.heap.size:=by
 rcases NX b w.heap.size with hb|hb
 ·exact hb
 ·simp[M8,Mw hb]at h
theorem C2 {w:World}{b o:Nat}{v:PV}(h:w.pk b o=some v):b<w.heap.size:=by
 rcases NX b w.heap.size with hb|hb
 ·exact hb
 ·simp[World.pk,M8,Mw hb]at h
theorem CellsAt.lt {w:World}{b o:Nat}{vs:List Value}(h:CellsAt w b o vs)(hn:0<vs.length):b<w.heap.size:=y7 (h 0 hn)
theorem RO.one {S:Nat->Prop}{w:World}:∀{K:Kd} {x:K.T} {cs:List Value},RO S w K x cs->∀v∈cs,v.oneCell'=true
 | .int _,_,_,h=>by rw[show _=_ from h];simp[LN]
 | .bool,_,_,h=>by rw[show _=_ from h];simp[LN]
 | .str,_,_,h=>by rw[show _=_ from h];simp[LN]
 | .err,_,_,h=>by obtain⟨v,rfl,h⟩:=h;rcases h with⟨_,rfl⟩|⟨_,t,p,rfl⟩<;>simp[LN]
 | .raw _,_,_,h=>by obtain⟨rfl,_,h⟩:=h;exact h
 | .sl e,xs,cs,h=>by obtain⟨A,cap,rfl,_⟩:=h;simp[LN]
 | .mp k e,xs,cs,h=>by rcases h with⟨rfl,_⟩|⟨r,es,c,rfl,_⟩<;>simp[LN]
 | .fcell f a b,xs,cs,h=>by rcases h with⟨_,rfl⟩|⟨q,b1,o1,b2,o2,c,oc,c1,c2,_,rfl,_⟩<;>simp[LN,xV]
 | .st k,x,cs,h=>RO.one (K:=k) h
 | .pair a b,x,cs,h=>by
  obtain⟨c1,c2,rfl,h1,h2⟩:=h;intro v hv;rcases KC.1 hv with hv|hv
  ·exact RO.one h1 v hv
  ·exact RO.one h2 v hv
theorem Own.one {S:Nat->Prop}{w:World}{K:Kd}{m:Md}{x:K.T}{cs:List Value}{F:Nat->Prop}(h:Own S w K m x cs F):∀v∈cs,v.oneCell'=true:=
 RO.one (Own.toRO (S':=λb=>S b\/F b) (λ_=>.inl) (λ_=>.inr) h)
def zE (S:Nat->Prop)(w:World):(Ks:List Kd)->Kd.Ts Ks->List Value->Prop
 |[],_,vs=>vs=[]
 |K::Ks,a,vs=>∃v r cs,vs=v::r/\RO S w K a.1 cs/\VRep K cs v/\zE S w Ks a.2 r
def I8 (S:Nat->Prop)(w w':World)(K:Kd)(y:K.T)(v:Value):Prop:=
 ∃S':Nat->Prop,(∀b,S b->S' b)/\(∀b,S' b->S b\/w.heap.size<=b)/\(∀b,S' b->b<w'.heap.size)/\∃cs,RO S' w' K y cs/\VRep K cs v
def qQ:List String:=["internal/bytealg.MaxLen", "internal/strconv.uint64pow10", "strconv.ErrSyntax", "strconv.ErrRange"]
structure I9 (nm:String) (cs:Array Value):Prop where
 maxLen:nm= "internal/bytealg.MaxLen" ->∃m,cs[0]? =some (.int .i64 m)
 pow10:nm= "internal/strconv.uint64pow10" ->cs=(Lib.pow10Tab.map λz=>Value.int .u64 z).toArray
 errS:nm= "strconv.ErrSyntax" ->∃t p,cs= #[.iface t p]
 errR:nm= "strconv.ErrRange" ->∃t p,cs= #[.iface t p]
def GlobOk (P:Program)(S:Nat->Prop)(w:World):Prop:=∀nm,nm∈qQ->∀g,P.globalNamed nm=some g->S g/\∃cs t fr,w.heap[g]? =some (.cells cs t fr)/\I9 nm cs
theorem GlobOk.mono {P:Program}{S S':Nat->Prop}{w w':World}(h:GlobOk P S w)(hS:∀b,S b->S' b)
  (hw:∀b,S b->w'.heap[b]? =w.heap[b]?):GlobOk P S' w':=by
 intro nm hm g hg;obtain⟨h1,cs,t,fr,h2,h3⟩:=h nm hm g hg;exact⟨hS g h1,cs,t,fr,(hw g h1).trans h2,h3⟩
theorem GlobOk.pow10 {P:Program}{S:Nat->Prop}{w:World}(h:GlobOk P S w){g:Nat}(hg:P.globalNamed "internal/strconv.uint64pow10" =some g):Lib.TabIs P w "internal/strconv.uint64pow10" .u64 Lib.pow10Tab:=by
 obtain⟨_,cs,t,fr,h2,h3⟩:=h _ (by simp[qQ]) g hg;unfold Lib.TabIs Oe
 simp[hg,h2,h3.pow10 rfl]
theorem GlobOk.errS {P:Program}{S:Nat->Prop}{w:World}(h:GlobOk P S w){g:Nat}(hg:P.globalNamed "strconv.ErrSyntax" =some g):∃t p,w.var? P "strconv.ErrSyntax" =some #[.iface t p]:=by
 obtain⟨_,cs,t,fr,h2,h3⟩:=h _ (by simp[qQ]) g hg;obtain⟨t,p,hm⟩:=h3.errS rfl;exact⟨t,p,by unfold Oe;simp[hg,h2,hm]⟩
theorem GlobOk.errR {P:Program}{S:Nat->Prop}{w:World}(h:GlobOk P S w){g:Nat}(hg:P.globalNamed "strconv.ErrRange" =some g):∃t p,w.var? P "strconv.ErrRange" =some #[.iface t p]:=by
 obtain⟨_,cs,t,fr,h2,h3⟩:=h _ (by simp[qQ]) g hg;obtain⟨t,p,hm⟩:=h3.errR rfl;exact⟨t,p,by unfold Oe;simp[hg,h2,hm]⟩
def CloRep (P:Program)(S:Nat->Prop)(w:World)(Ks:List Kd)(Kr:Kd)(f:Kd.Ts Ks->Option Kr.T)(v:Value):Prop:=
 ∃(fid:Nat) (fs cv:List Value),v= .func (.func fid) fs.toArray cv.toArray/\(∃fn,P.funcs[fid]? =some fn/\fn.name≠ "runtime.NumGoroutine" /\fn.body.isNone=false)/\
  ∀(S1:Nat->Prop) (w1:World),(∀b,S b->S1 b)->(∀b,S1 b->b<w1.heap.size)->
   (∀b o x,S b->w.pk b o=some x->w1.pk b o=some x)->GlobOk P S1 w1->
   ∀(a:Kd.Ts Ks) (r:Kr.T) (vals:List Value),f a=some r->zE S1 w1 Ks a vals->
    Calls P fid (fs++(vals++cv)).toArray w1 λe w2=>∃v,e= .returned v/\Ext w1 w2 (λ_ _=>False)/\I8 S1 w1 w2 Kr r v
theorem CloRep.mono {P:Program}{S S':Nat->Prop}{w w':World}{Ks:List Kd}{Kr:Kd}{f:Kd.Ts Ks->Option Kr.T}{v:Value}(hS:∀b,S b->S' b)
  (hw:∀b o x,S b->w.pk b o=some x->w'.pk b o=some x) (h:CloRep P S w Ks Kr f v):CloRep P S' w' Ks Kr f v:=by
 obtain⟨fid,fs,cv,rfl,hfn,hc⟩:=h;exact⟨fid,fs,cv,rfl,hfn,λS1 w1 h1 h2 h3=>hc S1 w1 (λb hb=>h1 b (hS b hb)) h2 (λb o x hb hx=>h3 b o x (hS b hb) (hw b o x hb hx))⟩
def PtrRO (S:Nat->Prop)(w:World)(K:Kd)(x:K.T)(v:Value):Prop:=
 ∃b o cs,v= .pointer (some ⟨b,o,none⟩)/\S b/\CellsAt w b o cs/\RO S w K x cs
theorem PtrRO.mono {S S':Nat->Prop}{w w':World}{K:Kd}{x:K.T}{v:Value}(hS:∀b,S b->S' b)
  (hw:∀b o x,S b->w.pk b o=some x->w'.pk b o=some x) (h:PtrRO S w K x v):PtrRO S' w' K x v:=by
 obtain⟨b,o,cs,rfl,hb,hc,hr⟩:=h;exact⟨b,o,cs,rfl,hS b hb,hc.of_same (λo' x=>hw b o' x hb),hr.mono hS hw⟩
def CapsRep (S:Nat->Prop)(w:World):List KV->List Value->Prop
 |[],vs=>vs=[]
 |⟨K,x⟩::l,vs=>∃v r,vs=v::r/\PtrRO S w K x v/\CapsRep S w l r
theorem CapsRep.mono {S S':Nat->Prop}{w w':World}(hS:∀b,S b->S' b)
  (hw:∀b o x,S b->w.pk b o=some x->w'.pk b o=some x):∀{l:List KV} {vs:List Value},CapsRep S w l vs->CapsRep S' w' l vs
 |[],_,h=>h
 |⟨K,x⟩::l,_,⟨v,r,e,h1,h2⟩=>⟨v,r,e,h1.mono hS hw,CapsRep.mono hS hw h2⟩
def FsRep (S:Nat->Prop)(w:World):List KV->List Value->Prop
 |[],vs=>vs=[]
 |⟨K,x⟩::l,vs=>∃v r,vs=v::r/\(∃cs,RO S w K x cs/\VRep K cs v)/\FsRep S w l r
theorem FsRep.mono {S S':Nat->Prop}{w w':World}(hS:∀b,S b->S' b)
  (hw:∀b o x,S b->w.pk b o=some x->w'.pk b o=some x):∀{l:List KV} {vs:List Value},FsRep S w l vs->FsRep S' w' l vs
 |[],_,h=>h
 |⟨K,x⟩::l,_,⟨v,r,e,⟨cs,h1,h2⟩,h3⟩=>⟨v,r,e,⟨cs,h1.mono hS hw,h2⟩,FsRep.mono hS hw h3⟩
structure Gh where
 S:Nat->Prop
 F:Nat->Nat->Prop
 pl:Nat->Place
 cs:Nat->List Value
structure Base where
 w0:World
 S0:Nat->Prop
 Fx:Nat->Prop
 Rx:Nat->Nat->Prop
 hd:Nat->Place×List Value
def Base.X (B:Base)(b o:Nat):Prop:=B.Fx b\/B.Rx b o
def LogOk (ob:Nat->Option (Option Obj))(id n:Nat):Prop:=ob id≠none/\∀o,ob id=some (some o)->n<=o.log.length
theorem LogOk.now {ob:Nat->Option (Option Obj)}{id:Nat}{o:Obj}(h:ob id=some (some o)):LogOk ob id o.log.length:=⟨by rw[h];simp,λo2 h2=>by rw[h]at h2;cases h2;exact JG _⟩
theorem qR:∀{p q:bI},GH p q=true->p=q/\aV q=false
 |[],[],_=>⟨rfl,rfl⟩
 | .inn::p,.inn::q,h=>by obtain⟨h1,h2⟩:=qR (p:=p) (q:=q) h;exact⟨by rw[h1],by simpa[aV]using h2⟩
 | .fst::p,.fst::q,h=>by obtain⟨h1,h2⟩:=qR (p:=p) (q:=q) h;exact⟨by rw[h1],by simpa[aV]using h2⟩
 | .snd::p,.snd::q,h=>by obtain⟨h1,h2⟩:=qR (p:=p) (q:=q) h;exact⟨by rw[h1],by simpa[aV]using h2⟩
 |[],_::_,h=>by cases h
 | .inn::_,[],h| .inn::_,.fst::_,h| .inn::_,.snd::_,h| .inn::_,.idx _::_,h=>by cases h
 | .fst::_,[],h| .fst::_,.inn::_,h| .fst::_,.snd::_,h| .fst::_,.idx _::_,h=>by cases h
 | .snd::_,[],h| .snd::_,.inn::_,h| .snd::_,.fst::_,h| .snd::_,.idx _::_,h=>by cases h
 | .idx _::_,_,h=>by cases h
theorem mz {o:Obj}{p:bI}{off:Int}(h:nu o p=some off):aV p=false/\o.hl≠none/\∀h,o.hl=some h->sZ h=true:=by
 unfold nu at h
 split at h
 ·rename_i hh e1
  split at h
  ·rename_i q i e2
   split at h
   ·rename_i e3
    exact⟨(qR e3).2,by rw[e1];simp,λh2 e4=>by rw[e1]at e4;cases e4;unfold sZ;rw[e2]⟩
   ·cases h
  ·cases h
 ·cases h
theorem lQ {o:Obj}{p:bI}{off:Int}{C:Prop}(h:o.hl=none)(h':nu o p=some off):C:=bJ h (mz h').2.1
def pT (g:Gh)(w:World)(ob:Nat->Option (Option Obj))(id n:Nat)(p:bI)(v:Value):Prop:=
 LogOk ob id n/\∀o,ob id=some (some o)->fu o n p=true->(o.hl=none\/aV p=false)->
   ∃q cs' K' m' x',aS o.K o.m o.x p=some ⟨K',m',x'⟩/\ck w p o.K (g.pl id) (g.cs id)=some (q,cs')/\VRep K' cs' v
def SubRep (g:Gh)(w:World)(ob:Nat->Option (Option Obj))(e:Kd)(id n:Nat)(l h:Int)(v:Value):Prop:=
 ∃(A:Option Addr) (len cap:Nat),pT g w ob id n [] (.slice A len cap)/\0<=l/\l<=h/\h<=(len:Int)/\len<=cap/\v= .slice (if cap=l.toNat then A else A.map (·.add (l.toNat*e.size))) (h.toNat - l.toNat) (cap - l.toNat)
theorem SubRep.imp {g g':Gh}{w w':World}{ob ob':Nat->Option (Option Obj)}{e:Kd}{id n:Nat}{l h:Int}{v:Value}(hi:∀v,pT g w ob id n [] v->pT g' w' ob' id n [] v)(hs:SubRep g w ob e id n l h v):SubRep g' w' ob' e id n l h v:=by
 obtain⟨A,len,cap,h1,h2⟩:=hs;exact⟨A,len,cap,hi _ h1,h2⟩
def nx (g:Gh)(w:World)(ob:Nat->Option (Option Obj))(id n:Nat)(p:bI)(v:Value):Prop:=
 LogOk ob id n/\∀o,ob id=some (some o)->gy o n p=true->(o.hl=none\/nG p=true\/(o.hl=some p/\sZ p=false))->
   ∃b off cs' K' m' x',aS o.K o.m o.x p=some ⟨K',m',x'⟩/\ck w p o.K (g.pl id) (g.cs id)=some (some (b,off),cs')/\v= .pointer (some ⟨b,off,none⟩)
def GN (g:Gh)(w:World)(ob:Nat->Option (Option Obj)):Cap->Value->Prop
 | .rp K x,v=>PtrRO g.S w K x v
 | .pt id n,v=>nx g w ob id n [] v
def CapsOk (g:Gh)(w:World)(ob:Nat->Option (Option Obj)):List Cap->List Value->Prop
 |[],vs=>vs=[]
 |c::l,vs=>∃v r,vs=v::r/\GN g w ob c v/\CapsOk g w ob l r
theorem CapsOk.imp {g g':Gh}{w w':World}{ob ob':Nat->Option (Option Obj)}:∀{l:List Cap} {vs:List Value},(∀c v,c∈l->GN g w ob c v->GN g' w' ob' c v)->CapsOk g w ob l vs->CapsOk g' w' ob' l vs
 |[],_,_,h=>h
 |c::l,_,hi,⟨v,r,e,h1,h2⟩=>⟨v,r,e,hi c v JA h1,CapsOk.imp (λc v hm=>hi c v (JE _ hm)) h2⟩
def FvRep (g:Gh)(w:World)(ob:Nat->Option (Option Obj))(f:Nat)(fs:List KV)(caps:List Cap)(v:Value):Prop:=
 ∃fv cv:List Value,v= .func (.func f) fv.toArray cv.toArray/\FsRep g.S w fs fv/\CapsOk g w ob caps cv
theorem FvRep.imp {g g':Gh}{w w':World}{ob ob':Nat->Option (Option Obj)}{f:Nat}{fs:List KV}{l:List Cap}{v:Value}(hS:∀b,g.S b->g'.S b)(hw:∀b o x,g.S b->w.pk b o=some x->w'.pk b o=some x)
  (hi:∀id n v,nx g w ob id n [] v->nx g' w' ob' id n [] v) (h:FvRep g w ob f fs l v):FvRep g' w' ob' f fs l v:=by
 obtain⟨fv,cv,e,h1,h2⟩:=h;refine⟨fv,cv,e,h1.mono hS hw,CapsOk.imp (λc v _ hc=>?_) h2⟩;cases c with
 |rp K x=>exact PtrRO.mono hS hw hc
 |pt id n=>exact hi id n v hc
def SlotRep0 (P:Program)(g:Gh)(w:World)(ob:Nat->Option (Option Obj)):Slot->Value->Prop
 | .dead,_=>True
 | .un,v=>v=undef
 | .nils,v=>v= .slice none 0 0
 | .v K x,v=>∃cs,RO g.S w K x cs/\VRep K cs v
 | .rp K x,v=>PtrRO g.S w K x v
 | .al id n p,v=>pT g w ob id n p v
 | .sub e id n l h,v=>SubRep g w ob e id n l h v
 | .pt id n p,v=>nx g w ob id n p v
 | .fv f fs caps,v=>FvRep g w ob f fs caps v
 | .fvr _ _ _,_=>False
 | .clo Ks Kr f,v=>CloRep P g.S w Ks Kr f v
 | .tup _,_=>False
def TupRep (P:Program)(g:Gh)(w:World)(ob:Nat->Option (Option Obj)):List Slot->List Value->Prop
 |[],vs=>vs=[]
 |s::l,vs=>∃v r,vs=v::r/\SlotRep0 P g w ob s v/\TupRep P g w ob l r
def SlotRep (P:Program)(g:Gh)(w:World)(ob:Nat->Option (Option Obj))(s:Slot)(v:Value):Prop:=match s with
 | .tup l=>∃vs:Array Value,v= .tuple vs/\TupRep P g w ob l vs.toList
 |s=>SlotRep0 P g w ob s v
def Slot.isTup:Slot->Bool
 | .tup _=>true
 |_=>false
theorem SlotRep.iff0 {P:Program}{g:Gh}{w:World}{ob:Nat->Option (Option Obj)}{s:Slot}{v:Value}(h:s.isTup=false):SlotRep P g w ob s v↔SlotRep0 P g w ob s v:=by
 cases s<;>first|exact NV|cases h
def Holed (S:Nat->Prop)(w:World)(o:Obj)(p:bI)(F:Nat->Prop)(pl:Place)(cs:List Value):Prop:=
 ∃q cs' K' m' x',aS o.K o.m o.x p=some ⟨K',m',x'⟩/\ck w p o.K pl cs=some (q,cs')/\(∀w2:World,(∀b o,F b->w2.pk b o=w.pk b o)->ck w2 p o.K pl cs=some (q,cs'))/\PlOk w q cs'/\cs'.length=K'.size/\
  (∀b off,q=some (b,off)->(∃o0,pl=some (b,o0)/\o0<=off/\off+K'.size<=o0+o.K.size)\/F b)/\cs.length=o.K.size/\
  ∀(S2:Nat->Prop) (w2:World) (m2 mm:Md) (y:K'.T) (x2:o.K.T) (cs2:List Value) (F2:Nat->Prop),gx o.K o.x p K' y=some x2->iY o.m p m2=some mm->
   (∀b,S b->S2 b)->(∀b o v,S b->w.pk b o=some v->w2.pk b o=some v)->
   (∀b o,F b->¬sY q K'.size b o->w2.pk b o=w.pk b o/\w2.frozen? ⟨b,o,none⟩=w.frozen? ⟨b,o,none⟩)->
   (∀b o1,sY pl o.K.size b o1->¬sY q K'.size b o1->w2.pk b o1=w.pk b o1/\w2.frozen? ⟨b,o1,none⟩=w.frozen? ⟨b,o1,none⟩)->
   PlOk w2 q cs2->Own S2 w2 K' m2 y cs2 F2->(∀b,F2 b->¬F b)->(∀b o,pl=some (b,o)->¬F2 b)->
   Own S2 w2 o.K mm x2 (bV p o.K cs cs2) (λb=>F b\/F2 b)/\PlOk w2 pl (bV p o.K cs cs2)
def OwnQ (S:Nat->Prop)(w:World)(e:Kd)(m:Md)(off:Int)(xs:List e.T)(A:Option Addr)(F:Nat->Prop):Prop:=
 (0<xs.length->∃b o,A=some ⟨b,o,none⟩/\F b)/\
  ∃G:Nat->Nat->Prop,(∀i b,G i b->F b)/\(∀i ad,A=some ad->¬G i ad.block)/\(∀i j b,i≠j->G i b->¬G j b)/\
   ∀i (h:i<xs.length),off<=(i:Int)->∃b o vs,A=some ⟨b,o,none⟩/\CellsAt w b (o+i*e.size) vs/\Own S w e m xs[i] vs (G i)
def QueOk (S:Nat->Prop)(w:World)(o:Obj)(q:bI)(off:Int)(F:Nat->Prop)(pl:Place)(cs:List Value):Prop:=
 ∃(e:Kd) (m:Md) (xs:List e.T) (pl':Place) (A:Option Addr) (cap:Nat),aS o.K o.m o.x q=some ⟨.sl e,.own m,xs⟩/\ck w q o.K pl cs=some (pl',[.slice A xs.length cap])/\OwnQ S w e m off xs A F
def ny (B:Base)(i:Nat)(o:Obj)(pl:Place)(cs:List Value):Prop:=
 if(o.box&&DZ o.K)=true then((B.hd i).1≠none->pl=(B.hd i).1)/\((B.hd i).1=none->cs=(B.hd i).2)else pl=(B.hd i).1/\(o.box=false->cs=(B.hd i).2)
structure vu (g:Gh) (w:World) (B:Base) (i:Nat) (o:Obj):Prop where
 own:o.hl=none->Own g.S w o.K o.m o.x (g.cs i) (g.F i)/\PlOk w (g.pl i) (g.cs i)
 hole:∀p,o.hl=some p->sZ p=false->Holed g.S w o p (g.F i) (g.pl i) (g.cs i)
 box:o.box=(g.pl i).isSome
 par:o.par=true->ny B i o (g.pl i) (g.cs i)
 plx:∀b off,g.pl i=some (b,off)->(B.Fx b\/B.w0.heap.size<=b)\/(o.par=true/\∀o',off<=o'->o'<off+o.K.size->B.Rx b o')
 que:∀q off,nu o q=some off->QueOk g.S w o q off (g.F i) (g.pl i) (g.cs i)
structure InvG (P:Program) (B:Base) (nt:Nat) (e:Env) (a:Act) (w:World) (g:Gh):Prop where
 glob:GlobOk P B.S0 B.w0/\∀b o,B.S0 b->¬B.X b o
 tmps:a.tmps.size=nt
 defers:a.defers=[]
 ext:Ext B.w0 w B.X
 Ssz:∀b,g.S b->b<w.heap.size
 Fsz:∀i b,g.F i b->b<w.heap.size
 S0:∀b,B.S0 b->g.S b
 Sb:∀b,g.S b->B.S0 b\/B.Fx b\/B.w0.heap.size<=b
 Fb:∀i b,g.F i b->B.Fx b\/B.w0.heap.size<=b
 FS:∀i b,g.F i b->¬g.S b
 FF:∀i j b,i≠j->g.F i b->¬g.F j b
 plz:∀i b off,g.pl i=some (b,off)->b<w.heap.size/\¬g.S b/\(∀j,¬g.F j b)/\∀j off',g.pl j=some (b,off')->i=j
 absent:∀i,(∀o,e.obj i≠some (some o))->(∀b,¬g.F i b)/\g.pl i=none
 objs:∀i o,e.obj i=some (some o)->vu g w B i o
 slots:∀i,SlotRep P g w e.obj (e.get i) (a.tmps.getD i undef)
theorem InvG.globw {P:Program}{B:Base}{nt:Nat}{e:Env}{a:Act}{w:World}{g:Gh}(h:InvG P B nt e a w g):GlobOk P g.S w:=by
 intro nm hm q hq;obtain⟨h1,cs,t,fr,h2,h3⟩:=h.glob.1 nm hm q hq;have hlt:q<B.w0.heap.size:=by
  rcases NX q B.w0.heap.size with hb|hb
  ·exact hb
  ·rw[Mw hb]at h2;cases h2
 exact⟨h.S0 q h1,cs,t,fr,(h.ext.block q hlt (λo=>h.glob.2 q o h1)).trans h2,h3⟩
def Inv (P:Program)(B:Base)(nt:Nat)(e:Env)(a:Act)(w:World):Prop:=∃g,InvG P B nt e a w g
theorem Holed.mono {S S':Nat->Prop}{w w':World}{o:Obj}{p:bI}{F:Nat->Prop}{pl:Place}{cs:List Value}(hS:∀b,S b->S' b)
  (hw:∀b o v,S b->w.pk b o=some v->w'.pk b o=some v)
  (hF:∀b o,F b->w'.pk b o=w.pk b o/\w'.frozen? ⟨b,o,none⟩=w.frozen? ⟨b,o,none⟩)
  (hp:∀b o1,sY pl o.K.size b o1->w'.pk b o1=w.pk b o1/\w'.frozen? ⟨b,o1,none⟩=w.frozen? ⟨b,o1,none⟩)
  (h:Holed S w o p F pl cs):Holed S' w' o p F pl cs:=by
 obtain⟨q,cs',K',m',x',h1,h2,h2',h3,h4,h5,h5',h6⟩:=h;refine⟨q,cs',K',m',x',h1,h2' w' λb o hb=>(hF b o hb).1,λw2 h=>h2' w2 λb o hb=>(h b o hb).trans (hF b o hb).1,?_,h4,h5,h5',?_⟩
 ·refine h3.of_same λb off hR=>?_
  obtain⟨o0,e0,r1,r2⟩:=hR;rcases h5 b o0 e0 with⟨o1,e1,r3,r4⟩|h
  ·exact hp b off ⟨o1,e1,by omega,by omega⟩
  ·exact hF b off h
 ·intro S2 w2 m2 mm y x2 cs2 F2 k1 k2 k3 k4 k5 k6 k7 k8 k9 k10
  have hqF:∀b o',F b->¬sY q K'.size b o'->w2.pk b o'=w.pk b o'/\w2.frozen? ⟨b,o',none⟩=w.frozen? ⟨b,o',none⟩:=λb o' hb hq=>
   ⟨(k5 b o' hb hq).1.trans (hF b o' hb).1,(k5 b o' hb hq).2.trans (hF b o' hb).2⟩
  exact h6 S2 w2 m2 mm y x2 cs2 F2 k1 k2 (λb hb=>k3 b (hS b hb)) (λb o' v hb hv=>k4 b o' v (hS b hb) (hw b o' v hb hv)) hqF
   (λb o1 hR hq=>⟨(k6 b o1 hR hq).1.trans (hp b o1 hR).1,(k6 b o1 hR hq).2.trans (hp b o1 hR).2⟩) k7 k8 k9 k10
theorem jg {w w2:World}:∀(p:bI) {K:Kd} {pl:Place} {cs:List Value} {r:Place×List Value},aV p=false->ck w p K pl cs=some r->ck w2 p K pl cs=some r
 |[],K,pl,cs,r,_,h=>h
 | .inn::p,.st k,pl,cs,r,hi,h=>jg p (K:=k) (by simpa[aV]using hi) h
 | .fst::p,.pair a b,pl,cs,r,hi,h=>jg p (K:=a) (by simpa[aV]using hi) h
 | .snd::p,.pair a b,pl,cs,r,hi,h=>jg p (K:=b) (by simpa[aV]using hi) h
 | .idx i::p,_,pl,cs,r,hi,h=>by simp[aV]at hi
 | .inn::_,.int _,_,_,_,_,h| .inn::_,.bool,_,_,_,_,h| .inn::_,.str,_,_,_,_,h| .inn::_,.err,_,_,_,_,h| .inn::_,.mp _ _,_,_,_,_,h| .inn::_,.fcell _ _ _,_,_,_,_,h| .inn::_,.raw _,_,_,_,_,h| .inn::_,.sl _,_,_,_,_,h| .inn::_,.pair _ _,_,_,_,_,h=>by simp[ck]at h
 | .fst::_,.int _,_,_,_,_,h| .fst::_,.bool,_,_,_,_,h| .fst::_,.str,_,_,_,_,h| .fst::_,.err,_,_,_,_,h| .fst::_,.mp _ _,_,_,_,_,h| .fst::_,.fcell _ _ _,_,_,_,_,h| .fst::_,.raw _,_,_,_,_,h| .fst::_,.sl _,_,_,_,_,h| .fst::_,.st _,_,_,_,_,h=>by simp[ck]at h
 | .snd::_,.int _,_,_,_,_,h| .snd::_,.bool,_,_,_,_,h| .snd::_,.str,_,_,_,_,h| .snd::_,.err,_,_,_,_,h| .snd::_,.mp _ _,_,_,_,_,h| .snd::_,.fcell _ _ _,_,_,_,_,h| .snd::_,.raw _,_,_,_,_,h| .snd::_,.sl _,_,_,_,_,h| .snd::_,.st _,_,_,_,_,h=>by simp[ck]at h
theorem OwnQ.mono {S S':Nat->Prop}{w w':World}{e:Kd}{m:Md}{off:Int}{xs:List e.T}{A:Option Addr}{F:Nat->Prop}(hS:∀b,S b->S' b)
  (hw:∀b o v,S b->w.pk b o=some v->w'.pk b o=some v)
  (hF:∀b o,F b->w'.pk b o=w.pk b o/\w'.frozen? ⟨b,o,none⟩=w.frozen? ⟨b,o,none⟩) (h:OwnQ S w e m off xs A F):OwnQ S' w' e m off xs A F:=by
 obtain⟨h1,G,h2,h3,h4,h5⟩:=h;refine⟨h1,G,h2,h3,h4,λi hi ho=>?_⟩;obtain⟨b,o,vs,e1,k1,k2⟩:=h5 i hi ho;refine⟨b,o,vs,e1,?_,k2.mono hS hw (λ_ h=>h) (λb o hb=>hF b o (h2 i b hb))⟩;obtain⟨b2,o2,e2,k3⟩:=h1 (by omega);rw[e1]at e2;cases e2;exact k1.of_same λo' v hv=>by rw[(hF b o' k3).1];exact hv
theorem QueOk.mono {S S':Nat->Prop}{w w':World}{o:Obj}{q:bI}{off:Int}{F:Nat->Prop}{pl:Place}{cs:List Value}(hq:aV q=false)(hS:∀b,S b->S' b)
  (hw:∀b o v,S b->w.pk b o=some v->w'.pk b o=some v)
  (hF:∀b o,F b->w'.pk b o=w.pk b o/\w'.frozen? ⟨b,o,none⟩=w.frozen? ⟨b,o,none⟩) (h:QueOk S w o q off F pl cs):QueOk S' w' o q off F pl cs:=by
 obtain⟨e,m,xs,pl',A,cap,h1,h2,h3⟩:=h;exact⟨e,m,xs,pl',A,cap,h1,jg q hq h2,h3.mono hS hw hF⟩
theorem Ext.same {w w':World}{X:Nat->Nat->Prop}(hx:Ext w w' X){b o:Nat}{v:PV}(hX:¬X b o)(h:w.pk b o=some v):w'.pk b o=some v:=by
 rw[(hx.cell b o (C2 h) hX).1];exact h
theorem InvG.put {P:Program}{B:Base}{nt:Nat}{e:Env}{a:Act}{w:World}{g:Gh}(h:InvG P B nt e a w g){d:Nat}(hd:d<nt){s:Slot}{v:Value}
  (hs:SlotRep P g w e.obj s v):InvG P B nt (e.put d s) (a.put (some d) v) w g:=by
 refine⟨h.glob,by simp only[Act.put,Array.size_setIfInBounds];exact h.tmps,h.defers,h.ext,h.Ssz,h.Fsz,h.S0,h.Sb,h.Fb,h.FS,h.FF,h.plz,h.absent,h.objs,λi=>?_⟩;have eo:(e.put d s).obj=e.obj:=rfl;rw[eo]
 by_cases hi:d=i
 ·subst hi
  have e1:(e.put d s).get d=s:=by simp[Env.get,Env.put,au]
  have e2:(a.put (some d) v).tmps.getD d undef=v:=by
   have:d<a.tmps.size:=by rw[h.tmps];exact hd
   simp[Act.put,this]
  rw[e1,e2];exact hs
 ·have e1:(e.put d s).get i=e.get i:=by simp[Env.get,Env.put,au,hi]
  have e2:(a.put (some d) v).tmps.getD i undef=a.tmps.getD i undef:=by
   simp[Act.put,Array.getD_eq_getD_getElem?,Array.getElem?_setIfInBounds_ne hi]
  rw[e1,e2];exact h.slots i
theorem Inv.eval {P:Program}{B:Base}{nt:Nat}{e:Env}{a:Act}{w:World}{g:Gh}(h:InvG P B nt e a w g)(x:Operand):SlotRep P g w e.obj (e.opd x) (a.eval x):=by
 cases x with
 |tmp t=>exact h.slots t
 |func f=>exact⟨[],[],rfl,rfl,rfl⟩
 |global i=>trivial
 |const v=>
  cases v with
  |int k n=>exact⟨_,rfl,rfl,rfl⟩
  |bool b=>exact⟨_,rfl,rfl,rfl⟩
  |string s=>exact⟨_,rfl,rfl,rfl⟩
  |nilIface=>exact⟨_,⟨_,rfl,.inl ⟨rfl,rfl⟩⟩,rfl,rfl⟩
  |slice A n cap=>
   cases A with
   |some ad=>exact trivial
   |none=>
    cases n with
    |zero=>cases cap with
     |zero=>exact rfl
     |succ c=>exact trivial
    |succ n=>exact trivial
  |_=>exact trivial
theorem InvG.change {P:Program}{B:Base}{nt:Nat}{e e':Env}{a:Act}{w w':World}{g g':Gh}(h:InvG P B nt e a w g)(T:Nat->Prop)
  (hsl:e'.slots=e.slots) (hx:Ext B.w0 w' B.X)
  (hS:∀b,g.S b->g'.S b) (hw:∀b o v,g.S b->w.pk b o=some v->w'.pk b o=some v)
  (hSsz:∀b,g'.S b->b<w'.heap.size) (hFsz:∀i b,g'.F i b->b<w'.heap.size)
  (hSb:∀b,g'.S b->B.S0 b\/B.Fx b\/B.w0.heap.size<=b) (hFb:∀i b,g'.F i b->B.Fx b\/B.w0.heap.size<=b)
  (hFS:∀i b,g'.F i b->¬g'.S b) (hFF:∀i j b,i≠j->g'.F i b->¬g'.F j b)
  (hplz:∀i b off,g'.pl i=some (b,off)->b<w'.heap.size/\¬g'.S b/\(∀j,¬g'.F j b)/\∀j off',g'.pl j=some (b,off')->i=j)
  (hT:∀i,¬T i->e'.obj i=e.obj i/\g'.F i=g.F i/\g'.pl i=g.pl i/\g'.cs i=g.cs i/\
   (∀b o,g.F i b->w'.pk b o=w.pk b o/\w'.frozen? ⟨b,o,none⟩=w.frozen? ⟨b,o,none⟩)/\
   (∀b off,g.pl i=some (b,off)->∀o,w'.pk b o=w.pk b o/\w'.frozen? ⟨b,o,none⟩=w.frozen? ⟨b,o,none⟩))
  (hgone:∀i,T i->(∀o,e'.obj i≠some (some o))->(∀b,¬g'.F i b)/\g'.pl i=none)
  (hobj:∀i o,T i->e'.obj i=some (some o)->vu g' w' B i o)
  (hal:∀i,T i->∀n p v,SlotRep0 P g w e.obj (.al i n p) v->SlotRep0 P g' w' e'.obj (.al i n p) v)
  (hpt:∀i,T i->∀n p v,SlotRep0 P g w e.obj (.pt i n p) v->SlotRep0 P g' w' e'.obj (.pt i n p) v):InvG P B nt e' a w' g':=by
 have sal:∀id n p v,pT g w e.obj id n p v->pT g' w' e'.obj id n p v:=by
  intro id n p v hs
  by_cases ht:T id
  ·exact hal id ht n p v hs
  ·obtain⟨e1,e2,e3,e4,e5,e6⟩:=hT id ht
   refine⟨by unfold LogOk;rw[e1];exact hs.1,λo ho hok hh=>?_⟩;rw[e1]at ho;obtain⟨q,cs',K',m',x',h1,h2,h3⟩:=hs.2 o ho hok hh;refine⟨q,cs',K',m',x',h1,?_,h3⟩;rw[e3,e4];rcases hh with hh|hh
   ·exact iw p h1 ((h.objs id o ho).own hh).1 (λb o hb=>(e5 b o hb).1) h2
   ·exact jg p hh h2
 have spt:∀id n p v,nx g w e.obj id n p v->nx g' w' e'.obj id n p v:=by
  intro id n p v hs
  by_cases ht:T id
  ·exact hpt id ht n p v hs
  ·obtain⟨e1,e2,e3,e4,e5,e6⟩:=hT id ht
   refine⟨by unfold LogOk;rw[e1];exact hs.1,λo ho hok hh=>?_⟩;rw[e1]at ho;obtain⟨b,off,cs',K',m',x',h1,h2,h3⟩:=hs.2 o ho hok hh
   suffices hs:∃c2,ck w' p o.K (g'.pl id) (g'.cs id)=some (some (b,off),c2)by
    obtain⟨c2,hs⟩:=hs;exact⟨b,off,c2,K',m',x',h1,hs,h3⟩
   rw[e3,e4];rcases hh with hh|hh|hh
   ·exact⟨_,iw p h1 ((h.objs id o ho).own hh).1 (λb o hb=>(e5 b o hb).1) h2⟩
   ·exact lw p hh h2
   ·obtain⟨q,cs2,_,_,_,_,k2,k2',_⟩:=(h.objs id o ho).hole p hh.1 hh.2
    rw[k2]at h2;exact⟨_,(k2' w' (λb o hb=>(e5 b o hb).1)).trans h2⟩
 have s0:∀s v,SlotRep0 P g w e.obj s v->SlotRep0 P g' w' e'.obj s v:=by
  intro s v hs;cases s with
  |dead=>trivial
  |un=>exact hs
  |nils=>exact hs
  |v K x=>obtain⟨cs,h1,h2⟩:=hs;exact⟨cs,h1.mono hS hw,h2⟩
  |rp K x=>exact PtrRO.mono hS hw hs
  |al id n p=>exact sal id n p v hs
  |sub e id n l r=>exact SubRep.imp (λv=>sal id n [] v) hs
  |pt id n p=>exact spt id n p v hs
  |fv f fs caps=>exact FvRep.imp hS hw (λid n v=>spt id n [] v) hs
  |fvr=>exact hs
  |clo Ks Kr f=>exact CloRep.mono hS hw hs
  |tup l=>exact hs
 have st:∀l vs,TupRep P g w e.obj l vs->TupRep P g' w' e'.obj l vs:=by
  intro l
  induction l with
  |nil=>intro vs h;exact h
  |cons s l ih=>intro vs ⟨v,r,e1,h1,h2⟩;exact⟨v,r,e1,s0 _ _ h1,ih _ h2⟩
 refine⟨h.glob,h.tmps,h.defers,hx,hSsz,hFsz,λb hb=>hS b (h.S0 b hb),hSb,hFb,hFS,hFF,hplz,λi hi=>?_,λi o ho=>?_,λi=>?_⟩
 ·by_cases ht:T i
  ·exact hgone i ht hi
  ·obtain⟨e1,e2,e3,_⟩:=hT i ht
   rw[e2,e3];exact h.absent i (λo ho=>hi o (by rw[e1];exact ho))
 ·by_cases ht:T i
  ·exact hobj i o ht ho
  ·obtain⟨e1,e2,e3,e4,e5,e6⟩:=hT i ht
   rw[e1]at ho;have hO:=h.objs i o ho;refine⟨λhh=>?_,λp hh hq=>?_,by rw[e3];exact hO.box,by rw[e3,e4];exact hO.par,by rw[e3];exact hO.plx,λq off hq=>by rw[e2,e3,e4];exact(hO.que q off hq).mono (mz hq).1 hS hw (λb o hb=>e5 b o hb)⟩
   ·obtain⟨h1,h2⟩:=hO.own hh
    rw[e2,e3,e4];refine⟨h1.mono hS hw (λ_ h=>h) (λb o hb=>e5 b o hb),h2.of_same λb o hR=>?_⟩;obtain⟨o0,e0,_,_⟩:=hR;exact e6 b o0 e0 o
   ·rw[e2,e3,e4]
    refine(hO.hole p hh hq).mono hS hw (λb o hb=>e5 b o hb) (λb o hR=>?_);obtain⟨o0,e0,_,_⟩:=hR;exact e6 b o0 e0 o
 ·have eg:e'.get i=e.get i:=by simp[Env.get,hsl]
  rw[eg];have hs:=h.slots i
  by_cases ht:(e.get i).isTup=true
  ·revert hs ht
   cases e.get i
   case tup l=>intro hs _;obtain⟨vs,e1,h1⟩:=hs;exact⟨vs,e1,st _ _ h1⟩
   all_goals intro _ ht;cases ht
  ·have ht:=JK.2 ht
   exact(SlotRep.iff0 ht).2 (s0 _ _ ((SlotRep.iff0 ht).1 hs))
def lr (P:Program)(B:Base)(nt:Nat)(o:Oper)(e e':Env):Prop:=
 ∀a w,Inv P B nt e a w->∀(next:Act->World->Prop) (Q:Exit->Act->World->Prop),(∀a' w',Inv P B nt e' a' w'->next a' w')->o.wp P a w next Q
theorem jm {P:Program}{B:Base}{nt d:Nat}{o:Oper}{e:Env}{s:Slot}{os:List (Nat×Option Obj)}(hd:o.dst=some d)(hlt:d<nt)
  (h:∀a w g,InvG P B nt e a w g->∃v w' g',(execOp a.eval o).run P w= .ok (.value v) w'/\InvG P B nt ⟨e.slots,os++e.objs⟩ a w' g'/\SlotRep P g' w' (Env.mk e.slots (os++e.objs)).obj s v):
  lr P B nt o e (e.apply ⟨[(d,s)],os⟩):=by
 intro a w ⟨g,hg⟩ next Q hn;obtain⟨v,w',g',hr,hi,hs⟩:=h a w g hg;unfold Oper.wp;rw[hr,Nx,hd];exact hn _ _ ⟨g',hi.put hlt hs⟩
theorem mA {P:Program}{B:Base}{nt:Nat}{o:Oper}{s:Slot}{Ω:Type}{k:bW->Option Ω}{out:Ω}{Good:Env->Prop}(hk:cz nt o.dst s k=some out)
  (h:∀e,Good e->∀a w g,InvG P B nt e a w g->∃v w' g',(execOp a.eval o).run P w= .ok (.value v) w'/\InvG P B nt e a w' g'/\SlotRep P g' w' e.obj s v):
  ∃d,k d=some out/\∀e,Good e->lr P B nt o e (e.apply d):=by
 unfold cz at hk
 split at hk
 ·rename_i hd
  refine⟨_,hk,λe hv a w ⟨g,hg⟩ next Q hn=>?_⟩;obtain⟨v,w',g',hr,hi,hs⟩:=h e hv a w g hg;unfold Oper.wp;rw[hr,Nx,hd];exact hn _ _ ⟨g',hi⟩
 ·rename_i d hd
  split at hk
  ·rename_i hlt
   refine⟨_,hk,λe hv=>jm (os:=[]) hd (JV hlt) (λa w g hg=>?_)⟩;exact h e hv a w g hg
  ·cases hk
theorem ba {P:Program}{B:Base}{nt:Nat}{o:Oper}{s:Slot}{Ω:Type}{k:bW->Option Ω}{out:Ω}{Good:Env->Prop}(hk:cz nt o.dst s k=some out)
  (h:∀e,Good e->∀a w g,InvG P B nt e a w g->∃v,(execOp a.eval o).run P w= .ok (.value v) w/\SlotRep P g w e.obj s v):
  ∃d,k d=some out/\∀e,Good e->lr P B nt o e (e.apply d):=
 mA hk λe hv a w g hg=>let⟨v,h1,h2⟩:=h e hv a w g hg;⟨v,w,g,h1,hg,h2⟩
def xQ:Kd->List Value->Option (List Value)
 | .int k,.int l 0::r=>if BU k l=true then some r else none
 | .bool,.bool false::r=>some r
 | .err,.nilIface::r=>some r
 | .str,.string s::r=>if s.size=0 then some r else none
 | .sl _,.slice none 0 0::r=>some r
 | .mp _ _,.map none::r=>some r
 | .fcell _ _ _,.nilFunc::r=>some r
 | .st k,cs=>xQ k cs
 | .raw k,cs=>xQ k cs
 | .pair a b,cs=>match xQ a cs with|some r=>xQ b r|none=>none
 |_,_=>none
theorem vv {s:ByteArray}(h:s.size=0):s=⟨#[]⟩:=by
 obtain⟨d⟩:=s;have:d.size=0:=h
 simp at this
 rw[this]
theorem qU:∀{K:Kd} {cs r:List Value},xQ K cs=some r->cs=K.zc++r
 | .int k,cs,r,h=>by
  unfold xQ at h
  split at h<;>try (cases h;done)
  all_goals (rename_i heq;first|(cases heq;split at h<;>first|(rename_i hk;have:=qv hk;subst this;cases h;rfl)|cases h)|(cases heq;done))
 | .bool,cs,r,h=>by
  unfold xQ at h
  split at h<;>try (cases h;done)
  all_goals (rename_i heq;first|(cases heq;cases h;rfl)|(cases heq;done))
 | .str,cs,r,h=>by
  unfold xQ at h
  split at h<;>try (cases h;done)
  all_goals (rename_i heq;first|(cases heq;split at h<;>first|(rename_i hk;have:=vv hk;subst this;cases h;rfl)|cases h)|(cases heq;done))
 | .err,cs,r,h=>by
  unfold xQ at h
  split at h<;>try (cases h;done)
  all_goals (rename_i heq;first|(cases heq;cases h;rfl)|(cases heq;done))
 | .sl e,cs,r,h=>by
  unfold xQ at h
  split at h<;>try (cases h;done)
  all_goals (rename_i heq;first|(cases heq;cases h;rfl)|(cases heq;done))
 | .mp _ _,cs,r,h=>by
  unfold xQ at h
  split at h<;>try (cases h;done)
  all_goals (rename_i heq;first|(cases heq;cases h;rfl)|(cases heq;done))
 | .fcell _ _ _,cs,r,h=>by
  unfold xQ at h
  split at h<;>try (cases h;done)
  all_goals (rename_i heq;first|(cases heq;cases h;rfl)|(cases heq;done))
 | .st k,cs,r,h=>qU (K:=k) h
 | .raw k,cs,r,h=>qU (K:=k) h
 | .pair a b,cs,r,h=>by
  have h':(match xQ a cs with|some r=>xQ b r|none=>none)=some r:=h;cases ha:xQ a cs with
  |none=>rw[ha]at h';cases h'
  |some r1=>
   rw[ha]at h';rw[qU ha,qU (K:=b) h']
   simp[Kd.zc]
theorem Kd.np_ok {K:Kd}(h:K.np=true):∀a b,K≠ .pair a b:=by
 intro a b e;subst e;cases h
def pU (ty:List (Nat×Kd))(t:Nat)(K:Kd):Bool:=match au ty t with|some k'=>k'.beq K|none=>false
theorem fg {ty:List (Nat×Kd)}{t:Nat}{K:Kd}(h:pU ty t K=true):au ty t=some K:=by
 unfold pU at h
 split at h
 ·rename_i k' hk'
  have:=Kd.eq_of_beq h;subst this;exact hk'
 ·cases h
def oY:Value->Bool
 | .agg _=>true
 |_=>false
def cB (ty:List (Nat×Kd)):List Field->Nat->Kd->Bool
 |[f],off,k=>KA f.offset off&&pU ty f.type k&&k.np
 |f::g::r,off,.pair a b=>KA f.offset off&&pU ty f.type a&&a.np&&cB ty (g::r) (off+a.size) b
 |_,_,_=>false
def GO:Kd->Bool
 | .int _=>true
 | .str=>true
 |_=>false
def fT (ty:List (Nat×Kd)):Kd->TypeDesc->Bool
 | .int k,.int l=>BU k l
 | .bool,.bool=>true
 | .str,.string=>true
 | .err,.interface _=>true
 | .sl e,.slice t'=>(pU ty t' e&&e.np)
 | .st k,.struct fs=>cB ty fs.toList 0 k
 | .raw _,.struct _=>true
 | .mp k e,.map tk te=>GO k&&pU ty tk k&&pU ty te e&&e.np
 | .fcell _ _ _,.func ..=>true
 |_,_=>false
theorem y8 {ty:List (Nat×Kd)}{k:IntKind}{d:TypeDesc}(h:fT ty (.int k) d=true):d= .int k:=by
 cases d<;>first|(simp[fT]at h;done)|rw[qv h]
theorem vx {ty:List (Nat×Kd)}{d:TypeDesc}(h:fT ty .bool d=true):d= .bool:=by
 cases d<;>first|rfl|(simp[fT]at h;done)
theorem y9 {ty:List (Nat×Kd)}{d:TypeDesc}(h:fT ty .str d=true):d= .string:=by
 cases d<;>first|rfl|(simp[fT]at h;done)
theorem ya {ty:List (Nat×Kd)}{d:TypeDesc}(h:fT ty .err d=true):∃ms,d= .interface ms:=by
 cases d<;>first|exact⟨_,rfl⟩|(simp[fT]at h;done)
theorem AY {ty:List (Nat×Kd)}{e:Kd}{d:TypeDesc}(h:fT ty (.sl e) d=true):∃t',d= .slice t'/\au ty t'=some e:=by
 cases d
 case slice t'=>
  simp only[fT,Jm]at h;exact⟨t',rfl,fg h.1⟩
 all_goals (simp[fT]at h;done)
theorem AZ {ty:List (Nat×Kd)}{k:Kd}{d:TypeDesc}(h:fT ty (.st k) d=true):∃fs,d= .struct fs/\cB ty fs.toList 0 k=true:=by
 cases d
 case struct fs=>exact⟨fs,rfl,h⟩
 all_goals (simp[fT]at h;done)
def uf (P:Program)(ty:List (Nat×Kd))(q:Nat×Kd):Bool:=match P.info? q.1,P.underlying q.1 with
 |some i,some d=>KA i.size q.2.size&&NW i.bytes 4096&&
  (match i.zero with|some z=>(match xQ q.2 z.cells.toList with|some []=>oY z==q.2.agg|_=>false)|none=>false)&&
  fT ty q.2 d
 |_,_=>false
def TysOk (P:Program)(ty:List (Nat×Kd)):Prop:=ty.all (uf P ty)=true
theorem o5 {α:Type}:∀{l:List (Nat×α)} {n:Nat} {x:α},au l n=some x->(n,x)∈l
 |[],_,_,h=>by cases h
 |(i,y)::l,n,x,h=>by
  unfold au at h
  split at h
  ·rename_i hb
   have:=JM hb;subst this;cases h;exact JA
  ·exact JE _ (o5 h)
theorem B0 {ty:List (Nat×Kd)}{k e:Kd}{d:TypeDesc}(h:fT ty (.mp k e) d=true):∃tk te,d= .map tk te/\GO k=true/\au ty tk=some k/\au ty te=some e:=by
 cases d
 case map tk te=>
  simp only[fT,Jm]at h;exact⟨tk,te,rfl,h.1.1.1,fg h.1.1.2,fg h.1.2⟩
 all_goals (simp[fT]at h;done)
theorem ug {ty:List (Nat×Kd)}{f:Nat}{a b:Kd}{d:TypeDesc}(h:fT ty (.fcell f a b) d=true):∃ps rs v,d= .func ps rs v:=by
 cases d
 case func ps rs v=>exact⟨ps,rs,v,rfl⟩
 all_goals (simp[fT]at h;done)
structure TyOk (P:Program) (ty:List (Nat×Kd)) (t:Nat) (K:Kd):Prop where
 info:∃i z,P.info? t=some i/\i.size=K.size/\i.bytes<=4096/\i.zero=some z/\z.cells=K.zc.toArray/\z=K.val K.zc
 int:∀k,K= .int k->P.underlying t=some (.int k)
 bool:K= .bool->P.underlying t=some .bool
 str:K= .str->P.underlying t=some .string
 sl:∀e,K= .sl e->∃t',P.underlying t=some (.slice t')/\au ty t'=some e
 st:∀k,K= .st k->∃fs,P.underlying t=some (.struct fs)/\cB ty fs.toList 0 k=true
 np:∀a b,K≠ .pair a b
 err:K= .err->∃ms,P.underlying t=some (.interface ms)
 raw:∀k,K= .raw k->∃fs,P.underlying t=some (.struct fs)
 mp:∀k e,K= .mp k e->∃tk te,P.underlying t=some (.map tk te)/\GO k=true/\au ty tk=some k/\au ty te=some e
 fcell:∀f a b,K= .fcell f a b->∃ps rs v,P.underlying t=some (.func ps rs v)
theorem uh {v:Value}(h:oY v=true):v= .agg v.cells:=by
 cases v<;>first|rfl|cases h
theorem oZ {v:Value}(h:oY v=false):v.cells= #[v]:=by
 cases v<;>first|rfl|cases h
theorem TysOk.get {P:Program}{ty:List (Nat×Kd)}(h:TysOk P ty){t:Nat}{K:Kd}(hl:au ty t=some K):TyOk P ty t K:=by
 have h1:=List.all_eq_true.1 h _ (o5 hl);unfold uf at h1;dsimp only at h1
 split at h1
 ·rename_i i d hi hd
  simp only[Jm]at h1;obtain⟨⟨⟨h2,h3⟩,h4⟩,h5⟩:=h1;have hsz:=JM h2;have hby:=JV h3
  split at h4
  ·rename_i z hz
   split at h4
   ·rename_i hzz
    have hcells:=qU hzz;simp only[List.append_nil]at hcells;have hagg:oY z=K.agg:=by simpa using h4
    have hc2:z.cells=K.zc.toArray:=by rw[← hcells]
    have hval:z=K.val K.zc:=by
     unfold Kd.val;cases hA:K.agg with
     |true=>
      rw[hA]at hagg;rw[ab rfl,← hc2];exact uh hagg
     |false=>
      rw[hA]at hagg;rw[ao (by simp)];have:=oZ hagg;rw[← hcells,this]
      rfl
    refine⟨⟨i,z,hi,hsz,hby,hz,hc2,hval⟩,?_,?_,?_,?_,?_,?_,?_,?_,?_,?_⟩
    ·rintro k rfl;rw[hd,y8 h5]
    ·rintro rfl;rw[hd,vx h5]
    ·rintro rfl;rw[hd,y9 h5]
    ·rintro e rfl;obtain⟨t',h6,h7⟩:=AY h5;exact⟨t',by rw[hd,h6],h7⟩
    ·rintro k rfl;obtain⟨fs,h6,h7⟩:=AZ h5;exact⟨fs,by rw[hd,h6],h7⟩
    ·rintro a b rfl;cases d<;>(simp[fT]at h5;done)
    ·rintro rfl;obtain⟨ms,h6⟩:=ya h5;exact⟨ms,by rw[hd,h6]⟩
    ·rintro k rfl;rw[hd];cases d<;>first|exact⟨_,rfl⟩|(simp[fT]at h5;done)
    ·rintro k e rfl;obtain⟨tk,te,h6,h7⟩:=B0 h5;exact⟨tk,te,by rw[hd,h6],h7⟩
    ·rintro f a b rfl;obtain⟨ps,rs,v,h6⟩:=ug h5;exact⟨ps,rs,v,by rw[hd,h6]⟩
   ·cases h4
  ·cases h4
 ·cases h1
theorem TyOk.size {P:Program}{ty:List (Nat×Kd)}{t:Nat}{K:Kd}(h:TyOk P ty t K)(w:World):(sizeOf t).run P w= .ok K.size w:=by
 obtain⟨i,z,h1,h2,_⟩:=h.info;simp only[sizeOf,typeInfo,JC,run_program,Js,h1,JP,h2]
theorem TyOk.isAgg {P:Program}{ty:List (Nat×Kd)}{t:Nat}{K:Kd}(h:TyOk P ty t K)(w:World):(Go.isAgg t).run P w= .ok K.agg w:=by
 unfold Go.isAgg;rw[JC];cases K with
 |int k=>rw[run_underlying (h.int k rfl)];rfl
 |bool=>rw[run_underlying (h.bool rfl)];rfl
 |str=>rw[run_underlying (h.str rfl)];rfl
 |err=>obtain⟨ms,h1⟩:=h.err rfl;rw[run_underlying h1];rfl
 |sl e=>obtain⟨t',h1,_⟩:=h.sl e rfl;rw[run_underlying h1];rfl
 |st k=>obtain⟨fs,h1,_⟩:=h.st k rfl;rw[run_underlying h1];rfl
 |pair a b=>exact bJ rfl (h.np a b)
 |raw k=>obtain⟨fs,h1⟩:=h.raw k rfl;rw[run_underlying h1];rfl
 |mp k e=>obtain⟨tk,te,h1,_⟩:=h.mp k e rfl;rw[run_underlying h1];rfl
 |fcell f a b=>obtain⟨ps,rs,v,h1⟩:=h.fcell f a b rfl;rw[run_underlying h1];rfl
theorem TyOk.zero {P:Program}{ty:List (Nat×Kd)}{t:Nat}{K:Kd}(h:TyOk P ty t K)(w:World):∃z,(zeroValue t).run P w= .ok z w/\z.cells=K.zc.toArray/\z=K.val K.zc:=by
 obtain⟨i,z,h1,_,_,h2,h3,h4⟩:=h.info;exact⟨z,by simp only[zeroValue,typeInfo,JC,run_program,Js,h1,JP,h2],h3,h4⟩
theorem ey {c:fS}{t:Nat}{K:Kd}(hty:TysOk c.P c.ty)(h:eS c t K=true):TyOk c.P c.ty t K/\au c.ty t=some K:=by
 unfold eS at h
 split at h
 ·rename_i K' hl
  have:=Kd.eq_of_beq h;subst this;exact⟨hty.get hl,hl⟩
 ·cases h
theorem fU (b o n:Nat):(⟨b,o,none⟩:Addr).add n=⟨b,o+n,none⟩:=by
 unfold Addr.add
 split
 ·rename_i h;subst h;rfl
 ·rfl
theorem ix {P:Program}{ty:List (Nat×Kd)}{t:Nat}{K:Kd}(h:TyOk P ty t K){w:World}{b o:Nat}{cs:List Value}(hl:cs.length=K.size)(hc:CellsAt w b o cs):
  (loadVar t ⟨b,o,none⟩).run P w= .ok (K.val cs) w:=by
 unfold loadVar;rw[JC,h.isAgg,Js];unfold Kd.val;cases hA:K.agg with
 |true=>
  simp only[if_true,JC,h.size,Js];rw[← hl,run_loadCells_list (P:=P) w ⟨b,o,none⟩ cs (λj v hj=>by
   rw[fU];obtain⟨hlt,hv⟩:=JU.1 hj;rw[hc j hlt,hv])]
  rfl
 |false=>
  have h1:cs.length=1:=by
   rw[hl];cases K with
   |st k=>cases hA
   |raw k=>cases hA
   |pair a b=>exact bJ rfl (h.np a b)
   |_=>rfl
  have h0:=hc 0 (by omega);obtain⟨v,rfl⟩:=My.1 h1;simp only[NL,KH]at h0;simp only[if_false,Jt,run_load,h0]
  rfl
def Env.views (e:Env)(o:Oper):List bF:=(Oper.opds o).map λx=>e.view (e.opd x)
structure cf (c:fS):Prop where
 ty:TysOk c.P c.ty
theorem yb (e:Env)(l:List Cap):(l.map e.cap).map CapV.un=l:=by
 rw[List.map_map]
 conv=>rhs;rw[← List.map_id l]
 refine List.map_congr_left λc _=>?_
 cases c<;>rfl
theorem C3 (e:Env){s:Slot}(h:∀f fs l,s≠ .fvr f fs l):(e.view s).1.unv=s:=by
 cases s with
 |fv f fs l=>show Slot.fv f fs _=_;rw[yb]
 |fvr f fs l=>exact bJ rfl (h f fs l)
 |_=>rfl
theorem cj {e:Env}{o:Oper}{x:Operand}{v:bF}(h:e.views o=[v])(ho:o.op.operands= #[x]):e.view (e.opd x)=v:=by
 simp only[Env.views,Oper.opds,ho,Jy,Kz,Ky,and_true]at h;exact h
theorem eK {e:Env}{o:Oper}{x y:Operand}{v u:bF}(h:e.views o=[v,u])(ho:o.op.operands= #[x,y]):e.view (e.opd x)=v/\e.view (e.opd y)=u:=by
 simp only[Env.views,Oper.opds,ho,Jy,Kz,Ky,and_true]at h;exact h
theorem mB {e:Env}{o:Oper}{x y z:Operand}{v u s:bF}(h:e.views o=[v,u,s])(ho:o.op.operands= #[x,y,z]):e.view (e.opd x)=v/\e.view (e.opd y)=u/\e.view (e.opd z)=s:=by
 simp only[Env.views,Oper.opds,ho,Jy,Kz,Ky,and_true]at h;exact h
theorem aH {P:Program}{B:Base}{nt:Nat}{e:Env}{a:Act}{w:World}{g:Gh}(h:InvG P B nt e a w g){x:Operand}{s:Slot}{q:Option Obj}(hv:e.view (e.opd x)=(s,q)):
  SlotRep P g w e.obj s.unv (a.eval x):=by
 have h0:=Inv.eval h x
 by_cases hf:∀f fs l,e.opd x≠ .fvr f fs l
 ·have h1:s.unv=e.opd x:=by rw[← C3 e hf,hv]
  rw[h1];exact h0
 ·simp only[Classical.not_forall,Classical.not_not]at hf
  obtain⟨f,fs,l,hf⟩:=hf;rw[hf]at h0;exact h0.elim
theorem jn {e:Env}{x:Operand}{id n:Nat}{p:bI}{o:Obj}(hv:e.view (e.opd x)=(.al id n p,some o)):e.obj id=some (some o):=by
 have h1:e.opd x= .al id n p:=by
  have h2:=congrArg Prod.fst hv
  cases hs:e.opd x<;>rw[hs]at h2<;>first|exact h2|cases h2
 rw[h1]at hv;simp only[Env.view,JH,true_and]at hv;cases ho:e.obj id with
 |none=>rw[ho]at hv;cases hv
 |some q=>rw[ho]at hv;simp at hv;rw[hv]
theorem gN {e:Env}{x:Operand}{id n:Nat}{p:bI}{o:Obj}(hv:e.view (e.opd x)=(.pt id n p,some o)):e.obj id=some (some o):=by
 have h1:e.opd x= .pt id n p:=by
  have h2:=congrArg Prod.fst hv
  cases hs:e.opd x<;>rw[hs]at h2<;>first|exact h2|cases h2
 rw[h1]at hv;simp only[Env.view,JH,true_and]at hv;cases ho:e.obj id with
 |none=>rw[ho]at hv;cases hv
 |some q=>rw[ho]at hv;simp at hv;rw[hv]
theorem jT {P:Program}{B:Base}{nt:Nat}{e:Env}{a:Act}{w:World}{g:Gh}(h:InvG P B nt e a w g){x:Operand}{id n:Nat}{p:bI}{o:Obj}
  (hv:e.view (e.opd x)=(.al id n p,some o)) (hh:bK o=true) (hk:fu o n p=true):
  ∃q cs' K' m' x' F',aS o.K o.m o.x p=some ⟨K',m',x'⟩/\ck w p o.K (g.pl id) (g.cs id)=some (q,cs')/\VRep K' cs' (a.eval x)/\
   Focus g.S w p o.K o.m o.x (g.cs id) (g.F id) (g.pl id) K' m' x' cs' q F':=by
 have hr:=aH h hv;have ho:=jn hv;have hhl:o.hl=none:=by unfold bK at hh;split at hh<;>first|assumption|cases hh
 obtain⟨_,h2⟩:=hr;obtain⟨q,cs',K',m',x',h3,h4,h5⟩:=h2 o ho hk (.inl hhl);obtain⟨h6,h7⟩:=(h.objs id o ho).own hhl;obtain⟨F',f⟩:=ns p h3 h4 h6 h7 (λb off e1=>(h.plz id b off e1).2.2.1 id);exact⟨q,cs',K',m',x',F',h3,h4,h5,f⟩
theorem qV {P:Program}{B:Base}{nt:Nat}{e:Env}{a:Act}{w:World}{g:Gh}(h:InvG P B nt e a w g){x:Operand}{id n:Nat}{p:bI}{o:Obj}
  (hv:e.view (e.opd x)=(.pt id n p,some o)) (hh:bK o=true) (hk:gy o n p=true):
  ∃b off cs' K' m' x' F',aS o.K o.m o.x p=some ⟨K',m',x'⟩/\ck w p o.K (g.pl id) (g.cs id)=some (some (b,off),cs')/\a.eval x= .pointer (some ⟨b,off,none⟩)/\
   Focus g.S w p o.K o.m o.x (g.cs id) (g.F id) (g.pl id) K' m' x' cs' (some (b,off)) F':=by
 have hr:=aH h hv;have ho:=gN hv;have hhl:o.hl=none:=by unfold bK at hh;split at hh<;>first|assumption|cases hh
 obtain⟨_,h2⟩:=hr;obtain⟨b,off,cs',K',m',x',h3,h4,h5⟩:=h2 o ho hk (.inl hhl);obtain⟨h6,h7⟩:=(h.objs id o ho).own hhl;obtain⟨F',f⟩:=ns p h3 h4 h6 h7 (λb off e1=>(h.plz id b off e1).2.2.1 id);exact⟨b,off,cs',K',m',x',F',h3,h4,h5,f⟩
theorem ui {P:Program}{B:Base}{nt:Nat}{e:Env}{a:Act}{w:World}{g:Gh}(h:InvG P B nt e a w g){x:Operand}{v:bF}{q:KV}
  (hv:e.view (e.opd x)=v) (hr:E8 v=some q):∃cs,RO (λb=>b<w.heap.size) w q.1 q.2 cs/\VRep q.1 cs (a.eval x):=by
 unfold E8 at hr
 split at hr
 ·rename_i K x' _
  simp only[Jq]at hr;subst hr;obtain⟨cs,h1,h2⟩:=aH h hv;exact⟨cs,h1.mono (λb hb=>h.Ssz b hb) (λ_ _ _ _ h=>h),h2⟩
 ·rename_i id n p o
  split at hr
  ·rename_i hc
   rw[Jm]at hc;obtain⟨pl,cs',K',m',x',F',h1,h2,h3,f⟩:=jT h hv hc.1 hc.2;rw[h1]at hr;simp only[Jq]at hr;subst hr;exact⟨cs',Own.toRO (λb hb=>h.Ssz b hb) (λb hb=>h.Fsz id b (f.sub b hb)) f.own,h3⟩
  ·cases hr
 ·cases hr
section
variable {c:fS} {B:Base} {nt:Nat} {o:Oper} {Ω:Type} {k:bW->Option Ω} {out:Ω} {fr:Bool}
def cc (c:fS)(B:Base)(nt:Nat)(o:Oper)(vs:List bF)(fr:Bool)(k:bW->Option Ω)(out:Ω):Prop:=
 ∃d,k d=some out/\∀e:Env,(e.views o=vs/\fresh e o.dst=fr)->lr c.P B nt o e (e.apply d)
theorem qx {x:Operand}{v:bF}(ho:o.op= .move x\/o.op= .assign x)(h:cz nt o.dst v.1.unv k=some out):cc c B nt o [v] fr k out:=by
 refine ba h λe he a w g hg=>⟨a.eval x,?_,?_⟩
 ·rcases ho with ho|ho<;>simp only[execOp,ho]<;>rfl
 ·have h1:e.view (e.opd x)=v:=cj he.1 (by rcases ho with ho|ho<;>rw[ho]<;>rfl)
  exact aH hg (s:=v.1) (q:=v.2) h1
theorem E9 {x y z:Operand}{b:Bool}{q:Option Obj}{v u:bF}(ho:o.op= .pick x y z)
  (h:(if b=true then cz nt o.dst v.1.unv k else cz nt o.dst u.1.unv k)=some out):cc c B nt o [(.v .bool b,q),v,u] fr k out:=by
 have hrun:∀(e:Env),e.views o=[(.v .bool b,q),v,u]->∀a w g,InvG c.P B nt e a w g->(execOp a.eval o).run c.P w= .ok (.value (if b then a.eval y else a.eval z)) w:=by
  intro e he a w g hg;obtain⟨h1,h2,h3⟩:=mB he (by rw[ho];rfl);obtain⟨cs,r1,r2⟩:=aH hg h1;rw[show cs=[.bool b]from r1]at r2;have r3:a.eval x= .bool b:=r2.1;simp only[execOp,ho,r3,asBool];cases b<;>rfl
 cases b with
 |true=>
  refine ba (s:=v.1.unv) h λe he a w g hg=>⟨_,hrun e he.1 a w g hg,?_⟩
  obtain⟨h1,h2,h3⟩:=mB he.1 (by rw[ho];rfl);exact aH hg (s:=v.1) (q:=v.2) h2
 |false=>
  refine ba (s:=u.1.unv) h λe he a w g hg=>⟨_,hrun e he.1 a w g hg,?_⟩
  obtain⟨h1,h2,h3⟩:=mB he.1 (by rw[ho];rfl);exact aH hg (s:=u.1) (q:=u.2) h3
theorem eL {P:Program}{g:Gh}{w:World}{ob:Nat->Option (Option Obj)}{i:IntKind}{n:Int}{v:Value}(h:SlotRep P g w ob (.v (.int i) n) v):v= .int i n:=by
 obtain⟨cs,r1,r2⟩:=h;rw[show cs=[.int i n]from r1]at r2;exact r2.1
theorem qW {P:Program}{g:Gh}{w:World}{ob:Nat->Option (Option Obj)}{b:Bool}{v:Value}(h:SlotRep P g w ob (.v .bool b) v):v= .bool b:=by
 obtain⟨cs,r1,r2⟩:=h;rw[show cs=[.bool b]from r1]at r2;exact r2.1
theorem uj {P:Program}{g:Gh}{w:World}{ob:Nat->Option (Option Obj)}{s:ByteArray}{v:Value}(h:SlotRep P g w ob (.v .str s) v):v= .string s:=by
 obtain⟨cs,r1,r2⟩:=h;rw[show cs=[.string s]from r1]at r2;exact r2.1
theorem j7 (P:Program)(g:Gh)(w:World)(ob:Nat->Option (Option Obj))(i:IntKind)(n:Int):SlotRep P g w ob (.v (.int i) n) (.int i n):=⟨_,rfl,rfl,rfl⟩
theorem fH (P:Program)(g:Gh)(w:World)(ob:Nat->Option (Option Obj))(b:Bool):SlotRep P g w ob (.v .bool b) (.bool b):=⟨_,rfl,rfl,rfl⟩
theorem nI (P:Program)(g:Gh)(w:World)(ob:Nat->Option (Option Obj))(s:ByteArray):SlotRep P g w ob (.v .str s) (.string s):=⟨_,rfl,rfl,rfl⟩
theorem qY {P:Program}{w:World}(op:BinOp)(t:Nat)(x y:Operand){a b:Value}(ha:oY a=false)(hb:a≠ .nilIface):(eqGuard op t x y a b).run P w= .ok () w:=by
 cases op<;>first|rfl|(cases a<;>first|rfl|(exact bJ rfl hb)|cases ha)
theorem Ea {op:BinOp}{t t2:Nat}{x y:Operand}{i:IntKind}{m n:Int}{r:KV}{q1 q2:Option Obj}(ho:o.op= .binOp op t x y t2)(hr:GI op i m n=some r)
  (h:cz nt o.dst (.v r.1 r.2) k=some out):cc c B nt o [(.v (.int i) m,q1),(.v (.int i) n,q2)] fr k out:=by
 refine ba h λe he a w g hg=>?_
 obtain⟨h1,h2⟩:=eK he.1 (by rw[ho];rfl);have e1:=eL (aH hg h1);have e2:=eL (aH hg h2);have hg0:(eqGuard op t x y (.int i m) (.int i n)).run c.P w= .ok () w:=qY op t x y rfl (by simp);have hrun:(execOp a.eval o).run c.P w=((binOp op t (.int i m) (.int i n)).run c.P w).andThen λv w'=>.ok (.value v) w':=by
  simp only[execOp,ho,e1,e2,JC,hg0,Js]
  rfl
 rw[hrun];cases op<;>simp only[GI,Jq,reduceCtorEq]at hr<;>subst hr<;>simp only[binOp,ne_eq,not_true_eq_false,if_false,Op.intArith,Op.intCmp,JP,Js]
 case add|sub|mul=>exact⟨_,rfl,j7 _ _ _ _ _ _⟩
 case eql=>exact⟨_,rfl,fH _ _ _ _ _⟩
 case neq=>exact⟨_,rfl,fH _ _ _ _ _⟩
 all_goals exact⟨_,rfl,fH _ _ _ _ _⟩
end
section
variable {c:fS} {B:Base} {nt:Nat} {o:Oper} {Ω:Type} {k:bW->Option Ω} {out:Ω} {fr:Bool}
theorem o6 {e:Env}{a:Act}{w:World}{P:Program}{op:BinOp}{t t2:Nat}{x y:Operand}{u v:Value}(ho:o.op= .binOp op t x y t2)(e1:a.eval x=u)(e2:a.eval y=v)
  (ha:oY u=false) (hb:u≠ .nilIface):(execOp a.eval o).run P w=((binOp op t u v).run P w).andThen λv w'=>.ok (.value v) w':=by
 have hg0:(eqGuard op t x y u v).run P w= .ok () w:=qY op t x y ha hb;simp only[execOp,ho,e1,e2,JC,hg0,Js]
 rfl
theorem zF {op:BinOp}{t t2:Nat}{x y:Operand}{i:IntKind}{m n:Int}{q1 q2:Option Obj}(ho:o.op= .binOp op t x y t2)
  (h:xW op i m n (λr=>cz nt o.dst (.v r.1 r.2) k)=some out):cc c B nt o [(.v (.int i) m,q1),(.v (.int i) n,q2)] fr k out:=by
 have key:n≠0/\((op= .quo/\cz nt o.dst (.v (.int i) (i.wrap (m.tdiv n))) k=some out)\/(op= .rem/\cz nt o.dst (.v (.int i) (m.tmod n)) k=some out)):=by
  unfold xW at h
  cases op<;>first|(cases h;done)|skip
  all_goals
   dsimp only at h
   split at h
   ·cases h
   ·rename_i hn
    first|exact⟨hn,.inl ⟨rfl,h⟩⟩|exact⟨hn,.inr ⟨rfl,h⟩⟩
 obtain⟨hn,h1⟩:=key;rcases h1 with⟨rfl,h1⟩|⟨rfl,h1⟩<;>refine ba h1 λe he a w g hg=>?_<;>obtain⟨v1,v2⟩:=eK he.1 (by rw[ho];rfl)<;>
  rw[o6 (e:=e) ho (eL (aH hg v1)) (eL (aH hg v2)) rfl (by simp)]<;>
  simp only[binOp,ne_eq,not_true_eq_false,if_false,Op.intDiv,ao hn,JP,Js]<;>exact⟨_,rfl,j7 _ _ _ _ _ _⟩
theorem GP:((aU:Nat):Int)<Jh.max:=by decide
theorem Eb {op:BinOp}{t t2:Nat}{x y:Operand}{m n:ByteArray}{q1 q2:Option Obj}(ho:o.op= .binOp op t x y t2)
  (h:AS op m n (λr=>cz nt o.dst (.v r.1 r.2) k)=some out):cc c B nt o [(.v .str m,q1),(.v .str n,q2)] fr k out:=by
 have run:∀(e:Env),e.views o=[(.v .str m,q1),(.v .str n,q2)]->∀a w g,InvG c.P B nt e a w g->(execOp a.eval o).run c.P w=((Op.stringOp op m n).run c.P w).andThen λv w'=>.ok (.value v) w':=by
  intro e he a w g hg;obtain⟨v1,v2⟩:=eK he (by rw[ho];rfl);rw[o6 (e:=e) ho (uj (aH hg v1)) (uj (aH hg v2)) rfl (by simp)];cases op<;>rfl
 cases op<;>first|(cases h;done)|skip
 case add=>
  simp only[AS]at h
  split at h
  ·rename_i hl
   refine ba h λe he a w g hg=>?_
   rw[run e he.1 a w g hg];have:¬(((m.size+n.size:Nat):Int)>Jh.max):=by have:=GP;omega
   simp only[Op.stringOp,Of,ao this,JP,Js];exact⟨_,rfl,nI _ _ _ _ _⟩
  ·cases h
 all_goals
  refine ba h λe he a w g hg=>?_
  rw[run e he.1 a w g hg];exact⟨_,rfl,fH _ _ _ _ _⟩
theorem vy {op:BinOp}{t t2:Nat}{x y:Operand}{i j:IntKind}{m n:Int}{q1 q2:Option Obj}(ho:o.op= .binOp op t x y t2)
  (h:nH op i m n (λr=>cz nt o.dst (.v r.1 r.2) k)=some out):cc c B nt o [(.v (.int i) m,q1),(.v (.int j) n,q2)] fr k out:=by
 unfold nH at h
 split at h
 ·cases h
 ·rename_i hn
  cases op<;>first|(cases h;done)|skip
  all_goals
   refine ba h λe he a w g hg=>?_
   obtain⟨v1,v2⟩:=eK he.1 (by rw[ho];rfl);rw[o6 (e:=e) ho (eL (aH hg v1)) (eL (aH hg v2)) rfl (by simp)];simp only[binOp,Op.shift,ao hn,JP,Js];exact⟨_,rfl,j7 _ _ _ _ _ _⟩
theorem uk {P:Program}{w:World}{t:Nat}{m n:Bool}(hu:P.underlying t=some .bool)(d:Nat):(MI (d+1) t (.bool m) (.bool n)).run P w= .ok (m==n) w:=by
 simp only[MI,JC,run_underlying hu,Js]
 rfl
theorem zG {op:BinOp}{t t2:Nat}{x y:Operand}{m n:Bool}{r:Bool}{q1 q2:Option Obj}(hc:cf c)(ho:o.op= .binOp op t x y t2)(ht:au c.ty t=some .bool)
  (hr:(op= .eql/\r=(m==n))\/(op= .neq/\r= !(m==n))) (h:cz nt o.dst (.v .bool r) k=some out):cc c B nt o [(.v .bool m,q1),(.v .bool n,q2)] fr k out:=by
 have hu:c.P.underlying t=some .bool:=(hc.ty.get ht).bool rfl;refine ba h λe he a w g hg=>?_
 obtain⟨v1,v2⟩:=eK he.1 (by rw[ho];rfl);rw[o6 (e:=e) ho (qW (aH hg v1)) (qW (aH hg v2)) rfl (by simp)];have heq:(Op.equal t (.bool m) (.bool n)).run c.P w= .ok (m==n) w:=uk hu 9999;rcases hr with⟨rfl,rfl⟩|⟨rfl,rfl⟩
 ·have:(binOp .eql t (.bool m) (.bool n)).run c.P w= .ok (.bool (m==n)) w:=by
   simp only[binOp,JC,heq,Js];rfl
  rw[this];exact⟨_,rfl,fH _ _ _ _ _⟩
 ·have:(binOp .neq t (.bool m) (.bool n)).run c.P w= .ok (.bool (!(m==n))) w:=by
   simp only[binOp,JC,heq,Js];rfl
  rw[this];exact⟨_,rfl,fH _ _ _ _ _⟩
theorem Ec {P:Program}{w:World}{t:Nat}{ms:Array (String×TypeId)}{m n:Bool}{x y:Value}(hu:P.underlying t=some (.interface ms))(hx:vl m x)(hy:vl n y)(hz:(m&&n)=false)(d:Nat):(MI (d+1) t x y).run P w= .ok (m==n) w:=by
 rcases hx with⟨rfl,rfl⟩|⟨rfl,a,b,rfl⟩<;>rcases hy with⟨rfl,rfl⟩|⟨rfl,c,d,rfl⟩
 ·simp only[MI,JC,run_underlying hu,Js];rfl
 ·simp only[MI,JC,run_underlying hu,Js];rfl
 ·simp only[MI,JC,run_underlying hu,Js];rfl
 ·cases hz
theorem vz {P:Program}{w:World}{op:BinOp}{t:Nat}{x y:Operand}{m n:Bool}{a b:Value}(hx:vl m a)(hy:vl n b)(hc:(pQ x||pQ y)=true):(eqGuard op t x y a b).run P w= .ok () w:=by
 rcases hx with⟨rfl,rfl⟩|⟨rfl,_,_,rfl⟩<;>rcases hy with⟨rfl,rfl⟩|⟨rfl,_,_,rfl⟩<;>first|(cases op<;>rfl)|skip;rw[KY]at hc;rcases hc with hc|hc
 ·cases x<;>first|(cases op<;>rfl)|cases hc
 ·cases y<;>first|(cases x<;>cases op<;>rfl)|cases hc
theorem zH {op:BinOp}{t t2:Nat}{x y:Operand}{m n:Bool}{r:Bool}{q1 q2:Option Obj}(hc:cf c)(ho:o.op= .binOp op t x y t2)(ht:au c.ty t=some .err)(hz:(m&&n)=false)(hcs:(pQ x||pQ y)=true)
  (hr:(op= .eql/\r=(m==n))\/(op= .neq/\r= !(m==n))) (h:cz nt o.dst (.v .bool r) k=some out):cc c B nt o [(.v .err m,q1),(.v .err n,q2)] fr k out:=by
 obtain⟨ms,hu⟩:=(hc.ty.get ht).err rfl;refine ba h λe he a w g hg=>?_
 obtain⟨v1,v2⟩:=eK he.1 (by rw[ho];rfl);obtain⟨c1,⟨x1,rfl,hx⟩,hv1,_⟩:=aH hg v1;obtain⟨c2,⟨x2,rfl,hy⟩,hv2,_⟩:=aH hg v2;have hv1:a.eval x=x1:=hv1;have hv2:a.eval y=x2:=hv2;have hg0:(eqGuard op t x y x1 x2).run c.P w= .ok () w:=vz hx hy hcs;have hrun:(execOp a.eval o).run c.P w=((binOp op t x1 x2).run c.P w).andThen λv w'=>.ok (.value v) w':=by
  simp only[execOp,ho,hv1,hv2,JC,hg0,Js]
  rfl
 rw[hrun];have heq:(Op.equal t x1 x2).run c.P w= .ok (m==n) w:=Ec (w:=w) hu hx hy hz 9999;rcases hr with⟨rfl,rfl⟩|⟨rfl,rfl⟩
 ·have:(binOp .eql t x1 x2).run c.P w= .ok (.bool (m==n)) w:=by
   rcases hx with⟨rfl,rfl⟩|⟨rfl,_,_,rfl⟩<;>simp only[binOp,JC,heq,Js]<;>rfl
  rw[this];exact⟨_,rfl,fH _ _ _ _ _⟩
 ·have:(binOp .neq t x1 x2).run c.P w= .ok (.bool (!(m==n))) w:=by
   rcases hx with⟨rfl,rfl⟩|⟨rfl,_,_,rfl⟩<;>simp only[binOp,JC,heq,Js]<;>rfl
  rw[this];exact⟨_,rfl,fH _ _ _ _ _⟩
theorem Ed {op:BinOp}{t t2:Nat}{x y:Operand}{K L:Kd}{m:K.T}{n:L.T}{q1 q2:Option Obj}(hc:cf c)(ho:o.op= .binOp op t x y t2)
  (h:AT c op t (pQ x||pQ y) ⟨K,m⟩ ⟨L,n⟩ (λr=>cz nt o.dst (.v r.1 r.2) k)=some out):cc c B nt o [(.v K m,q1),(.v L n,q2)] fr k out:=by
 unfold AT at h
 split at h
 ·rename_i k1 m1 l1 n1 e1 e2
  cases e1;cases e2
  split at h
  ·rename_i hk
   have:=qv hk;subst this
   split at h
   ·exact zF ho h
   ·exact zF ho h
   ·split at h
    ·rename_i r hr
     exact Ea ho hr h
    ·exact vy ho h
  ·exact vy ho h
 ·rename_i m1 n1 e1 e2
  cases e1;cases e2;exact Eb ho h
 ·rename_i m1 n1 e1 e2
  cases e1;cases e2
  split at h
  ·rename_i ht
   split at h
   ·exact zG hc ho ht (.inl ⟨rfl,rfl⟩) h
   ·exact zG hc ho ht (.inr ⟨rfl,rfl⟩) h
   ·cases h
  ·cases h
 ·rename_i m1 n1 e1 e2
  cases e1;cases e2
  split at h
  ·cases h
  ·rename_i hz
   have hz:=JK.2 hz
   split at h
   ·rename_i hcs ht
    split at h
    ·exact zH hc ho ht hz hcs (.inl ⟨rfl,rfl⟩) h
    ·exact zH hc ho ht hz hcs (.inr ⟨rfl,rfl⟩) h
    ·cases h
   ·cases h
 ·cases h
theorem GQ {x:Operand}{b:Bool}{t:Nat}{q:Option Obj}(ho:o.op= .unOp .not t x)(h:cz nt o.dst (.v .bool (!b)) k=some out):cc c B nt o [(.v .bool b,q)] fr k out:=by
 refine ba h λe he a w g hg=>⟨.bool (!b),?_,fH _ _ _ _ _⟩
 have e1:=qW (aH hg (cj he.1 (by rw[ho];rfl)));simp only[execOp,ho,e1];rfl
theorem GR {x:Operand}{i:IntKind}{n:Int}{t:Nat}{q:Option Obj}(ho:o.op= .unOp .neg t x)(h:cz nt o.dst (.v (.int i) (i.wrap (0 - n))) k=some out):cc c B nt o [(.v (.int i) n,q)] fr k out:=by
 refine ba h λe he a w g hg=>⟨.int i (i.wrap (0 - n)),?_,j7 _ _ _ _ _ _⟩
 have e1:=eL (aH hg (cj he.1 (by rw[ho];rfl)));simp only[execOp,ho,e1];rfl
theorem yc {x:Operand}{i j:IntKind}{n:Int}{s t:Nat}{q:Option Obj}(hc:cf c)(ho:o.op= .convert s t x)(hs:∃K,au c.ty s=some K)(ht:au c.ty t=some (.int i))(h:cz nt o.dst (.v (.int i) (i.wrap n)) k=some out):
  cc c B nt o [(.v (.int j) n,q)] fr k out:=by
 refine ba h λe he a w g hg=>⟨.int i (i.wrap n),?_,j7 _ _ _ _ _ _⟩
 have e1:=eL (aH hg (cj he.1 (by rw[ho];rfl)));have hu:=(hc.ty.get ht).int i rfl;obtain⟨K,hK⟩:=hs;have hsd:∃d,c.P.underlying s=some d:=by
  have hT:=hc.ty.get hK;cases K with
  |int k=>exact⟨_,hT.int k rfl⟩
  |bool=>exact⟨_,hT.bool rfl⟩
  |str=>exact⟨_,hT.str rfl⟩
  |err=>obtain⟨ms,h1⟩:=hT.err rfl;exact⟨_,h1⟩
  |mp k e=>obtain⟨tk,te,h1,_⟩:=hT.mp k e rfl;exact⟨_,h1⟩
  |fcell f a b=>obtain⟨ps,rs,v,h1⟩:=hT.fcell f a b rfl;exact⟨_,h1⟩
  |sl e=>obtain⟨t',h1,_⟩:=hT.sl e rfl;exact⟨_,h1⟩
  |st k=>obtain⟨fs,h1,_⟩:=hT.st k rfl;exact⟨_,h1⟩
  |pair a b=>exact bJ rfl (hT.np a b)
  |raw k=>obtain⟨fs,h1⟩:=hT.raw k rfl;exact⟨_,h1⟩
 obtain⟨d,hd⟩:=hsd;have:(convert s t (.int j n)).run c.P w= .ok (.int i (i.wrap n)) w:=by
  simp only[convert,JC,run_underlying hd,run_underlying hu,Js]
  rfl
 simp only[execOp,ho,e1,JC,this,Js]
 rfl
theorem pa {x:Operand}{v:bF}{xs:List Int}{s t:Nat}(hc:cf c)(ho:o.op= .convert s t x)(hv:E8 v=some ⟨.sl (.int .u8),xs⟩)(hs:au c.ty s=some (.sl (.int .u8)))(ht:au c.ty t=some .str)(h:cz nt o.dst (.v .str (qM xs)) k=some out):
  cc c B nt o [v] fr k out:=by
 refine ba h λe he a w g hg=>⟨.string (qM xs),?_,nI _ _ _ _ _⟩
 obtain⟨cs,r1,r2⟩:=ui hg (cj he.1 (x:=x) (by rw[ho];rfl)) hv;have hu:=(hc.ty.get ht).str rfl;obtain⟨t',hd,he'⟩:=(hc.ty.get hs).sl _ rfl;have hu8:=(hc.ty.get he').int _ rfl;obtain⟨A,cap,rfl,hl,hx⟩:=r1;have e1:a.eval x= .slice A (Je xs) cap:=r2.1;have key:(convert s t (.slice A (Je xs) cap)).run c.P w= .ok (.string (qM xs)) w:=by
  rw[run_convert_bytes_string w s t t' A _ _ hd hu8 hu];cases A with
  |none=>
   cases xs with
   |nil=>rfl
   |cons y ys=>
    obtain⟨b,o',vs,hA,_⟩:=hx 0 (by simp);cases hA
  |some ad=>
   refine run_bytesToString w ad _ cap xs ?_;have:=run_loadCells_list (P:=c.P) w ad (xs.map (Value.int .u8)) (λj v hj=>by
    rw[List.getElem?_map,Option.map_eq_some_iff]at hj;obtain⟨n,hn,rfl⟩:=hj;obtain⟨hlt,hn⟩:=JU.1 hn;obtain⟨b,o',vs,hA,_,hcells,hro⟩:=hx j hlt;cases hA;rw[fU];have hro:vs=[.int .u8 xs[j]]:=hro;subst hro;have:=hcells 0 (by simp);simp only[Kd.size,Nat.mul_one,KH,NL]at this;rw[this,hn])
   rw[List.length_map]at this;exact this
 simp only[execOp,ho,e1,JC,key,Js]
 rfl
theorem RO.part {S:Nat->Prop}{w:World}:∀(p:bI) {K:Kd} {x:K.T} {cs:List Value} {K':Kd} {m':Md} {x':K'.T},aS K .ro x p=some ⟨K',m',x'⟩->RO S w K x cs->
  ∃off cs',off+K'.size<=K.size/\cs'=(cs.drop off).take K'.size/\RO S w K' x' cs'/\∀pl,ck w p K pl cs=some (pl.up off,cs')
 |[],K,x,cs,K',m',x',hg,h=>by
  simp only[aS,Jq]at hg;cases hg;exact⟨0,cs,by omega,by rw[List.drop_zero,← h.length,List.take_length],h,λpl=>by simp only[ck];cases pl<;>rfl⟩
 | .inn::p,.st k,x,cs,K',m',x',hg,h=>RO.part p (K:=k) hg h
 | .fst::p,.pair a b,x,cs,K',m',x',hg,h=>by
  obtain⟨c1,c2,rfl,h1,h2⟩:=h;obtain⟨off,cs',r1,r2,r3,r4⟩:=RO.part p (K:=a) hg h1;have l1:=h1.length;refine⟨off,cs',by simp only[Kd.size];omega,?_,r3,λpl=>?_⟩
  ·rw[r2,List.drop_append_of_le_length (by omega),List.take_append_of_le_length (by rw[List.length_drop];omega)]
  ·simp only[ck]
   rw[← l1,KM];exact r4 pl
 | .snd::p,.pair a b,x,cs,K',m',x',hg,h=>by
  obtain⟨c1,c2,rfl,h1,h2⟩:=h;obtain⟨off,cs',r1,r2,r3,r4⟩:=RO.part p (K:=b) hg h2;have l1:=h1.length;refine⟨a.size+off,cs',by simp only[Kd.size];omega,?_,r3,λpl=>?_⟩
  ·rw[r2,← l1,show(c1++c2).drop (c1.length+off)=c2.drop off by rw[← List.drop_drop,Kx]]
  ·simp only[ck]
   rw[← l1,Kx,l1,r4];cases pl<;>simp[Place.up,L5]
 | .inn::_,.int _,_,_,_,_,_,hg,_| .inn::_,.bool,_,_,_,_,_,hg,_| .inn::_,.str,_,_,_,_,_,hg,_| .inn::_,.err,_,_,_,_,_,hg,_| .inn::_,.mp _ _,_,_,_,_,_,hg,_| .inn::_,.fcell _ _ _,_,_,_,_,_,hg,_| .inn::_,.raw _,_,_,_,_,_,hg,_| .inn::_,.sl _,_,_,_,_,_,hg,_| .inn::_,.pair _ _,_,_,_,_,_,hg,_=>by simp[aS]at hg
 | .fst::_,.int _,_,_,_,_,_,hg,_| .fst::_,.bool,_,_,_,_,_,hg,_| .fst::_,.str,_,_,_,_,_,hg,_| .fst::_,.err,_,_,_,_,_,hg,_| .fst::_,.mp _ _,_,_,_,_,_,hg,_| .fst::_,.fcell _ _ _,_,_,_,_,_,hg,_| .fst::_,.raw _,_,_,_,_,_,hg,_| .fst::_,.sl _,_,_,_,_,_,hg,_| .fst::_,.st _,_,_,_,_,_,hg,_=>by simp[aS]at hg
 | .snd::_,.int _,_,_,_,_,_,hg,_| .snd::_,.bool,_,_,_,_,_,hg,_| .snd::_,.str,_,_,_,_,_,hg,_| .snd::_,.err,_,_,_,_,_,hg,_| .snd::_,.mp _ _,_,_,_,_,_,hg,_| .snd::_,.fcell _ _ _,_,_,_,_,_,hg,_| .snd::_,.raw _,_,_,_,_,_,hg,_| .snd::_,.sl _,_,_,_,_,_,hg,_| .snd::_,.st _,_,_,_,_,_,hg,_=>by simp[aS]at hg
 | .idx _::_,.int _,_,_,_,_,_,hg,_| .idx _::_,.bool,_,_,_,_,_,hg,_| .idx _::_,.str,_,_,_,_,_,hg,_| .idx _::_,.err,_,_,_,_,_,hg,_| .idx _::_,.mp _ _,_,_,_,_,_,hg,_| .idx _::_,.fcell _ _ _,_,_,_,_,_,hg,_| .idx _::_,.raw _,_,_,_,_,_,hg,_| .idx _::_,.sl _,_,_,_,_,_,hg,_| .idx _::_,.st _,_,_,_,_,_,hg,_| .idx _::_,.pair _ _,_,_,_,_,_,hg,_=>by simp[aS]at hg
theorem CellsAt.sub {w:World}{b o:Nat}{cs:List Value}(h:CellsAt w b o cs)(off n:Nat):CellsAt w b (o+off) ((cs.drop off).take n):=by
 intro j hj;have hj':off+j<cs.length:=by simp at hj;omega
 have:=h (off+j) hj';rw[List.getElem_take,List.getElem_drop]
 rwa [L5]
theorem cn (K:Kd)(m:Md)(x:K.T):aS K m x []=some ⟨K,m,x⟩:=by simp only[aS]
theorem pb {ty:List (Nat×Kd)}:∀(fs:List Field) (off:Nat) (k:Kd) (f:Nat),cB ty fs off k=true->f<k.nf->
  ∃(fd:Field) (K':Kd),fs[f]? =some fd/\au ty fd.type=some K'/\off<=fd.offset/\(∀a b,K'≠ .pair a b)/\∀(m:Md) (x:k.T),(∃m' x',aS k m x (fF k f)=some ⟨K',m',x'⟩)/\
   ∀(w:World) (pl:Place) (cs:List Value),∃cs',ck w (fF k f) k pl cs=some (pl.up (fd.offset - off),cs')
 |[],_,_,_,h,_=>by simp[cB]at h
 |[fd],off,k,f,h,hf=>by
  simp only[cB,Jm]at h;obtain⟨⟨h1,h2⟩,h3⟩:=h;have hnp:=Kd.np_ok h3;have hnf:k.nf=1:=by cases k<;>first|rfl|exact bJ rfl (hnp _ _)
  have hf0:f=0:=by omega
  subst hf0;have e1:=JM h1;have hp:fF k 0=[]:=by cases k<;>first|rfl|exact bJ rfl (hnp _ _)
  refine⟨fd,k,rfl,fg h2,by omega,hnp,λm x=>⟨⟨m,x,by rw[hp];exact cn k m x⟩,λw pl cs=>⟨cs,?_⟩⟩⟩;rw[hp,e1,Nat.sub_self];simp only[ck];cases pl<;>rfl
 |fd::g::r,off,k,f,h,hf=>by
  cases k with
  |pair a b=>
   simp only[cB,Jm]at h;obtain⟨⟨⟨h1,h2⟩,h3⟩,h4⟩:=h;have e1:=JM h1;have hnp:=Kd.np_ok h3;cases f with
   |zero=>
    refine⟨fd,a,rfl,fg h2,by omega,hnp,λm x=>⟨⟨m.fst,x.1,by simp only[fF,aS]⟩,λw pl cs=>⟨cs.take a.size,?_⟩⟩⟩;rw[e1,Nat.sub_self];simp only[fF,ck];cases pl<;>rfl
   |succ n=>
    obtain⟨fd',K',r1,r2,r3,r4,r5⟩:=pb (g::r) (off+a.size) b n h4 (by simp only[Kd.nf]at hf;omega);refine⟨fd',K',by simpa using r1,r2,by omega,r4,λm x=>?_⟩;obtain⟨⟨m',x',r6⟩,r7⟩:=r5 m.snd x.2;refine⟨⟨m',x',by simp only[fF,aS];exact r6⟩,λw pl cs=>?_⟩;obtain⟨cs',r8⟩:=r7 w (pl.up a.size) (cs.drop a.size);refine⟨cs',?_⟩;simp only[fF,ck];rw[r8];have:pl.up (fd'.offset - off)=(pl.up a.size).up (fd'.offset - (off+a.size)):=by
     cases pl
     ·rfl
     ·simp only[Place.up,KR,Jq,JH,true_and];omega
    rw[this]
  |_=>simp[cB]at h
theorem lc {P:Program}{ty:List (Nat×Kd)}{t:Nat}{k:Kd}{f:Nat}(hty:TysOk P ty)(ht:au ty t=some (.st k))(hf:f<k.nf)(w:World)(b o:Nat):
  ∃(fd:Field) (K':Kd),au ty fd.type=some K'/\(∀a b,K'≠ .pair a b)/\(Instr.fieldAt t (.pointer (some ⟨b,o,none⟩)) f).run P w= .ok (.pointer (some ⟨b,o+fd.offset,none⟩)) w/\
   ∀(m:Md) (x:k.T),(∃m' x',aS (.st k) m x (.inn::fF k f)=some ⟨K',m',x'⟩)/\∀(w:World) (pl:Place) (cs:List Value),∃cs',ck w (.inn::fF k f) (.st k) pl cs=some (pl.up fd.offset,cs'):=by
 obtain⟨fs,hu,hfs⟩:=(hty.get ht).st k rfl;obtain⟨fd,K',r1,r2,r3,r4,r5⟩:=pb fs.toList 0 k f hfs hf;refine⟨fd,K',r2,r4,?_,r5⟩;have hfd:fs[f]? =some fd:=by simpa using r1
 have hs:=(hty.get r2).size w;have hpos:=K'.size_pos;have e1:(Instr.sureAddr (.pointer (some ⟨b,o,none⟩))).run P w= .ok ⟨b,o,none⟩ w:=rfl;simp only[Instr.fieldAt,JC,run_underlying hu,Js,hfd,e1,fieldPlace,hs,fU];rw[ao (by omega)]
 rfl
theorem qq {x:Operand}{t f:Nat}{k2 K K':Kd}{m':Md}{z:K.T}{y:K'.T}{q:Option Obj}(hc:cf c)(ho:o.op= .fieldAddr t x f)(ht:au c.ty t=some (.st k2))
  (hK:(Kd.st k2).beq K=true) (hf:f<k2.nf) (hg:aS K .ro z (.inn::fF k2 f)=some ⟨K',m',y⟩) (h:cz nt o.dst (.rp K' y) k=some out):cc c B nt o [(.rp K z,q)] fr k out:=by
 have:=Kd.eq_of_beq hK;subst this;refine ba h λe he a w g hg2=>?_
 obtain⟨b,off,cs,e1,hb,hcs,hro⟩:=aH hg2 (cj he.1 (by rw[ho];rfl));obtain⟨fd,K2,r1,r2,r3,r4⟩:=lc hc.ty ht hf w b off;obtain⟨⟨m2,x2,r5⟩,r6⟩:=r4 .ro z;rw[r5]at hg;cases hg;obtain⟨cs',r7⟩:=r6 w (some (b,off)) cs;obtain⟨o2,cs2,s1,s2,s3,s4⟩:=RO.part _ r5 hro;rw[s4 (some (b,off))]at r7;simp only[Jq,JH,Place.up,KR,true_and]at r7;obtain⟨e2,e3⟩:=r7;refine⟨.pointer (some ⟨b,off+fd.offset,none⟩),?_,b,off+fd.offset,cs2,rfl,hb,?_,s3⟩
 ·simp only[execOp,ho,e1,JC,r3,Js];rfl
 ·rw[← e2,s2];exact hcs.sub o2 _
end
section
variable {c:fS} {B:Base} {nt:Nat} {o:Oper} {Ω:Type} {k:bW->Option Ω} {out:Ω} {fr:Bool}
theorem mC (P:Program)(w:World)(ad:Addr):(Instr.sureAddr (.pointer (some ad))).run P w= .ok ad w:=rfl
theorem yd {x:Operand}{t:Nat}{K:Kd}{z:K.T}{q:Option Obj}(hc:cf c)(ho:o.op= .load t x)(ht:eS c t K=true)(h:cz nt o.dst (.v K z) k=some out):
  cc c B nt o [(.rp K z,q)] fr k out:=by
 obtain⟨hT,_⟩:=ey hc.ty ht;refine ba h λe he a w g hg=>?_
 obtain⟨b,off,cs,e1,hb,hcs,hro⟩:=aH hg (cj he.1 (by rw[ho];rfl));refine⟨K.val cs,?_,cs,hro,hro.vrep hT.np⟩;simp only[execOp,ho,e1,N8,JC,mC,Js,ix hT hro.length hcs]
 rfl
theorem o7 {P:Program}{B:Base}{nt:Nat}{e:Env}{a:Act}{w:World}{g:Gh}(hg:InvG P B nt e a w g){id:Nat}{ob:Obj}{p:bI}{K:Kd}{s:Slot}{v:Value}
  {K':Kd} {m':Md} {x':K'.T} {pl':Place} {cs':List Value} {F':Nat->Prop} (hob:e.obj id=some (some ob)) (hs:kH id ob p=some (K,s))
  (h1:aS ob.K ob.m ob.x p=some ⟨K',m',x'⟩) (h2:ck w p ob.K (g.pl id) (g.cs id)=some (pl',cs')) (f:Focus g.S w p ob.K ob.m ob.x (g.cs id) (g.F id) (g.pl id) K' m' x' cs' pl' F')
  (hv:VRep K' cs' v):K=K'/\SlotRep P g w e.obj s v:=by
 unfold kH at hs;rw[h1]at hs;simp only[Jq,JH]at hs;obtain⟨rfl,hs⟩:=hs;refine⟨rfl,?_⟩;subst hs;cases m' with
 |ro=>exact⟨cs',Own.ro.1 f.own,hv⟩
 |own m=>exact⟨LogOk.now hob,λo2 ho2 _ _=>by rw[hob]at ho2;cases ho2;exact⟨pl',cs',K',_,x',h1,h2,hv⟩⟩
 |pr m n=>exact⟨LogOk.now hob,λo2 ho2 _ _=>by rw[hob]at ho2;cases ho2;exact⟨pl',cs',K',_,x',h1,h2,hv⟩⟩
theorem ye {x:Operand}{t id n:Nat}{p:bI}{ob:Obj}{K:Kd}{s:Slot}(hc:cf c)(ho:o.op= .load t x)(hk:(bK ob&&gy ob n p)=true)
  (hs:kH id ob p=some (K,s)) (ht:eS c t K=true) (h:cz nt o.dst s k=some out):cc c B nt o [(.pt id n p,some ob)] fr k out:=by
 obtain⟨hT,_⟩:=ey hc.ty ht;rw[Jm]at hk;refine ba h λe he a w g hg=>?_
 have hv:=cj he.1 (x:=x) (by rw[ho];rfl);obtain⟨b,off,cs',K',m',x',F',h1,h2,h3,f⟩:=qV hg hv hk.1 hk.2;have hval:VRep K' cs' (K'.val cs')\/True:=.inr trivial;have hK:K=K':=by
  unfold kH at hs;rw[h1]at hs;simp only[Jq,JH]at hs;exact hs.1.symm
 subst hK;have hvr:VRep K cs' (K.val cs'):=f.own.vrep hT.np;refine⟨K.val cs',?_,(o7 hg (gN hv) hs h1 h2 f hvr).2⟩;simp only[execOp,ho,h3,N8,JC,mC,Js,ix hT f.own.length (f.ok b off rfl).1]
 rfl
theorem bS {ob:Obj}(h:bK ob=true):ob.hl=none:=by
 unfold bK at h
 split at h
 ·assumption
 ·cases h
theorem qr {x:Operand}{t f id n:Nat}{p:bI}{ob:Obj}{k2 K:Kd}{m:Md}{z:K.T}(hc:cf c)(ho:o.op= .fieldAddr t x f)(ht:au c.ty t=some (.st k2))
  (hgp:aS ob.K ob.m ob.x p=some ⟨K,m,z⟩) (hK:(Kd.st k2).beq K=true) (hf:f<k2.nf) (hk:gy ob n p=true) (hh:(bK ob||nG p)=true)
  (h:cz nt o.dst (.pt id ob.log.length (p++ .inn::fF k2 f)) k=some out):cc c B nt o [(.pt id n p,some ob)] fr k out:=by
 have:=Kd.eq_of_beq hK;subst this;refine ba h λe he a w g hg=>?_
 have hv:=cj he.1 (x:=x) (by rw[ho];rfl);have hob:=gN hv;have hr:=aH hg hv;have hh':ob.hl=none\/nG p=true:=by
  rw[KY]at hh;rcases hh with hh|hh
  ·exact .inl (bS hh)
  ·exact .inr hh
 obtain⟨b,off,cs',K',m',x',h3,h4,h5⟩:=hr.2 ob hob hk (hh'.imp (λh=>h) .inl);rw[h3]at hgp;cases hgp;obtain⟨fd,K2,r1,r2,r3,r4⟩:=lc hc.ty ht hf w b off;obtain⟨⟨m2,x2,r5⟩,r6⟩:=r4 m z;obtain⟨cs2,r7⟩:=r6 w (some (b,off)) cs';refine⟨.pointer (some ⟨b,off+fd.offset,none⟩),?_,?_⟩
 ·simp only[execOp,ho,h5,JC,r3,Js];rfl
 ·refine⟨LogOk.now hob,λo2 ho2 _ _=>?_⟩
  rw[hob]at ho2;cases ho2;refine⟨b,off+fd.offset,cs2,K2,m2,x2,?_,?_,rfl⟩
  ·rw[jk p _ h3];exact r5
  ·rw[jQ p _ h3 h4];exact r7
theorem td {c:fS}{t f:Nat}{k2:Kd}{S:Nat->Prop}{w:World}{z:k2.T}{cs:List Value}(hc:cf c)(ht:au c.ty t=some (.st k2))(hf:f<k2.nf)(hro:RO S w k2 z cs):
  ∃(K2:Kd) (x2:K2.T) (off:Nat) (cs2:List Value) (m2:Md),(Instr.field t (.agg cs.toArray) f).run c.P w= .ok (K2.val cs2) w/\RO S w K2 x2 cs2/\VRep K2 cs2 (K2.val cs2)/\aS k2 .ro z (fF k2 f)=some ⟨K2,m2,x2⟩/\
   (∀(m:Md) (x:k2.T),∃m' x',aS k2 m x (fF k2 f)=some ⟨K2,m',x'⟩)/\∀(pl:Place),ck w (fF k2 f) k2 pl cs=some (pl.up off,cs2):=by
 obtain⟨fs,hu,hfs⟩:=(hc.ty.get ht).st k2 rfl;obtain⟨fd,K2,r1,r2,r3,r4,r5⟩:=pb fs.toList 0 k2 f hfs hf;obtain⟨⟨m2,x2,r6⟩,r7⟩:=r5 .ro z;obtain⟨o2,cs2,s1,s2,s3,s4⟩:=RO.part _ r6 hro;have hT:=hc.ty.get r2;have ho:o2=fd.offset:=by
  obtain⟨cs',r8⟩:=r7 w (some (0,0)) cs;rw[s4 (some (0,0))]at r8;simp only[Jq,JH,Place.up,KR,true_and,Nat.zero_add,Nat.sub_zero]at r8;exact r8.1
 subst ho;have hfd:fs[f]? =some fd:=by simpa using r1
 refine⟨K2,x2,fd.offset,cs2,m2,?_,s3,s3.vrep hT.np,r6,λm x=>(r5 m x).1,s4⟩;have hpart:(part fd.type cs.toArray fd.offset).run c.P w= .ok (K2.val cs2) w:=by
  unfold part;rw[JC,hT.isAgg,Js];unfold Kd.val;cases hA:K2.agg with
  |true=>
   simp only[if_true,JC,hT.size,Js,JP]
   congr 2
   rw[s2];apply MJ
   simp[List.take_drop]
  |false=>
   have l2:cs2.length=1:=by
    rw[s3.length];cases K2 with
    |st k=>cases hA
    |raw k=>cases hA
    |pair a b=>exact bJ rfl (hT.np a b)
    |_=>rfl
   obtain⟨v,rfl⟩:=My.1 l2;have hcs:cs[fd.offset]? =some v:=by
    have h9:=congrArg (λl=>l[0]?) s2;simp only[Kq]at h9;rw[List.getElem?_take_of_lt (Kd.size_pos K2),List.getElem?_drop,KH]at h9;exact h9.symm
   simp only[if_false,Jt];have:cs.toArray[fd.offset]? =some v:=by simpa using hcs
   rw[this]
   rfl
 simp only[Instr.field,JC,run_underlying hu,Js,hfd,asAgg,JP,hpart]
theorem yf {x:Operand}{t f:Nat}{k2 K K':Kd}{m':Md}{z:K.T}{y:K'.T}{q:Option Obj}(hc:cf c)(ho:o.op= .field t x f)(ht:au c.ty t=some (.st k2))
  (hK:(Kd.st k2).beq K=true) (hf:f<k2.nf) (hg:aS K .ro z (.inn::fF k2 f)=some ⟨K',m',y⟩) (h:cz nt o.dst (.v K' y) k=some out):cc c B nt o [(.v K z,q)] fr k out:=by
 have:=Kd.eq_of_beq hK;subst this;refine ba h λe he a w g hg2=>?_
 obtain⟨cs,hro,hv⟩:=aH hg2 (cj he.1 (by rw[ho];rfl));obtain⟨K2,x2,off,cs2,m2,h1,h2,h3,h4,_⟩:=td hc ht hf (show RO g.S w k2 z cs from hro);have h4':aS (.st k2) .ro z (.inn::fF k2 f)=some ⟨K2,m2,x2⟩:=h4;rw[h4']at hg;cases hg;have e1:a.eval x= .agg cs.toArray:=hv.1;refine⟨_,?_,cs2,h2,h3⟩;simp only[execOp,ho,e1,JC,h1,Js]
 rfl
theorem vA {x:Operand}{t f id n:Nat}{p:bI}{ob:Obj}{k2 K K':Kd}{m:Md}{z:K.T}{s:Slot}(hc:cf c)(ho:o.op= .field t x f)(ht:au c.ty t=some (.st k2))
  (hgp:aS ob.K ob.m ob.x p=some ⟨K,m,z⟩) (hcond:((Kd.st k2).beq K&&Ll f k2.nf&&bK ob&&fu ob n p)=true) (hs:kH id ob (p++ .inn::fF k2 f)=some (K',s))
  (h:cz nt o.dst s k=some out):cc c B nt o [(.al id n p,some ob)] fr k out:=by
 simp only[Jm]at hcond;obtain⟨⟨⟨hK,hf⟩,hh⟩,hok⟩:=hcond;have:=Kd.eq_of_beq hK;subst this;refine ba h λe he a w g hg=>?_
 have hv:=cj he.1 (x:=x) (by rw[ho];rfl);obtain⟨q,cs',K1,m1,x1,F',h1,h2,h3,f1⟩:=jT hg hv hh hok;rw[h1]at hgp;cases hgp;have hro:RO (λb=>g.S b\/F' b) w k2 z cs':=Own.toRO (K:=.st k2) (λb hb=>.inl hb) (λb hb=>.inr hb) f1.own;obtain⟨K2,x2,off,cs2,m2,r1,r2,r3,r4,r5,r6⟩:=td hc ht (JV hf) hro;obtain⟨m3,x3,r7⟩:=r5 m z;have g1:aS ob.K ob.m ob.x (p++ .inn::fF k2 f)=some ⟨K2,m3,x3⟩:=by rw[jk p _ h1];exact r7
 have n1:ck w (p++ .inn::fF k2 f) ob.K (g.pl id) (g.cs id)=some (q.up off,cs2):=by rw[jQ p _ h1 h2];exact r6 q
 have hhl:=bS hh;obtain⟨k6,k7⟩:=(hg.objs id ob (jn hv)).own hhl;obtain⟨F2,f2⟩:=ns _ g1 n1 k6 k7 (λb off e1=>(hg.plz id b off e1).2.2.1 id);have e1:a.eval x= .agg cs'.toArray:=h3.1;refine⟨K2.val cs2,?_,(o7 hg (jn hv) hs g1 n1 f2 r3).2⟩;simp only[execOp,ho,e1,JC,r1,Js]
 rfl
theorem jo {P:Program}{ty:List (Nat×Kd)}{t:Nat}{e:Kd}(hty:TysOk P ty)(ht:TyOk P ty t (.sl e))(w:World)(b off len cap:Nat)(i:Int)(ik:IntKind)(h0:0<=i)(h1:i<(len:Int)):
  (Instr.indexAt t (.slice (some ⟨b,off,none⟩) len cap) (.int ik i)).run P w= .ok (.pointer (some ⟨b,off+i.toNat*e.size,none⟩)) w:=by
 obtain⟨t',hu,hl⟩:=ht.sl e rfl;have hs:=(hty.get hl).size w;have e1:(asIntOf (.int ik i)).run P w= .ok (ik,i) w:=rfl;simp only[Instr.indexAt,JC,e1,run_underlying hu,Js,JP];rw[Of,ab ⟨h0,h1⟩];simp only[JC,hs,Js,JP,fU]
theorem qZ {x y:Operand}{t:Nat}{ik:IntKind}{e:Kd}{xs:List e.T}{i:Int}{q1 q2:Option Obj}(hc:cf c)(ho:o.op= .indexAddr t x y)(ht:eS c t (.sl e)=true)
  (hi:0<=i/\i<(xs.length:Int)) (h:cz nt o.dst (.rp e (Ji xs i.toNat e.zero)) k=some out):cc c B nt o [(.v (.sl e) xs,q1),(.v (.int ik) i,q2)] fr k out:=by
 obtain⟨hT,_⟩:=ey hc.ty ht;refine ba h λe0 he a w g hg=>?_
 obtain⟨v1,v2⟩:=eK he.1 (x:=x) (y:=y) (by rw[ho];rfl);obtain⟨cs,hro,hv⟩:=aH hg v1;have e2:=eL (aH hg v2);obtain⟨A,cap,rfl,hl,hel⟩:=hro;have hlt:i.toNat<xs.length:=by omega
 obtain⟨b,off,vs,rfl,hb,hcs,hro2⟩:=hel i.toNat hlt;have e1:a.eval x= .slice (some ⟨b,off,none⟩) xs.length cap:=hv.1;refine⟨.pointer (some ⟨b,off+i.toNat*e.size,none⟩),?_,b,_,vs,rfl,hb,hcs,?_⟩
 ·simp only[execOp,ho,e1,e2,JC,jo hc.ty hT w b off xs.length cap i ik hi.1 hi.2,Js]
  rfl
 ·have:Ji xs i.toNat e.zero=xs[i.toNat]:=by simp[Ji,hlt]
  rw[this];exact hro2
theorem qs {x y:Operand}{t id n:Nat}{p:bI}{ob:Obj}{ik:IntKind}{e:Kd}{m:Md}{xs:List e.T}{i:Int}{q2:Option Obj}(hc:cf c)(ho:o.op= .indexAddr t x y)
  (hk:(bK ob&&fu ob n p)=true) (hgp:aS ob.K ob.m ob.x p=some ⟨.sl e,.own m,xs⟩) (ht:eS c t (.sl e)=true)
  (hi:0<=i/\i<(xs.length:Int)) (h:cz nt o.dst (.pt id ob.log.length (p++[.idx i])) k=some out):cc c B nt o [(.al id n p,some ob),(.v (.int ik) i,q2)] fr k out:=by
 obtain⟨hT,_⟩:=ey hc.ty ht;rw[Jm]at hk;refine ba h λe0 he a w g hg=>?_
 obtain⟨v1,v2⟩:=eK he.1 (x:=x) (y:=y) (by rw[ho];rfl);have e2:=eL (aH hg v2);obtain⟨q,cs',K',m',x',F',h1,h2,h3,f⟩:=jT hg v1 hk.1 hk.2;rw[h1]at hgp;cases hgp;obtain⟨A,cap,rfl,hl,hnil,hr,G,hG,hG1,hG2,hel⟩:=f.own;have hlt:i.toNat<xs.length:=by omega
 obtain⟨b,off,vs,rfl,hcs,hov⟩:=hel i.toNat hlt;have e1:a.eval x= .slice (some ⟨b,off,none⟩) xs.length cap:=h3.1;refine⟨.pointer (some ⟨b,off+i.toNat*e.size,none⟩),?_,?_⟩
 ·simp only[execOp,ho,e1,e2,JC,jo hc.ty hT w b off xs.length cap i ik hi.1 hi.2,Js]
  rfl
 ·have hob:=jn v1
  refine⟨LogOk.now hob,λo2 ho2 _ _=>?_⟩;rw[hob]at ho2;cases ho2;have hget:Ji xs i.toNat e.zero=xs[i.toNat]:=by simp[Ji,hlt]
  refine⟨b,off+i.toNat*e.size,vs,e,m,xs[i.toNat],?_,?_,rfl⟩
  ·rw[jk p _ h1,← hget];simp only[aS]
  ·rw[jQ p _ h1 h2]
   simp only[ck];rw[ab hi,eT hcs hov.length]
theorem C4 {x y:Operand}{t:Nat}{ik:IntKind}{s:ByteArray}{i:Int}{q1 q2:Option Obj}(hc:cf c)(ho:o.op= .index t x y)(ht:eS c t .str=true)
  (hi:0<=i/\i<(s.size:Int)) (h:cz nt o.dst (.v (.int .u8) (aO s i)) k=some out):cc c B nt o [(.v .str s,q1),(.v (.int ik) i,q2)] fr k out:=by
 obtain⟨hT,_⟩:=ey hc.ty ht;have hu:=hT.str rfl;refine ba h λe0 he a w g hg=>⟨.int .u8 (aO s i),?_,j7 _ _ _ _ _ _⟩
 obtain⟨v1,v2⟩:=eK he.1 (x:=x) (y:=y) (by rw[ho];rfl);have e1:=uj (aH hg v1);have e2:=eL (aH hg v2);have e3:(asIntOf (.int ik i)).run c.P w= .ok (ik,i) w:=rfl;have hlt:i.toNat<s.size:=by omega
 have hget:s[i.toNat]? =some s[i.toNat]:=by simp[hlt]
 have hby:aO s i=(s[i.toNat].toNat:Int):=by
  unfold aO;have:s.data.getD i.toNat 0=s[i.toNat]:=by
   have hlt':i.toNat<s.data.size:=hlt;simp only[Array.getD];rw[dif_pos hlt']
   rfl
  rw[this]
 simp only[execOp,ho,e1,e2,Instr.index,JC,e3,run_underlying hu,Js,ab hi.1,hget,JP,hby]
theorem C5 {x:Operand}{ts:Array Nat}{t:Nat}{v:bF}{q:KV}{n:Nat}(hc:cf c)(ho:∃as,o.op= .call {callee:=.builtin .len,args:=as,argTypes:=ts}) (hv:E8 v=some q) (hts:ts.toList=[t])
  (hq:(∃e xs,q=⟨.sl e,xs⟩/\eS c t (.sl e)=true/\n=Je xs)\/(∃s,q=⟨.str,s⟩/\eS c t .str=true/\n=s.size))
  (h:cz nt o.dst (.v (.int .i64) (n:Int)) k=some out):cc c B nt o [v] fr k out:=by
 obtain⟨as,ho⟩:=ho;refine ba h λe0 he a w g hg=>⟨.int .i64 n,?_,j7 _ _ _ _ _ _⟩
 have hvs:=he.1;have hops:o.op.operands=as:=by rw[ho];simp[Op.operands,Call.operands]
 obtain⟨x,has⟩:∃x,as= #[x]:=by
  simp only[Env.views,Oper.opds,hops]at hvs;have hl:as.toList.length=1:=by have:=congrArg Je hvs;simpa using this
  obtain⟨x,hx⟩:=My.1 hl;exact⟨x,by apply MJ;simpa using hx⟩
 subst has;have v1:=cj hvs (x:=x) hops;obtain⟨cs,r1,r2⟩:=ui hg v1 hv;have hts':ts= #[t]:=by apply MJ;simpa using hts
 have key:(Nu ts o.type #[a.eval x]).run c.P w= .ok (.int .i64 n) w:=by
  rcases hq with⟨e,xs,rfl,ht,rfl⟩|⟨s,rfl,ht,rfl⟩
  ·obtain⟨hT,_⟩:=ey hc.ty ht
   obtain⟨t',hu,_⟩:=hT.sl e rfl;obtain⟨A,cap,rfl,_⟩:=r1;have e1:a.eval x= .slice A (Je xs) cap:=r2.1;rw[hts',e1];simp only[Nu,JC,run_underlying hu,Js,MR,Kq]
   rfl
  ·obtain⟨hT,_⟩:=ey hc.ty ht
   have hu:=hT.str rfl;rw[show cs=[.string s]from r1]at r2;have e1:a.eval x= .string s:=r2.1;rw[hts',e1];simp only[Nu,JC,run_underlying hu,Js,MR,Kq]
   rfl
 have e4:(#[x]:Array Operand).map a.eval= #[a.eval x]:=by simp
 simp only[execOp,ho,resolve,e4,JC,JP,Js,invoke,builtin,key]
theorem zI {P:Program}{g:Gh}{w:World}{ob:Nat->Option (Option Obj)}:∀{l:List Slot} {vs:List Value} {i:Nat} {s:Slot},TupRep P g w ob l vs->l[i]? =some s->∃v,vs[i]? =some v/\SlotRep0 P g w ob s v
 |[],_,_,_,_,h=>by simp at h
 |s::l,_,0,s',⟨v,r,rfl,h1,h2⟩,h=>by simp at h;subst h;exact⟨v,rfl,h1⟩
 |s::l,_,i+1,s',⟨v,r,rfl,h1,h2⟩,h=>by simpa using zI h2 (i:=i) (by simpa using h)
theorem yg {x:Operand}{i:Nat}{l:List Slot}{s:Slot}{q:Option Obj}(ho:o.op= .extract x i)(hl:l[i]? =some s)(hs:s.isTup=false)(h:cz nt o.dst s k=some out):cc c B nt o [(.tup l,q)] fr k out:=by
 refine ba h λe0 he a w g hg=>?_
 obtain⟨vs,e1,h1⟩:=aH hg (cj he.1 (x:=x) (by rw[ho];rfl));obtain⟨v,h2,h3⟩:=zI h1 hl;refine⟨v,?_,(SlotRep.iff0 hs).2 h3⟩;have h2':vs[i]? =some v:=by simpa using h2
 simp only[execOp,ho,e1,Instr.extract,h2',JC,JP,Js]
theorem pV {x:Operand}{s:Slot}{q:Option Obj}(ho:o.op= .nilCheck x)(hs:(∃K z,s= .rp K z)\/(∃id n p ob,s= .pt id n p/\q=some ob/\(gy ob n p&&(bK ob||nG p))=true))(h:cz nt o.dst s k=some out):
  cc c B nt o [(s,q)] fr k out:=by
 refine ba h λe0 he a w g hg=>?_
 have v1:=cj he.1 (x:=x) (by rw[ho];rfl);have hr:=aH hg v1;rw[show s.unv=s by rcases hs with⟨K,z,rfl⟩|⟨_,_,_,_,rfl,_⟩<;>rfl]at hr;refine⟨a.eval x,?_,hr⟩;rcases hs with⟨K,z,rfl⟩|⟨id,n,p,ob,rfl,rfl,hk⟩
 ·obtain⟨b,off,cs,e1,_⟩:=hr
  simp only[execOp,ho,e1];rfl
 ·rw[Jm,KY]at hk
  obtain⟨b,off,cs',K',m',x',h3,h4,h5⟩:=hr.2 ob (gN v1) hk.1 (by
   rcases hk.2 with hh|hh
   ·exact .inl (bS hh)
   ·exact .inr (.inl hh))
  simp only[execOp,ho,h5];rfl
theorem ra {P:Program}{w:World}(isSlice:Bool)(len cap:Nat)(lo hi:Option Value)(l h:Int)(hl:lo=none/\l=0\/∃ik,lo=some (.int ik l))(hh:hi=none/\h=(len:Int)\/∃ik,hi=some (.int ik h))
  (h0:0<=l) (h1:l<=h) (h2:h<=(len:Int)) (h3:len<=cap):(Ok isSlice len cap lo hi none).run P w= .ok (l.toNat,h.toNat,cap) w:=by
 have bd:∀(ik:IntKind) (i:Int) (y:Nat) (code:BoundsCode),0<=i->i<=(y:Int)->(OG (.int ik i) y code).run P w= .ok i.toNat w:=by
  intro ik i y code a1 a2;have e3:(asIntOf (.int ik i)).run P w= .ok (ik,i) w:=rfl;simp only[OG,JC,e3,Js,Of,ab (And.intro a1 a2),JP]
 unfold Ok;rcases hh with⟨rfl,rfl⟩|⟨ik,rfl⟩<;>rcases hl with⟨rfl,rfl⟩|⟨ik2,rfl⟩<;>simp only[JC,JP,Js]<;>
  (try rw[bd _ h cap _ (by omega) (by omega)])<;>(try simp only[Js,JP])<;>(try rw[bd _ l _ _ h0 (by omega)])<;>(try simp only[Js,JP])<;>simp
end
end Go.Abs
