/- The abstract interpreter of the elaborated code, and that what it answers is what the machine does: part 1. Conditions: none. -/
import Derived.Calls
import Derived.Laws.Sem
import Derived.Laws.IdiomCopy
import Derived.Laws.Cells
import Derived.Laws.NewBlocks
import Derived.Laws.AppendOwn
import Derived.Lib.LaidTab
import Derived.Lib.ItoaNum
import Derived.Laws.Entries
import Derived.ChangeKeysEq
import Derived.Laws.BytesString
open Array renaming ext' → M0,getElem?_eq_none → MM,getElem?_modify → N1,getElem?_push → Om
open Bool renaming and_eq_true → Jz,eq_false_iff → JV,false_eq_true → JI,or_eq_true → Lo
open Go.Addr.mk renaming injEq → M2
open Go.Builtin renaming len_ → NM
open Go.Instr renaming loadAt → On,sliceBound → OW,sliceBounds → OC
open Go.IntKind renaming i64 → Ju
open Go.Op renaming equalIn → MZ
open Go.Oper renaming upon_value → NP
open Go.Region renaming binds → LS
open Go.Result renaming andThen_ok → JF
open Go.Sem renaming run_bind → JP,run_ite → Ox,run_pure → Kc
open Go.Value renaming oneCell' → L4
open Go.World renaming cell? → Nr,var? → Ow
open Iff renaming rfl → Oc
open List renaming drop_left → KL,getD → Jv,getElem?_cons_zero → KH,getElem?_eq_some_iff → Kg,getElem?_toArray → M7,getElem_append_left → Mf,getElem_append_right → MH,getElem_cons_zero → N2,length → Jr,length_eq_one_iff → MO,length_set → Mx,map_cons → JM,map_nil → KI,mem_append → KP,mem_cons_of_mem → JR,mem_cons_self → JN,replicate → Kq,set → KO,take_append_drop → KR,take_left → Lf
open List.cons renaming injEq → KM
open Nat renaming add_assoc → Mk,add_mul → KJ,add_zero → KY,beq → KQ,ble → Od,blt → LA,eq_of_beq_eq_true → JZ,le_of_ble_eq_true → Kh,le_refl → JU,lt_of_lt_of_le → Kl,lt_or_ge → Oe,mul_le_mul_right → Kk,one_mul → Lh,one_pos → Mr
open Option renaming map_some → Lk
open Option.some renaming injEq → JD
open Prod.mk renaming injEq → JW
set_option linter.unusedVariables false
set_option linter.unusedSimpArgs false
namespace Go.Abs
theorem ab {c:Prop}{h:Decidable c}(hc:c){α:Sort _}{t e:α}:ite c t e=t:=if_pos hc
theorem ao {c:Prop}{h:Decidable c}(hc:¬c){α:Sort _}{t e:α}:ite c t e=e:=if_neg hc
theorem dg {p:Prop} [Decidable p]:(decide p=true)=p:=decide_eq_true_eq
theorem iX {p:Prop} [h:Decidable p]:p->decide p=true:=decide_eq_true
theorem dq {p:Prop} [h:Decidable p]:¬p->decide p=false:=decide_eq_false
theorem vK {p:Prop}{h:Decidable p}:decide p=false↔¬p:=decide_eq_false_iff_not
abbrev bH {a:Prop}{b:Sort _}(h:a)(k:¬a):b:=absurd h k
inductive Kd where
 |int (k:IntKind)
 |bool
 |str
 |err
 |raw (k:Kd)
 |sl (e:Kd)
 |st (k:Kd)
 |pair (a b:Kd)
 |mp (k e:Kd)
 |fcell (f:Nat) (a b:Kd)
@[reducible] def Kd.T:Kd → Type
 | .int _=>Int
 | .bool=>Bool
 | .str=>ByteArray
 | .err=>Bool
 | .raw _=>List Value
 | .sl e=>List e.T
 | .st k=>k.T
 | .pair a b=>a.T×b.T
 | .mp k e=>List (k.T×e.T)
 | .fcell _ a b=>Option (a.T×b.T)
def Kd.size:Kd->Nat
 | .int _=>1
 | .bool=>1
 | .str=>1
 | .err=>1
 | .raw k=>k.size
 | .sl _=>1
 | .st k=>k.size
 | .pair a b=>a.size+b.size
 | .mp _ _=>1
 | .fcell _ _ _=>1
def Kd.zc:Kd->List Value
 | .int k=>[.int k 0]
 | .bool=>[.bool false]
 | .str=>[.string ⟨#[]⟩]
 | .err=>[.nilIface]
 | .raw k=>k.zc
 | .sl _=>[.slice none 0 0]
 | .st k=>k.zc
 | .pair a b=>a.zc++b.zc
 | .mp _ _=>[.map none]
 | .fcell _ _ _=>[.nilFunc]
def Kd.zero:(K:Kd)->K.T
 | .int _=>(0:Int)
 | .bool=>false
 | .str=>(⟨#[]⟩:ByteArray)
 | .err=>false
 | .raw k=>k.zc
 | .sl _=>[]
 | .st k=>k.zero
 | .pair a b=>(a.zero,b.zero)
 | .mp _ _=>[]
 | .fcell _ _ _=>none
def Cp:IntKind->IntKind->Bool
 | .i8,.i8=>true| .i16,.i16=>true| .i32,.i32=>true| .i64,.i64=>true
 | .u8,.u8=>true| .u16,.u16=>true| .u32,.u32=>true| .u64,.u64=>true
 |_,_=>false
theorem qK:∀{a b:IntKind},Cp a b=true->a=b:=by
 intro a b h;cases a<;>cases b<;>first|rfl|(exact bH h (by decide))
def Kd.beq:Kd->Kd->Bool
 | .int k,.int l=>Cp k l
 | .bool,.bool=>true
 | .str,.str=>true
 | .err,.err=>true
 | .raw a,.raw b=>a.beq b
 | .sl a,.sl b=>a.beq b
 | .st a,.st b=>a.beq b
 | .pair a b,.pair c d=>a.beq c&&b.beq d
 | .mp a b,.mp c d=>a.beq c&&b.beq d
 | .fcell f a b,.fcell g c d=>KQ f g&&(a.beq c&&b.beq d)
 |_,_=>false
theorem Kd.eq_of_beq:∀{a b:Kd},a.beq b=true->a=b
 | .int _,.int _,h=>by rw[qK h]
 | .bool,.bool,_=>rfl
 | .str,.str,_=>rfl
 | .err,.err,_=>rfl
 | .raw a,.raw b,h=>by rw[Kd.eq_of_beq (a:=a) (b:=b) h]
 | .sl a,.sl b,h=>by rw[Kd.eq_of_beq (a:=a) (b:=b) h]
 | .st a,.st b,h=>by rw[Kd.eq_of_beq (a:=a) (b:=b) h]
 | .pair a b,.pair c d,h=>by
  have h':(a.beq c&&b.beq d)=true:=h;rw[Jz]at h';rw[Kd.eq_of_beq (a:=a) (b:=c) h'.1,Kd.eq_of_beq (a:=b) (b:=d) h'.2]
 | .mp a b,.mp c d,h=>by
  have h':(a.beq c&&b.beq d)=true:=h;rw[Jz]at h';rw[Kd.eq_of_beq (a:=a) (b:=c) h'.1,Kd.eq_of_beq (a:=b) (b:=d) h'.2]
 | .fcell f a b,.fcell g c d,h=>by
  have h':(KQ f g&&(a.beq c&&b.beq d))=true:=h;rw[Jz,Jz]at h';rw[JZ h'.1,Kd.eq_of_beq (a:=a) (b:=c) h'.2.1,Kd.eq_of_beq (a:=b) (b:=d) h'.2.2]
 | .fcell _ _ _,.int _,h| .fcell _ _ _,.bool,h| .fcell _ _ _,.str,h| .fcell _ _ _,.err,h| .fcell _ _ _,.raw _,h| .fcell _ _ _,.sl _,h| .fcell _ _ _,.st _,h| .fcell _ _ _,.pair _ _,h| .fcell _ _ _,.mp _ _,h
 | .int _,.fcell _ _ _,h| .bool,.fcell _ _ _,h| .str,.fcell _ _ _,h| .err,.fcell _ _ _,h| .raw _,.fcell _ _ _,h| .sl _,.fcell _ _ _,h| .st _,.fcell _ _ _,h| .pair _ _,.fcell _ _ _,h| .mp _ _,.fcell _ _ _,h
 | .mp _ _,.int _,h| .mp _ _,.bool,h| .mp _ _,.str,h| .mp _ _,.err,h| .mp _ _,.raw _,h| .mp _ _,.sl _,h| .mp _ _,.st _,h| .mp _ _,.pair _ _,h
 | .int _,.mp _ _,h| .bool,.mp _ _,h| .str,.mp _ _,h| .err,.mp _ _,h| .raw _,.mp _ _,h| .sl _,.mp _ _,h| .st _,.mp _ _,h| .pair _ _,.mp _ _,h
 | .int _,.raw _,h| .bool,.raw _,h| .str,.raw _,h| .err,.raw _,h| .sl _,.raw _,h| .st _,.raw _,h| .pair _ _,.raw _,h
 | .raw _,.int _,h| .raw _,.bool,h| .raw _,.str,h| .raw _,.err,h| .raw _,.sl _,h| .raw _,.st _,h| .raw _,.pair _ _,h
 | .int _,.err,h| .bool,.err,h| .str,.err,h| .sl _,.err,h| .st _,.err,h| .pair _ _,.err,h
 | .err,.int _,h| .err,.bool,h| .err,.str,h| .err,.sl _,h| .err,.st _,h| .err,.pair _ _,h
 | .int _,.bool,h| .int _,.str,h| .int _,.sl _,h| .int _,.st _,h| .int _,.pair _ _,h
 | .bool,.int _,h| .bool,.str,h| .bool,.sl _,h| .bool,.st _,h| .bool,.pair _ _,h
 | .str,.int _,h| .str,.bool,h| .str,.sl _,h| .str,.st _,h| .str,.pair _ _,h
 | .sl _,.int _,h| .sl _,.bool,h| .sl _,.str,h| .sl _,.st _,h| .sl _,.pair _ _,h
 | .st _,.int _,h| .st _,.bool,h| .st _,.str,h| .st _,.sl _,h| .st _,.pair _ _,h
 | .pair _ _,.int _,h| .pair _ _,.bool,h| .pair _ _,.str,h| .pair _ _,.sl _,h| .pair _ _,.st _,h=>bH h (by simp[Kd.beq])
def Kd.flat:Kd->Bool
 | .int _=>true
 | .bool=>true
 | .str=>true
 | .err=>true
 | .raw _=>true
 | .sl _=>false
 | .st k=>k.flat
 | .pair a b=>a.flat&&b.flat
 | .mp _ _=>false
 | .fcell _ _ _=>false
def Kd.agg:Kd->Bool
 | .st _=>true
 | .raw _=>true
 |_=>false
def Kd.val (K:Kd)(cs:List Value):Value:=if K.agg then .agg cs.toArray else cs.headD undef
def VRep (K:Kd)(cs:List Value)(v:Value):Prop:=v=K.val cs/\v.cells=cs.toArray
def CellsAt (w:World)(b o:Nat)(vs:List Value):Prop:=∀j (h:j<vs.length),w.cell? ⟨b,o+j,none⟩=some vs[j]
def vL (b:Bool)(v:Value):Prop:=(b=false/\v= .nilIface)\/(b=true/\∃t p,v= .iface t p)
abbrev PV:Type:=Value ⊕(Array MapEntry×Nat)
def _root_.Go.World.pk (w:World)(b o:Nat):Option PV:=match w.heap[b]? with
 |some (.map es c)=>some (.inr (es,c))
 |_=>(w.cell? ⟨b,o,none⟩).map .inl
theorem zT {w w':World}{b o:Nat}(h:w'.heap[b]? =w.heap[b]?):w'.pk b o=w.pk b o:=by
 unfold World.pk Nr;rw[h]
theorem kw {w:World}{b o:Nat}{v:Value}:w.pk b o=some (.inl v)↔w.cell? ⟨b,o,none⟩=some v:=by
 unfold World.pk;cases hb:w.heap[b]? with
 |none=>simp
 |some x=>
  cases x with
  |map es c=>
   have:w.cell? ⟨b,o,none⟩=none:=by unfold Nr;dsimp only;rw[hb]
   rw[this];simp
  |_=>simp
theorem uA {w:World}{b o:Nat}{z:Array MapEntry×Nat}:w.pk b o=some (.inr z)↔w.heap[b]? =some (.map z.1 z.2):=by
 unfold World.pk;cases hb:w.heap[b]? with
 |none=>simp
 |some x=>
  cases x with
  |map es c=>obtain⟨z1,z2⟩:=z;simp
  |_=>simp
theorem nl {w w':World}{b o b' o':Nat}(h:w'.pk b' o'=w.pk b o):w'.cell? ⟨b',o',none⟩=w.cell? ⟨b,o,none⟩:=by
 cases hc:w.cell? ⟨b,o,none⟩with
 |some v=>exact kw.1 (h.trans (kw.2 hc))
 |none=>
  cases hc':w'.cell? ⟨b',o',none⟩with
  |none=>rfl
  |some v=>exact bH (kw.1 (h.symm.trans (kw.2 hc'))) (by rw[hc];simp)
theorem yo {w w':World}{b o:Nat}(hc:w'.cell? ⟨b,o,none⟩=w.cell? ⟨b,o,none⟩)(hm:∀es c,w'.heap[b]? =some (.map es c)↔w.heap[b]? =some (.map es c)):w'.pk b o=w.pk b o:=by
 cases h:w.pk b o with
 |some x=>
  cases x with
  |inl v=>exact kw.2 (hc.trans (kw.1 h))
  |inr z=>exact uA.2 ((hm _ _).2 (uA.1 h))
 |none=>
  cases h':w'.pk b o with
  |none=>rfl
  |some x=>
   cases x with
   |inl v=>exact bH (kw.2 (hc.symm.trans (kw.1 h'))) (by rw[h];simp)
   |inr z=>exact bH (uA.2 ((hm _ _).1 (uA.1 h'))) (by rw[h];simp)
theorem vM (w:World)(a:Addr)(v:Value)(i:Nat)(es:Array MapEntry)(c:Nat):(w.setCell a v).heap[i]? =some (.map es c)↔w.heap[i]? =some (.map es c):=by
 simp only[World.setCell,N1]
 by_cases h:a.block=i
 ·rw[ab h]
  cases w.heap[i]? with
  |none=>simp
  |some x=>cases x<;>simp
 ·rw[ao h]
def Ii:(K:Kd)->K.T->Value->Prop
 | .int k,n,v=>v= .int k n
 | .str,s,v=>v= .string s
 |_,_,_=>False
def yp (f b1 o1 b2 o2 c oc:Nat):Value:=.func (.func f) #[] #[.pointer (some ⟨b1,o1,none⟩),.pointer (some ⟨b2,o2,none⟩),.pointer (some ⟨c,oc,none⟩)]
def RO (S:Nat->Prop)(w:World):(K:Kd)->K.T->List Value->Prop
 | .int k,n,cs=>cs=[.int k n]
 | .bool,b,cs=>cs=[.bool b]
 | .str,s,cs=>cs=[.string s]
 | .err,b,cs=>∃v,cs=[v]/\vL b v
 | .raw k,x,cs=>cs=x/\x.length=k.size/\∀v∈x,v.oneCell'=true
 | .sl e,xs,cs=>∃A cap,cs=[.slice A (Jr xs) cap]/\Jr xs<=cap/\
   ∀i (h:i<Jr xs),∃b o vs,A=some ⟨b,o,none⟩/\S b/\CellsAt w b (o+i*e.size) vs/\RO S w e xs[i] vs
 | .st k,x,cs=>RO S w k x cs
 | .pair a b,x,cs=>∃c1 c2,cs=c1++c2/\RO S w a x.1 c1/\RO S w b x.2 c2
 | .mp k e,xs,cs=>(cs=[.map none]/\xs=[])\/∃r es c,cs=[.map (some r)]/\S r/\w.pk r 0=some (.inr (es,c))/\es.size=Jr xs/\
   ∀i (h:i<Jr xs),∃en vs,es[i]? =some en/\Ii k xs[i].1 en.key/\VRep e vs en.val/\RO S w e xs[i].2 vs
 | .fcell f a b,x,cs=>(x=none/\cs=[.nilFunc])\/∃(q:a.T×b.T) (b1 o1 b2 o2 c oc:Nat) (c1 c2:List Value),x=some q/\cs=[yp f b1 o1 b2 o2 c oc]/\
   (S b1/\CellsAt w b1 o1 c1/\RO S w a q.1 c1)/\(S b2/\CellsAt w b2 o2 c2/\RO S w b q.2 c2)/\S c/\CellsAt w c oc [yp f b1 o1 b2 o2 c oc]
theorem RO.length {S:Nat->Prop}{w:World}:∀{K:Kd} {x:K.T} {cs:List Value},RO S w K x cs->cs.length=K.size
 | .int _,_,_,h=>by rw[show _=_ from h];rfl
 | .bool,_,_,h=>by rw[show _=_ from h];rfl
 | .str,_,_,h=>by rw[show _=_ from h];rfl
 | .err,_,_,h=>by obtain⟨v,rfl,_⟩:=h;rfl
 | .raw k,_,_,h=>by obtain⟨rfl,h,_⟩:=h;exact h
 | .sl e,xs,cs,h=>by
  obtain⟨A,cap,rfl,_⟩:=h
  rfl
 | .st k,x,cs,h=>RO.length (K:=k) h
 | .pair a b,x,cs,h=>by
  obtain⟨c1,c2,rfl,h1,h2⟩:=h
  simp[Kd.size,RO.length h1,RO.length h2]
 | .mp k e,xs,cs,h=>by
  rcases h with⟨rfl,_⟩|⟨r,es,c,rfl,_⟩<;>rfl
 | .fcell f a b,x,cs,h=>by
  rcases h with⟨_,rfl⟩|⟨q,b1,o1,b2,o2,c,oc,c1,c2,_,rfl,_⟩<;>rfl
theorem Kd.size_pos:∀K:Kd,0<K.size
 | .int _=>Mr
 | .bool=>Mr
 | .str=>Mr
 | .err=>Mr
 | .raw k=>k.size_pos
 | .sl _=>Mr
 | .st k=>k.size_pos
 | .pair a b=>by have:=a.size_pos;simp only[Kd.size];omega
 | .mp _ _=>Mr
 | .fcell _ _ _=>Mr
theorem CellsAt.of_same {w w':World}{b o:Nat}{vs:List Value}(h:CellsAt w b o vs)
  (hs:∀o' v,w.pk b o'=some v->w'.pk b o'=some v):CellsAt w' b o vs:=
 λj hj=>kw.1 (hs _ _ (kw.2 (h j hj)))
theorem RO.mono {S S':Nat->Prop}{w w':World}(hS:∀b,S b->S' b)
  (hw:∀b o v,S b->w.pk b o=some v->w'.pk b o=some v):
  ∀{K:Kd} {x:K.T} {cs:List Value},RO S w K x cs->RO S' w' K x cs
 | .int _,_,_,h=>h
 | .bool,_,_,h=>h
 | .str,_,_,h=>h
 | .err,_,_,h=>h
 | .raw _,_,_,h=>h
 | .sl e,xs,cs,h=>by
  obtain⟨A,cap,rfl,hl,he⟩:=h;refine⟨A,cap,rfl,hl,λi hi=>?_⟩;obtain⟨b,o,vs,hA,hb,hc,hr⟩:=he i hi;exact⟨b,o,vs,hA,hS b hb,hc.of_same (λo' v=>hw b o' v hb),RO.mono hS hw hr⟩
 | .st k,x,cs,h=>RO.mono (K:=k) hS hw h
 | .pair a b,x,cs,h=>by
  obtain⟨c1,c2,rfl,h1,h2⟩:=h;exact⟨c1,c2,rfl,RO.mono hS hw h1,RO.mono hS hw h2⟩
 | .mp k e,xs,cs,h=>by
  rcases h with h|⟨r,es,c,rfl,hr,hp,hl,he⟩
  ·exact .inl h
  ·refine .inr ⟨r,es,c,rfl,hS r hr,hw r 0 _ hr hp,hl,λi hi=>?_⟩
   obtain⟨en,vs,h1,h2,h3,h4⟩:=he i hi;exact⟨en,vs,h1,h2,h3,RO.mono hS hw h4⟩
 | .fcell f a b,x,cs,h=>by
  rcases h with h|⟨q,b1,o1,b2,o2,c,oc,c1,c2,hx,hc,⟨s1,k1,r1⟩,⟨s2,k2,r2⟩,s3,k3⟩
  ·exact .inl h
  ·exact .inr ⟨q,b1,o1,b2,o2,c,oc,c1,c2,hx,hc,⟨hS _ s1,k1.of_same (λo' v=>hw _ o' v s1),RO.mono hS hw r1⟩,⟨hS _ s2,k2.of_same (λo' v=>hw _ o' v s2),RO.mono hS hw r2⟩,hS _ s3,k3.of_same (λo' v=>hw _ o' v s3)⟩
theorem RO.flat {S S':Nat->Prop}{w w':World}:∀{K:Kd} {x:K.T} {cs:List Value},K.flat=true->RO S w K x cs->RO S' w' K x cs
 | .int _,_,_,_,h=>h
 | .bool,_,_,_,h=>h
 | .str,_,_,_,h=>h
 | .err,_,_,_,h=>h
 | .raw _,_,_,_,h=>h
 | .sl _,_,_,hf,_=>bH hf (by simp[Kd.flat])
 | .st k,_,_,hf,h=>RO.flat (K:=k) hf h
 | .pair a b,_,_,hf,h=>by
  have hf':(a.flat&&b.flat)=true:=hf;rw[Jz]at hf';obtain⟨c1,c2,rfl,h1,h2⟩:=h;exact⟨c1,c2,rfl,RO.flat hf'.1 h1,RO.flat hf'.2 h2⟩
 | .mp _ _,_,_,hf,_=>bH hf (by simp[Kd.flat])
 | .fcell _ _ _,_,_,hf,_=>bH hf (by simp[Kd.flat])
theorem Kd.zc_len:∀K:Kd,K.zc.length=K.size
 | .int _=>rfl
 | .bool=>rfl
 | .str=>rfl
 | .err=>rfl
 | .raw k=>k.zc_len
 | .sl _=>rfl
 | .st k=>k.zc_len
 | .pair a b=>by simp[Kd.zc,Kd.size,a.zc_len,b.zc_len]
 | .mp _ _=>rfl
 | .fcell _ _ _=>rfl
theorem Kd.zc_one:∀K:Kd,∀v∈K.zc,v.oneCell'=true
 | .int _,v,h=>by simp[Kd.zc]at h;subst h;rfl
 | .bool,v,h=>by simp[Kd.zc]at h;subst h;rfl
 | .str,v,h=>by simp[Kd.zc]at h;subst h;rfl
 | .err,v,h=>by simp[Kd.zc]at h;subst h;rfl
 | .raw k,v,h=>k.zc_one v h
 | .sl _,v,h=>by simp[Kd.zc]at h;subst h;rfl
 | .st k,v,h=>k.zc_one v h
 | .pair a b,v,h=>by
  rcases KP.1 (show v∈a.zc++b.zc from h)with h|h
  ·exact a.zc_one v h
  ·exact b.zc_one v h
 | .mp _ _,v,h=>by simp[Kd.zc]at h;subst h;rfl
 | .fcell _ _ _,v,h=>by simp[Kd.zc]at h;subst h;rfl
theorem RO.zero {S:Nat->Prop}{w:World}:∀K:Kd,RO S w K K.zero K.zc
 | .int _=>rfl
 | .bool=>rfl
 | .str=>rfl
 | .err=>⟨_,rfl,.inl ⟨rfl,rfl⟩⟩
 | .raw k=>⟨rfl,k.zc_len,k.zc_one⟩
 | .sl _=>⟨none,0,rfl,JU _,λ_ h=>bH h (Nat.not_lt_zero _)⟩
 | .st k=>RO.zero k
 | .pair a b=>⟨a.zc,b.zc,rfl,RO.zero a,RO.zero b⟩
 | .mp _ _=>.inl ⟨rfl,rfl⟩
 | .fcell _ _ _=>.inl ⟨rfl,rfl⟩
theorem RO.vrep {S:Nat->Prop}{w:World}:∀{K:Kd} {x:K.T} {cs:List Value},(∀a b,K≠ .pair a b)->RO S w K x cs->VRep K cs (K.val cs)
 | .int _,_,_,_,h=>by rw[show _=_ from h];exact⟨rfl,rfl⟩
 | .bool,_,_,_,h=>by rw[show _=_ from h];exact⟨rfl,rfl⟩
 | .str,_,_,_,h=>by rw[show _=_ from h];exact⟨rfl,rfl⟩
 | .err,_,_,_,h=>by obtain⟨v,rfl,h⟩:=h;rcases h with⟨_,rfl⟩|⟨_,t,p,rfl⟩<;>exact⟨rfl,rfl⟩
 | .raw _,_,_,_,h=>⟨rfl,rfl⟩
 | .sl e,_,_,_,h=>by obtain⟨A,cap,rfl,_⟩:=h;exact⟨rfl,rfl⟩
 | .st k,_,_,_,h=>⟨rfl,rfl⟩
 | .pair a b,_,_,hp,_=>bH rfl (hp a b)
 | .mp _ _,_,_,_,h=>by rcases h with⟨rfl,_⟩|⟨r,es,c,rfl,_⟩<;>exact⟨rfl,rfl⟩
 | .fcell _ _ _,_,_,_,h=>by rcases h with⟨_,rfl⟩|⟨q,b1,o1,b2,o2,c,oc,c1,c2,_,rfl,_⟩<;>exact⟨rfl,rfl⟩
inductive Md where
 |ro
 |own (m:Md)
 |pr (a b:Md)
def Md.beq:Md->Md->Bool
 | .ro,.ro=>true
 | .own a,.own b=>a.beq b
 | .pr a b,.pr c d=>a.beq c&&b.beq d
 |_,_=>false
theorem Md.eq_of_beq:∀{a b:Md},a.beq b=true->a=b
 | .ro,.ro,_=>rfl
 | .own a,.own b,h=>by rw[Md.eq_of_beq (a:=a) (b:=b) h]
 | .pr a b,.pr c d,h=>by
  have h':(a.beq c&&b.beq d)=true:=h;rw[Jz]at h';rw[Md.eq_of_beq (a:=a) (b:=c) h'.1,Md.eq_of_beq (a:=b) (b:=d) h'.2]
 | .ro,.own _,h| .ro,.pr _ _,h| .own _,.ro,h| .own _,.pr _ _,h| .pr _ _,.ro,h| .pr _ _,.own _,h=>bH h (by simp[Md.beq])
def Md.fst:Md->Md
 | .pr a _=>a
 |_=>.ro
def Md.snd:Md->Md
 | .pr _ b=>b
 |_=>.ro
def Md.elem:Md->Md
 | .own m=>m
 |_=>.ro
def EF (w:World)(b o n:Nat):Prop:=∀j,(j<n->∃v,w.cell? ⟨b,o+j,none⟩=some v)/\w.frozen? ⟨b,o+j,none⟩=false
def Own (S:Nat->Prop)(w:World):(K:Kd)->Md->K.T->List Value->(Nat->Prop)->Prop
 |K,.ro,x,cs,_=>RO S w K x cs
 | .sl e,.own m,xs,cs,F=>∃A cap,cs=[.slice A (Jr xs) cap]/\Jr xs<=cap/\(A=none->cap=0)/\
   (∀ad,A=some ad->ad.spot=none/\F ad.block/\EF w ad.block ad.off (cap*e.size))/\
   ∃G:Nat->Nat->Prop,(∀i b,G i b->F b)/\(∀i ad,A=some ad->¬G i ad.block)/\(∀i j b,i≠j->G i b->¬G j b)/\
    ∀i (h:i<Jr xs),∃b o vs,A=some ⟨b,o,none⟩/\CellsAt w b (o+i*e.size) vs/\Own S w e m xs[i] vs (G i)
 | .st k,.own m,x,cs,F=>Own S w k (.own m) x cs F
 | .st k,.pr m n,x,cs,F=>Own S w k (.pr m n) x cs F
 | .pair a b,.pr m n,x,cs,F=>∃c1 c2 F1 F2,cs=c1++c2/\(∀b,F1 b->F b)/\(∀b,F2 b->F b)/\(∀b,F1 b->¬F2 b)/\
   Own S w a m x.1 c1 F1/\Own S w b n x.2 c2 F2
 | .mp k e,.own m,xs,cs,F=>∃r es c,cs=[.map (some r)]/\F r/\w.pk r 0=some (.inr (es,c))/\es.size=Jr xs/\
   ∃G:Nat->Nat->Prop,(∀i b,G i b->F b)/\(∀i,¬G i r)/\(∀i j b,i≠j->G i b->¬G j b)/\
    ∀i (h:i<Jr xs),∃en vs,es[i]? =some en/\Ii k xs[i].1 en.key/\VRep e vs en.val/\Own S w e m xs[i].2 vs (G i)
 |_,_,_,_,_=>False
theorem Own.ro {S:Nat->Prop}{w:World}{K:Kd}{x:K.T}{cs:List Value}{F:Nat->Prop}:Own S w K .ro x cs F↔RO S w K x cs:=by
 cases K<;>exact Oc
theorem Own.st {S:Nat->Prop}{w:World}{k:Kd}{m:Md}{x:k.T}{cs:List Value}{F:Nat->Prop}:Own S w (.st k) m x cs F↔Own S w k m x cs F:=by
 cases m
 ·exact Own.ro.trans (Iff.symm (Own.ro (K:=k)))
 ·exact Oc
 ·exact Oc
theorem Own.length {S:Nat->Prop}{w:World}:∀{K:Kd} {m:Md} {x:K.T} {cs:List Value} {F:Nat->Prop},Own S w K m x cs F->cs.length=K.size
 |K,.ro,x,cs,F,h=>(Own.ro.1 h).length
 | .sl e,.own m,xs,cs,F,h=>by obtain⟨A,cap,rfl,_⟩:=h;rfl
 | .st k,.own m,x,cs,F,h=>Own.length (K:=k) (m:=.own m) h
 | .st k,.pr m n,x,cs,F,h=>Own.length (K:=k) (m:=.pr m n) h
 | .pair a b,.pr m n,x,cs,F,h=>by
  obtain⟨c1,c2,F1,F2,rfl,_,_,_,h1,h2⟩:=h
  simp[Kd.size,Own.length h1,Own.length h2]
 | .mp k e,.own m,xs,cs,F,h=>by obtain⟨r,es,c,rfl,_⟩:=h;rfl
 | .int _,.own _,_,_,_,h| .bool,.own _,_,_,_,h| .str,.own _,_,_,_,h| .err,.own _,_,_,_,h| .raw _,.own _,_,_,_,h| .pair _ _,.own _,_,_,_,h=>h.elim
 | .int _,.pr _ _,_,_,_,h| .bool,.pr _ _,_,_,_,h| .str,.pr _ _,_,_,_,h| .err,.pr _ _,_,_,_,h| .raw _,.pr _ _,_,_,_,h| .mp _ _,.pr _ _,_,_,_,h| .sl _,.pr _ _,_,_,_,h=>h.elim
theorem Own.mono {S S':Nat->Prop}{w w':World}(hS:∀b,S b->S' b)
  (hw:∀b o v,S b->w.pk b o=some v->w'.pk b o=some v):
  ∀{K:Kd} {m:Md} {x:K.T} {cs:List Value} {F F':Nat->Prop},(∀b,F b->F' b)->
   (∀b o,F b->w'.pk b o=w.pk b o/\w'.frozen? ⟨b,o,none⟩=w.frozen? ⟨b,o,none⟩)->
   Own S w K m x cs F->Own S' w' K m x cs F'
 |K,.ro,x,cs,F,F',_,_,h=>Own.ro.2 ((Own.ro.1 h).mono hS hw)
 | .sl e,.own m,xs,cs,F,F',hF,hf,h=>by
  obtain⟨A,cap,rfl,hl,hn,hr,G,hG,hG1,hG2,he⟩:=h;refine⟨A,cap,rfl,hl,hn,λad had=>?_,G,λi b h=>hF b (hG i b h),hG1,hG2,λi hi=>?_⟩
  ·obtain⟨h1,h2,h3⟩:=hr ad had
   refine⟨h1,hF _ h2,λj=>?_⟩;obtain⟨h4,hz⟩:=h3 j;obtain⟨e1,e2⟩:=hf ad.block (ad.off+j) h2;exact⟨λhj=>by obtain⟨v,hv⟩:=h4 hj;exact⟨v,kw.1 (by rw[e1];exact kw.2 hv)⟩,by rw[e2];exact hz⟩
  ·obtain⟨b,o,vs,hA,hc,ho⟩:=he i hi
   refine⟨b,o,vs,hA,?_,Own.mono hS hw (λ_ h=>h) (λb o hb=>hf b o (hG i b hb)) ho⟩;have hb:F b:=(hr _ hA).2.1;exact hc.of_same λo' v hv=>by rw[(hf b o' hb).1];exact hv
 | .st k,.own m,x,cs,F,F',hF,hf,h=>Own.mono (K:=k) (m:=.own m) hS hw hF hf h
 | .st k,.pr m n,x,cs,F,F',hF,hf,h=>Own.mono (K:=k) (m:=.pr m n) hS hw hF hf h
 | .pair a b,.pr m n,x,cs,F,F',hF,hf,h=>by
  obtain⟨c1,c2,F1,F2,rfl,h1,h2,h3,ha,hb⟩:=h;exact⟨c1,c2,F1,F2,rfl,λb h=>hF b (h1 b h),λb h=>hF b (h2 b h),h3,
   Own.mono hS hw (λ_ h=>h) (λb o hb=>hf b o (h1 b hb)) ha,Own.mono hS hw (λ_ h=>h) (λb o hb=>hf b o (h2 b hb)) hb⟩
 | .mp k e,.own m,xs,cs,F,F',hF,hf,h=>by
  obtain⟨r,es,c,rfl,hr,hp,hl,G,hG,hG1,hG2,he⟩:=h;refine⟨r,es,c,rfl,hF r hr,(hf r 0 hr).1.trans hp,hl,G,λi b h=>hF b (hG i b h),hG1,hG2,λi hi=>?_⟩;obtain⟨en,vs,h1,h2,h3,h4⟩:=he i hi;exact⟨en,vs,h1,h2,h3,Own.mono hS hw (λ_ h=>h) (λb o hb=>hf b o (hG i b hb)) h4⟩
 | .int _,.own _,_,_,_,_,_,_,h| .bool,.own _,_,_,_,_,_,_,h| .str,.own _,_,_,_,_,_,_,h| .err,.own _,_,_,_,_,_,_,h| .raw _,.own _,_,_,_,_,_,_,h| .pair _ _,.own _,_,_,_,_,_,_,h=>h.elim
 | .int _,.pr _ _,_,_,_,_,_,_,h| .bool,.pr _ _,_,_,_,_,_,_,h| .str,.pr _ _,_,_,_,_,_,_,h| .err,.pr _ _,_,_,_,_,_,_,h| .raw _,.pr _ _,_,_,_,_,_,_,h| .mp _ _,.pr _ _,_,_,_,_,_,_,h| .sl _,.pr _ _,_,_,_,_,_,_,h=>h.elim
theorem Own.toRO {S S':Nat->Prop}{w:World}(hS:∀b,S b->S' b):
  ∀{K:Kd} {m:Md} {x:K.T} {cs:List Value} {F:Nat->Prop},(∀b,F b->S' b)->Own S w K m x cs F->RO S' w K x cs
 |K,.ro,x,cs,F,_,h=>(Own.ro.1 h).mono hS (λ_ _ _ _ h=>h)
 | .sl e,.own m,xs,cs,F,hF,h=>by
  obtain⟨A,cap,rfl,hl,hn,hr,G,hG,hG1,hG2,he⟩:=h;refine⟨A,cap,rfl,hl,λi hi=>?_⟩;obtain⟨b,o,vs,hA,hc,ho⟩:=he i hi;exact⟨b,o,vs,hA,hF _ (hr _ hA).2.1,hc,Own.toRO hS (λb hb=>hF b (hG i b hb)) ho⟩
 | .st k,.own m,x,cs,F,hF,h=>Own.toRO (K:=k) (m:=.own m) hS hF h
 | .st k,.pr m n,x,cs,F,hF,h=>Own.toRO (K:=k) (m:=.pr m n) hS hF h
 | .pair a b,.pr m n,x,cs,F,hF,h=>by
  obtain⟨c1,c2,F1,F2,rfl,h1,h2,h3,ha,hb⟩:=h;exact⟨c1,c2,rfl,Own.toRO hS (λb h=>hF b (h1 b h)) ha,Own.toRO hS (λb h=>hF b (h2 b h)) hb⟩
 | .mp k e,.own m,xs,cs,F,hF,h=>by
  obtain⟨r,es,c,rfl,hr,hp,hl,G,hG,hG1,hG2,he⟩:=h;refine .inr ⟨r,es,c,rfl,hF r hr,hp,hl,λi hi=>?_⟩;obtain⟨en,vs,h1,h2,h3,h4⟩:=he i hi;exact⟨en,vs,h1,h2,h3,Own.toRO hS (λb hb=>hF b (hG i b hb)) h4⟩
 | .int _,.own _,_,_,_,_,h| .bool,.own _,_,_,_,_,h| .str,.own _,_,_,_,_,h| .err,.own _,_,_,_,_,h| .raw _,.own _,_,_,_,_,h| .pair _ _,.own _,_,_,_,_,h=>h.elim
 | .int _,.pr _ _,_,_,_,_,h| .bool,.pr _ _,_,_,_,_,h| .str,.pr _ _,_,_,_,_,h| .err,.pr _ _,_,_,_,_,h| .raw _,.pr _ _,_,_,_,_,h| .mp _ _,.pr _ _,_,_,_,_,h| .sl _,.pr _ _,_,_,_,_,h=>h.elim
def Md.full:Kd->Md->Bool
 |K,.ro=>K.flat
 | .sl e,.own m=>Md.full e m
 | .st k,m=>Md.full k m
 | .pair a b,.pr m n=>Md.full a m&&Md.full b n
 | .mp _ e,.own m=>Md.full e m
 |_,_=>false
theorem Own.full {S S':Nat->Prop}{w:World}:
  ∀{K:Kd} {m:Md} {x:K.T} {cs:List Value} {F:Nat->Prop},Md.full K m=true->Own S w K m x cs F->Own S' w K m x cs F
 |K,.ro,x,cs,F,hf,h=>Own.ro.2 ((Own.ro.1 h).flat (by cases K<;>exact hf))
 | .sl e,.own m,xs,cs,F,hf,h=>by
  obtain⟨A,cap,rfl,hl,hn,hr,G,hG,hG1,hG2,he⟩:=h;refine⟨A,cap,rfl,hl,hn,hr,G,hG,hG1,hG2,λi hi=>?_⟩;obtain⟨b,o,vs,hA,hc,ho⟩:=he i hi;exact⟨b,o,vs,hA,hc,Own.full (show Md.full e m=true from hf) ho⟩
 | .st k,.own m,x,cs,F,hf,h=>Own.full (K:=k) (m:=.own m) hf h
 | .st k,.pr m n,x,cs,F,hf,h=>Own.full (K:=k) (m:=.pr m n) hf h
 | .pair a b,.pr m n,x,cs,F,hf,h=>by
  have hf':(Md.full a m&&Md.full b n)=true:=hf;rw[Jz]at hf';obtain⟨c1,c2,F1,F2,rfl,h1,h2,h3,ha,hb⟩:=h;exact⟨c1,c2,F1,F2,rfl,h1,h2,h3,Own.full hf'.1 ha,Own.full hf'.2 hb⟩
 | .mp k e,.own m,xs,cs,F,hf,h=>by
  obtain⟨r,es,c,rfl,hr,hp,hl,G,hG,hG1,hG2,he⟩:=h;refine⟨r,es,c,rfl,hr,hp,hl,G,hG,hG1,hG2,λi hi=>?_⟩;obtain⟨en,vs,h1,h2,h3,h4⟩:=he i hi;exact⟨en,vs,h1,h2,h3,Own.full (show Md.full e m=true from hf) h4⟩
 | .int _,.own _,_,_,_,_,h| .bool,.own _,_,_,_,_,h| .str,.own _,_,_,_,_,h| .err,.own _,_,_,_,_,h| .raw _,.own _,_,_,_,_,h| .pair _ _,.own _,_,_,_,_,h=>h.elim
 | .int _,.pr _ _,_,_,_,_,h| .bool,.pr _ _,_,_,_,_,h| .str,.pr _ _,_,_,_,_,h| .err,.pr _ _,_,_,_,_,h| .raw _,.pr _ _,_,_,_,_,h| .mp _ _,.pr _ _,_,_,_,_,h| .sl _,.pr _ _,_,_,_,_,h=>h.elim
theorem Own.vrep {S:Nat->Prop}{w:World}{K:Kd}{m:Md}{x:K.T}{cs:List Value}{F:Nat->Prop}(hp:∀a b,K≠ .pair a b)(h:Own S w K m x cs F):VRep K cs (K.val cs):=
 RO.vrep hp (Own.toRO (S':=λb=>S b\/F b) (λ_=>Or.inl) (λ_=>Or.inr) h)
inductive Step where
 |inn
 |fst
 |snd
 |idx (i:Int)
abbrev bK:=List Step
def aS:(K:Kd)->Md->K.T->bK->Option ((K':Kd)×Md×K'.T)
 |K,m,x,[]=>some ⟨K,m,x⟩
 | .st k,m,x,.inn::p=>aS k m x p
 | .pair a _,m,x,.fst::p=>aS a m.fst x.1 p
 | .pair _ b,m,x,.snd::p=>aS b m.snd x.2 p
 | .sl e,.own m,xs,.idx i::p=>aS e m (Jv xs i.toNat e.zero) p
 |_,_,_,_=>none
def gB:(K:Kd)->K.T->bK->(K':Kd)->K'.T->Option K.T
 |K,_,[],K',y=>if h:K'.beq K=true then some (Kd.eq_of_beq h▸y)else none
 | .st k,x,.inn::p,K',y=>gB k x p K' y
 | .pair a b,x,.fst::p,K',y=>match gB a x.1 p K' y with|some z=>some ((z,x.2):a.T×b.T)|none=>none
 | .pair a b,x,.snd::p,K',y=>match gB b x.2 p K' y with|some z=>some ((x.1,z):a.T×b.T)|none=>none
 | .sl e,xs,.idx i::p,K',y=>match gB e (Jv xs i.toNat e.zero) p K' y with|some z=>some (KO xs i.toNat z)|none=>none
 |_,_,_,_,_=>none
def vN:Md->Md->Md
 | .ro,.ro=>.ro
 |a,b=>.pr a b
def jb:Md->bK->Md->Option Md
 |_,[],m2=>some m2
 |m,.inn::p,m2=>jb m p m2
 |m,.fst::p,m2=>match m with
  | .own _=>none
  |m=>match jb m.fst p m2 with|some a=>some (vN a m.snd)|none=>none
 |m,.snd::p,m2=>match m with
  | .own _=>none
  |m=>match jb m.snd p m2 with|some b=>some (vN m.fst b)|none=>none
 |m,.idx _::p,m2=>match m with
  | .own m=>match jb m p m2 with|some m3=>if m3.beq m then some (.own m)else none|none=>none
  |_=>none
def aV:bK->Bool
 |[]=>false
 | .idx _::_=>true
 |_::p=>aV p
abbrev Place:=Option (Nat×Nat)
def Place.up (pl:Place)(n:Nat):Place:=pl.map λq=>(q.1,q.2+n)
def ji (w:World)(b o n:Nat):List Value:=(List.range n).map λj=>(w.cell? ⟨b,o+j,none⟩).getD undef
def bW:bK->Kd->List Value->List Value->List Value
 |[],_,_,cs2=>cs2
 | .inn::p,.st k,cs,cs2=>bW p k cs cs2
 | .fst::p,.pair a _,cs,cs2=>bW p a (cs.take a.size) cs2++cs.drop a.size
 | .snd::p,.pair a b,cs,cs2=>cs.take a.size++bW p b (cs.drop a.size) cs2
 |_,_,cs,_=>cs
def fy:bK->bK->Bool
 |[],_=>true
 | .inn::q,.inn::p=>fy q p
 | .fst::q,.fst::p=>fy q p
 | .snd::q,.snd::p=>fy q p
 | .idx _::q,.idx _::p=>fy q p
 |_,_=>false
def gu (p q:bK):Bool:=fy q p||(fy p q&& !aV (q.drop p.length))
def iU (p q:bK):Bool:=fy q p&&aV (p.drop q.length)
theorem eW {w:World}{b o:Nat}{vs:List Value}(h:CellsAt w b o vs){n:Nat}(hn:vs.length=n):ji w b o n=vs:=by
 subst hn;unfold ji;apply List.ext_getElem
 ·simp
 ·intro i h1 h2
  simp[h i h2]
def ck (w:World):bK->Kd->Place->List Value->Option (Place×List Value)
 |[],_,pl,cs=>some (pl,cs)
 | .inn::p,.st k,pl,cs=>ck w p k pl cs
 | .fst::p,.pair a _,pl,cs=>ck w p a pl (cs.take a.size)
 | .snd::p,.pair a b,pl,cs=>ck w p b (pl.up a.size) (cs.drop a.size)
 | .idx i::p,.sl e,_,[.slice (some ⟨b,o,none⟩) n _]=>
  if 0<=i/\i<n then ck w p e (some (b,o+i.toNat*e.size)) (ji w b (o+i.toNat*e.size) e.size)else none
 |_,_,_,_=>none
theorem jc {w w2:World}:∀(p:bK) {K:Kd} {pl:Place} {cs c2:List Value} {r:Place} {c:List Value},aV p=false->ck w p K pl cs=some (r,c)->∃c3,ck w2 p K pl c2=some (r,c3)
 |[],K,pl,cs,c2,r,c,_,h=>by
  simp only[ck,JD,JW]at h;exact⟨c2,by simp only[ck,h.1]⟩
 | .inn::p,.st k,pl,cs,c2,r,c,hi,h=>jc p (K:=k) (by simpa[aV]using hi) h
 | .fst::p,.pair a b,pl,cs,c2,r,c,hi,h=>jc p (K:=a) (by simpa[aV]using hi) h
 | .snd::p,.pair a b,pl,cs,c2,r,c,hi,h=>jc p (K:=b) (by simpa[aV]using hi) h
 | .idx i::p,_,pl,cs,c2,r,c,hi,h=>by simp[aV]at hi
 | .inn::_,.int _,_,_,_,_,_,_,h| .inn::_,.bool,_,_,_,_,_,_,h| .inn::_,.str,_,_,_,_,_,_,h| .inn::_,.err,_,_,_,_,_,_,h| .inn::_,.mp _ _,_,_,_,_,_,_,h| .inn::_,.fcell _ _ _,_,_,_,_,_,_,h| .inn::_,.raw _,_,_,_,_,_,_,h| .inn::_,.sl _,_,_,_,_,_,_,h| .inn::_,.pair _ _,_,_,_,_,_,_,h=>by simp[ck]at h
 | .fst::_,.int _,_,_,_,_,_,_,h| .fst::_,.bool,_,_,_,_,_,_,h| .fst::_,.str,_,_,_,_,_,_,h| .fst::_,.err,_,_,_,_,_,_,h| .fst::_,.mp _ _,_,_,_,_,_,_,h| .fst::_,.fcell _ _ _,_,_,_,_,_,_,h| .fst::_,.raw _,_,_,_,_,_,_,h| .fst::_,.sl _,_,_,_,_,_,_,h| .fst::_,.st _,_,_,_,_,_,_,h=>by simp[ck]at h
 | .snd::_,.int _,_,_,_,_,_,_,h| .snd::_,.bool,_,_,_,_,_,_,h| .snd::_,.str,_,_,_,_,_,_,h| .snd::_,.err,_,_,_,_,_,_,h| .snd::_,.mp _ _,_,_,_,_,_,_,h| .snd::_,.fcell _ _ _,_,_,_,_,_,_,h| .snd::_,.raw _,_,_,_,_,_,_,h| .snd::_,.sl _,_,_,_,_,_,_,h| .snd::_,.st _,_,_,_,_,_,_,h=>by simp[ck]at h
theorem fm:∀(p:bK) {w:World} {K:Kd} {pl:Place} {cs:List Value} {r:Place×List Value} {c2:List Value},aV p=true->ck w p K pl cs=some r->bW p K cs c2=cs
 |[],_,_,_,_,_,_,hi,_=>by simp[aV]at hi
 | .inn::p,w,.st k,pl,cs,r,c2,hi,h=>fm p (K:=k) (by simpa[aV]using hi) h
 | .fst::p,w,.pair a b,pl,cs,r,c2,hi,h=>by
  have:=fm p (K:=a) (c2:=c2) (by simpa[aV]using hi) h;simp only[bW,this,KR]
 | .snd::p,w,.pair a b,pl,cs,r,c2,hi,h=>by
  have:=fm p (K:=b) (c2:=c2) (by simpa[aV]using hi) h;simp only[bW,this,KR]
 | .idx i::p,_,K,_,cs,_,c2,_,_=>by simp only[bW]
 | .inn::_,_,.int _,_,_,_,_,_,h| .inn::_,_,.bool,_,_,_,_,_,h| .inn::_,_,.str,_,_,_,_,_,h| .inn::_,_,.err,_,_,_,_,_,h| .inn::_,_,.mp _ _,_,_,_,_,_,h| .inn::_,_,.fcell _ _ _,_,_,_,_,_,h| .inn::_,_,.raw _,_,_,_,_,_,h| .inn::_,_,.sl _,_,_,_,_,_,h| .inn::_,_,.pair _ _,_,_,_,_,_,h=>by simp[ck]at h
 | .fst::_,_,.int _,_,_,_,_,_,h| .fst::_,_,.bool,_,_,_,_,_,h| .fst::_,_,.str,_,_,_,_,_,h| .fst::_,_,.err,_,_,_,_,_,h| .fst::_,_,.mp _ _,_,_,_,_,_,h| .fst::_,_,.fcell _ _ _,_,_,_,_,_,h| .fst::_,_,.raw _,_,_,_,_,_,h| .fst::_,_,.sl _,_,_,_,_,_,h| .fst::_,_,.st _,_,_,_,_,_,h=>by simp[ck]at h
 | .snd::_,_,.int _,_,_,_,_,_,h| .snd::_,_,.bool,_,_,_,_,_,h| .snd::_,_,.str,_,_,_,_,_,h| .snd::_,_,.err,_,_,_,_,_,h| .snd::_,_,.mp _ _,_,_,_,_,_,h| .snd::_,_,.fcell _ _ _,_,_,_,_,_,h| .snd::_,_,.raw _,_,_,_,_,_,h| .snd::_,_,.sl _,_,_,_,_,_,h| .snd::_,_,.st _,_,_,_,_,_,h=>by simp[ck]at h
theorem eG:∀(p:bK) {w:World} {K:Kd} {pl:Place} {cs:List Value} {r:Place} {c2:List Value},ck w p K pl cs=some (r,c2)->bW p K cs c2=cs
 |[],_,_,_,_,_,_,h=>by simp only[ck,JD,JW]at h;simp only[bW,h.2]
 | .inn::p,w,.st k,pl,cs,r,c2,h=>eG p (K:=k) h
 | .fst::p,w,.pair a b,pl,cs,r,c2,h=>by
  have:=eG p (K:=a) (c2:=c2) h;simp only[bW,this,KR]
 | .snd::p,w,.pair a b,pl,cs,r,c2,h=>by
  have:=eG p (K:=b) (c2:=c2) h;simp only[bW,this,KR]
 | .idx i::p,_,K,_,cs,_,c2,_=>by simp only[bW]
 | .inn::_,_,.int _,_,_,_,_,h| .inn::_,_,.bool,_,_,_,_,h| .inn::_,_,.str,_,_,_,_,h| .inn::_,_,.err,_,_,_,_,h| .inn::_,_,.mp _ _,_,_,_,_,h| .inn::_,_,.fcell _ _ _,_,_,_,_,h| .inn::_,_,.raw _,_,_,_,_,h| .inn::_,_,.sl _,_,_,_,_,h| .inn::_,_,.pair _ _,_,_,_,_,h=>by simp[ck]at h
 | .fst::_,_,.int _,_,_,_,_,h| .fst::_,_,.bool,_,_,_,_,h| .fst::_,_,.str,_,_,_,_,h| .fst::_,_,.err,_,_,_,_,h| .fst::_,_,.mp _ _,_,_,_,_,h| .fst::_,_,.fcell _ _ _,_,_,_,_,h| .fst::_,_,.raw _,_,_,_,_,h| .fst::_,_,.sl _,_,_,_,_,h| .fst::_,_,.st _,_,_,_,_,h=>by simp[ck]at h
 | .snd::_,_,.int _,_,_,_,_,h| .snd::_,_,.bool,_,_,_,_,h| .snd::_,_,.str,_,_,_,_,h| .snd::_,_,.err,_,_,_,_,h| .snd::_,_,.mp _ _,_,_,_,_,h| .snd::_,_,.fcell _ _ _,_,_,_,_,h| .snd::_,_,.raw _,_,_,_,_,h| .snd::_,_,.sl _,_,_,_,_,h| .snd::_,_,.st _,_,_,_,_,h=>by simp[ck]at h
def PlOk (w:World)(pl:Place)(cs:List Value):Prop:=
 ∀b o,pl=some (b,o)->CellsAt w b o cs/\∀j,j<cs.length->w.frozen? ⟨b,o+j,none⟩=false
def tA (pl:Place)(n b o:Nat):Prop:=∃o0,pl=some (b,o0)/\o0<=o/\o<o0+n
theorem CellsAt.append {w:World}{b o:Nat}{c1 c2:List Value}(h:CellsAt w b o (c1++c2)):CellsAt w b o c1/\CellsAt w b (o+c1.length) c2:=by
 refine⟨λj hj=>?_,λj hj=>?_⟩
 ·have:=h j (by simp;omega)
  rwa [Mf hj]at this
 ·have:=h (c1.length+j) (by simp;omega)
  rw[MH (by omega)]at this;simpa[Mk]using this
theorem CellsAt.join {w:World}{b o:Nat}{c1 c2:List Value}(h1:CellsAt w b o c1)(h2:CellsAt w b (o+c1.length) c2):CellsAt w b o (c1++c2):=by
 intro j hj
 by_cases h:j<c1.length
 ·rw[Mf h];exact h1 j h
 ·rw[MH (by omega)]
  have:=h2 (j - c1.length) (by simp at hj;omega)
  rwa [show o+c1.length+(j - c1.length)=o+j by omega]at this
theorem PlOk.append {w:World}{pl:Place}{c1 c2:List Value}(h:PlOk w pl (c1++c2)):PlOk w pl c1/\PlOk w (pl.up c1.length) c2:=by
 refine⟨λb o e=>?_,λb o e=>?_⟩
 ·obtain⟨h1,h2⟩:=h b o e
  exact⟨h1.append.1,λj hj=>h2 j (by simp;omega)⟩
 ·cases pl with
  |none=>simp[Place.up]at e
  |some q=>
   obtain⟨b',o'⟩:=q;simp only[Place.up,Lk,JD,JW]at e;obtain⟨rfl,rfl⟩:=e;obtain⟨h1,h2⟩:=h b' o' rfl;refine⟨h1.append.2,λj hj=>?_⟩;have:=h2 (c1.length+j) (by simp;omega)
   rwa [show o'+(c1.length+j)=o'+c1.length+j by omega]at this
theorem PlOk.join {w:World}{pl:Place}{c1 c2:List Value}(h1:PlOk w pl c1)(h2:PlOk w (pl.up c1.length) c2):PlOk w pl (c1++c2):=by
 intro b o e;obtain⟨a1,a2⟩:=h1 b o e;obtain⟨b1,b2⟩:=h2 b (o+c1.length) (by rw[e];rfl);refine⟨a1.join b1,λj hj=>?_⟩
 by_cases h:j<c1.length
 ·exact a2 j h
 ·have:=b2 (j - c1.length) (by simp at hj;omega)
  rwa [show o+c1.length+(j - c1.length)=o+j by omega]at this
theorem PlOk.of_same {w w':World}{pl:Place}{cs:List Value}(h:PlOk w pl cs)
  (hs:∀b o,tA pl cs.length b o->w'.pk b o=w.pk b o/\w'.frozen? ⟨b,o,none⟩=w.frozen? ⟨b,o,none⟩):PlOk w' pl cs:=by
 intro b o e;obtain⟨h1,h2⟩:=h b o e;refine⟨λj hj=>?_,λj hj=>?_⟩
 ·rw[nl (hs b (o+j) ⟨o,e,by omega,by omega⟩).1];exact h1 j hj
 ·rw[(hs b (o+j) ⟨o,e,by omega,by omega⟩).2];exact h2 j hj
theorem Own.pair_parts {S:Nat->Prop}{w:World}{a b:Kd}{m:Md}{x:a.T×b.T}{cs:List Value}{F:Nat->Prop}(hm:∀n,m≠ .own n)
  (h:Own S w (.pair a b) m x cs F):∃c1 c2 F1 F2,cs=c1++c2/\(∀b,F1 b->F b)/\(∀b,F2 b->F b)/\(∀b,F1 b->¬F2 b)/\
   Own S w a m.fst x.1 c1 F1/\Own S w b m.snd x.2 c2 F2:=by
 cases m with
 |ro=>
  obtain⟨c1,c2,rfl,h1,h2⟩:=h;exact⟨c1,c2,λ_=>False,λ_=>False,rfl,λ_ h=>h.elim,λ_ h=>h.elim,λ_ h=>h.elim,Own.ro.2 h1,Own.ro.2 h2⟩
 |own n=>exact bH rfl (hm n)
 |pr m n=>exact h
theorem Own.pair_join {S:Nat->Prop}{w:World}{a b:Kd}{m n:Md}{x:a.T}{y:b.T}{c1 c2:List Value}{F F1 F2:Nat->Prop}
  (h1:∀b,F1 b->F b) (h2:∀b,F2 b->F b) (h3:∀b,F1 b->¬F2 b) (ha:Own S w a m x c1 F1) (hb:Own S w b n y c2 F2):
  Own S w (.pair a b) (vN m n) ((x,y):a.T×b.T) (c1++c2) F:=by
 have key:Own S w (.pair a b) (.pr m n) ((x,y):a.T×b.T) (c1++c2) F:=⟨c1,c2,F1,F2,rfl,h1,h2,h3,ha,hb⟩;unfold vN
 split
 ·exact⟨c1,c2,rfl,Own.ro.1 ha,Own.ro.1 hb⟩
 ·exact key
theorem iz {S:Nat->Prop}{w w2:World}:∀(p:bK) {K:Kd} {m:Md} {x:K.T} {cs:List Value} {F:Nat->Prop} {pl:Place} {r:Place×List Value} {g:(K':Kd)×Md×K'.T},
  aS K m x p=some g->Own S w K m x cs F->(∀b o,F b->w2.pk b o=w.pk b o)->ck w p K pl cs=some r->ck w2 p K pl cs=some r
 |[],_,_,_,_,_,_,_,_,_,_,_,h=>h
 | .inn::p,.st k,m,x,cs,F,pl,r,g,hg,ho,hs,h=>iz p (K:=k) hg (Own.st.1 ho) hs h
 | .fst::p,.pair a b,m,x,cs,F,pl,r,g,hg,ho,hs,h=>by
  by_cases hm0:∃n,m= .own n
  ·obtain⟨n,rfl⟩:=hm0;exact ho.elim
  obtain⟨c1,c2,F1,F2,rfl,k1,k2,k3,o1,o2⟩:=Own.pair_parts (λn e=>hm0 ⟨n,e⟩) ho;simp only[ck]at h⊢;rw[← o1.length,Lf]at h⊢;exact iz p (K:=a) hg o1 (λb o hF=>hs b o (k1 b hF)) h
 | .snd::p,.pair a b,m,x,cs,F,pl,r,g,hg,ho,hs,h=>by
  by_cases hm0:∃n,m= .own n
  ·obtain⟨n,rfl⟩:=hm0;exact ho.elim
  obtain⟨c1,c2,F1,F2,rfl,k1,k2,k3,o1,o2⟩:=Own.pair_parts (λn e=>hm0 ⟨n,e⟩) ho;simp only[ck]at h⊢;rw[← o1.length,KL]at h⊢;exact iz p (K:=b) hg o2 (λb o hF=>hs b o (k2 b hF)) h
 | .idx i::p,.sl e,.own m,xs,cs,F,pl,r,g,hg,ho,hs,h=>by
  obtain⟨A,cap,rfl,hl,hnil,hr,G,hG,hG1,hG2,he⟩:=ho;cases A with
  |none=>simp[ck]at h
  |some ad=>
   obtain⟨b,o,sp⟩:=ad;have hsp:sp=none:=(hr _ rfl).1;subst hsp;simp only[ck]at h⊢
   split at h
   ·rename_i hi
    rw[ab hi];have hi':i.toNat<Jr xs:=by omega
    obtain⟨b',o',vs,hA,hc,hov⟩:=he i.toNat hi';simp only[JD,M2,and_true]at hA;obtain⟨rfl,rfl⟩:=hA;have hFb:F b:=(hr _ rfl).2.1;have hc2:CellsAt w2 b (o+i.toNat*e.size) vs:=hc.of_same λo' v hv=>by rw[hs b o' hFb];exact hv
    rw[eW hc hov.length]at h;rw[eW hc2 hov.length];have hget:Jv xs i.toNat e.zero=xs[i.toNat]:=by simp[Jv,hi']
    have hg':aS e m (xs[i.toNat]) p=some g:=by
     have:aS e m (Jv xs i.toNat e.zero) p=some g:=hg
     rwa [hget]at this
    exact iz p (K:=e) hg' hov (λb1 o1 hF=>hs b1 o1 (hG _ b1 hF)) h
   ·cases h
 | .inn::_,.int _,_,_,_,_,_,_,_,hg,_,_,_| .inn::_,.bool,_,_,_,_,_,_,_,hg,_,_,_| .inn::_,.str,_,_,_,_,_,_,_,hg,_,_,_| .inn::_,.err,_,_,_,_,_,_,_,hg,_,_,_| .inn::_,.raw _,_,_,_,_,_,_,_,hg,_,_,_
 | .inn::_,.sl _,_,_,_,_,_,_,_,hg,_,_,_| .inn::_,.pair _ _,_,_,_,_,_,_,_,hg,_,_,_=>by simp[aS]at hg
 | .fst::_,.int _,_,_,_,_,_,_,_,hg,_,_,_| .fst::_,.bool,_,_,_,_,_,_,_,hg,_,_,_| .fst::_,.str,_,_,_,_,_,_,_,hg,_,_,_| .fst::_,.err,_,_,_,_,_,_,_,hg,_,_,_| .fst::_,.raw _,_,_,_,_,_,_,_,hg,_,_,_
 | .fst::_,.sl _,_,_,_,_,_,_,_,hg,_,_,_| .fst::_,.st _,_,_,_,_,_,_,_,hg,_,_,_=>by simp[aS]at hg
 | .snd::_,.int _,_,_,_,_,_,_,_,hg,_,_,_| .snd::_,.bool,_,_,_,_,_,_,_,hg,_,_,_| .snd::_,.str,_,_,_,_,_,_,_,hg,_,_,_| .snd::_,.err,_,_,_,_,_,_,_,hg,_,_,_| .snd::_,.raw _,_,_,_,_,_,_,_,hg,_,_,_
 | .snd::_,.sl _,_,_,_,_,_,_,_,hg,_,_,_| .snd::_,.st _,_,_,_,_,_,_,_,hg,_,_,_=>by simp[aS]at hg
 | .idx _::_,.int _,_,_,_,_,_,_,_,hg,_,_,_| .idx _::_,.bool,_,_,_,_,_,_,_,hg,_,_,_| .idx _::_,.str,_,_,_,_,_,_,_,hg,_,_,_| .idx _::_,.err,_,_,_,_,_,_,_,hg,_,_,_| .idx _::_,.raw _,_,_,_,_,_,_,_,hg,_,_,_
 | .idx _::_,.pair _ _,_,_,_,_,_,_,_,hg,_,_,_| .idx _::_,.st _,_,_,_,_,_,_,_,hg,_,_,_=>by simp[aS]at hg
 | .idx _::_,.sl _,.ro,_,_,_,_,_,_,hg,_,_,_| .idx _::_,.sl _,.pr _ _,_,_,_,_,_,_,hg,_,_,_=>by simp[aS]at hg
structure Ij (w w2:World) (p:bK) (K:Kd) (m:Md) (x:K.T) (cs:List Value) (pl:Place) (K':Kd) (cs' cs2 csn:List Value):Prop where
 al:∀p2 g r,aS K m x p2=some g->ck w p2 K pl cs=some r->gu p2 p=false->ck w2 p2 K pl csn=some r
 pt:∀p2 g r c,aS K m x p2=some g->ck w p2 K pl cs=some (r,c)->iU p2 p=false->∃c3,ck w2 p2 K pl csn=some (r,c3)
 ms:∀p2 g r,aS K m x p2=some g->ck w p2 K pl cs=some r->(∃e,K'= .sl e)->cs2=cs'->gu p2 (p++[.idx 0])=false->ck w2 p2 K pl csn=some r
 mt:∀p2 g r c,aS K m x p2=some g->ck w p2 K pl cs=some (r,c)->(∃e,K'= .sl e)->cs2=cs'->iU p2 (p++[.idx 0])=false->∃c3,ck w2 p2 K pl csn=some (r,c3)
structure Focus (S:Nat->Prop) (w:World) (p:bK) (K:Kd) (m:Md) (x:K.T) (cs:List Value) (F:Nat->Prop) (pl:Place)
  (K':Kd) (m':Md) (x':K'.T) (cs':List Value) (pl':Place) (F':Nat->Prop):Prop where
 sub:∀b,F' b->F b
 own:Own S w K' m' x' cs' F'
 ok:PlOk w pl' cs'
 nv:∀w2:World,(∀b o,F b->¬F' b->w2.pk b o=w.pk b o)->ck w2 p K pl cs=some (pl',cs')
 at_:∀b o,pl'=some (b,o)->¬F' b/\((∃o0,pl=some (b,o0)/\o0<=o/\o+K'.size<=o0+K.size)\/F b)
 set:∀(S2:Nat->Prop) (w2:World) (m2 mm:Md) (y:K'.T) (x2:K.T) (cs2:List Value) (F2:Nat->Prop),gB K x p K' y=some x2->jb m p m2=some mm->
  (∀b,S b->S2 b)->(∀b o v,S b->w.pk b o=some v->w2.pk b o=some v)->
  (∀b o,F b->¬F' b->¬tA pl' K'.size b o->w2.pk b o=w.pk b o/\w2.frozen? ⟨b,o,none⟩=w.frozen? ⟨b,o,none⟩)->
  (∀b o,tA pl K.size b o->¬tA pl' K'.size b o->w2.pk b o=w.pk b o/\w2.frozen? ⟨b,o,none⟩=w.frozen? ⟨b,o,none⟩)->
  PlOk w2 pl' cs2->Own S2 w2 K' m2 y cs2 F2->(∀b,F2 b->F b->F' b)->(∀b o,pl=some (b,o)->¬F2 b)->(∀b o,pl'=some (b,o)->¬F2 b)->
  Own S2 w2 K mm x2 (bW p K cs cs2) (λb=>(F b/\¬F' b)\/F2 b)/\PlOk w2 pl (bW p K cs cs2)/\Ij w w2 p K m x cs pl K' cs' cs2 (bW p K cs cs2)
theorem pZ {i j s a b:Nat}(h:i≠j)(ha:a<s)(hb:b<s):i*s+a≠j*s+b:=by
 intro e;rcases Nat.lt_or_gt_of_ne h with hlt|hlt
 ·have:(i+1)*s<=j*s:=Kk s hlt
  rw[KJ,Lh]at this;omega
 ·have:(j+1)*s<=i*s:=Kk s hlt
  rw[KJ,Lh]at this;omega
theorem nC {S:Nat->Prop}{w:World}:∀(p:bK) {K:Kd} {m:Md} {x:K.T} {cs:List Value} {F:Nat->Prop} {pl:Place}
  {K':Kd} {m':Md} {x':K'.T} {cs':List Value} {pl':Place},aS K m x p=some ⟨K',m',x'⟩->ck w p K pl cs=some (pl',cs')->
  Own S w K m x cs F->PlOk w pl cs->(∀b o,pl=some (b,o)->¬F b)->∃F',Focus S w p K m x cs F pl K' m' x' cs' pl' F'
 |[],K,m,x,cs,F,pl,K',m',x',cs',pl',hg,hn,ho,hp,hb=>by
  simp only[aS,JD]at hg;simp only[ck,JD,JW]at hn;obtain⟨rfl,rfl⟩:=hn;cases hg;refine⟨F,λ_ h=>h,ho,hp,λ_ _=>rfl,λb o e=>⟨hb b o e,.inl ⟨o,e,JU _,JU _⟩⟩,?_⟩;intro S2 w2 m2 mm y x2 cs2 F2 hs hm _ _ _ _ hok hown _ _ _;simp only[jb,JD]at hm;subst hm;simp only[gB]at hs
  split at hs
  ·rename_i hk
   simp only[JD]at hs;have hs1:y=x2:=hs;subst hs1;refine⟨hown.mono (λ_ h=>h) (λ_ _ _ _ h=>h) (λb h=>.inr h) (λ_ _ _=>⟨rfl,rfl⟩),hok,?_⟩;refine⟨λp2 g r _ _ hh=>?_,λp2 g r c _ hn hh=>?_,λp2 g r hg hn hk hc hh=>?_,λp2 g r c hg hn hk hc hh=>?_⟩
   ·simp[gu,fy]at hh
   ·exact jc p2 (by simpa[iU,fy]using hh) hn
   ·have hc':cs2=cs:=hc
    show ck w2 p2 K pl cs2=some r;rw[hc'];obtain⟨e,rfl⟩:=hk;cases p2 with
    |nil=>exact hn
    |cons s p2=>cases s<;>first|(simp[ck]at hn;done)|(simp[gu,fy]at hh;done)
   ·have hc':cs2=cs:=hc
    show∃c3,ck w2 p2 K pl cs2=some (r,c3)
    rw[hc'];obtain⟨e,rfl⟩:=hk;cases p2 with
    |nil=>exact⟨_,hn⟩
    |cons s p2=>
     cases s with
     |idx i=>
      cases m with
      |own m=>
       obtain⟨A,cap,rfl,hl,hnil,hr,_⟩:=ho;cases A with
       |none=>simp[ck]at hn
       |some ad=>
        obtain⟨b,o,sp⟩:=ad;have hsp:sp=none:=(hr _ rfl).1;subst hsp;simp only[ck]at hn⊢
        split at hn
        ·rename_i hi
         rw[ab hi];refine jc p2 ?_ hn;simpa[iU,fy]using hh
        ·cases hn
      |_=>simp[aS]at hg
     |_=>simp[ck]at hn
  ·cases hs
 | .inn::p,.st k,m,x,cs,F,pl,K',m',x',cs',pl',hg,hn,ho,hp,hb=>by
  obtain⟨F',f⟩:=nC p (K:=k) (m:=m) (x:=x) (cs:=cs) (F:=F) (pl:=pl) hg hn (Own.st.1 ho) hp hb;refine⟨F',f.sub,f.own,f.ok,f.nv,f.at_,?_⟩;intro S2 w2 m2 mm y x2 cs2 F2 hs hm h1 h2 h3 h4 h5 h6 h7 h8 h9;obtain⟨c1,c2,c3⟩:=f.set S2 w2 m2 mm y x2 cs2 F2 hs hm h1 h2 h3 h4 h5 h6 h7 h8 h9;refine⟨Own.st.2 c1,c2,?_⟩;refine⟨λp2 g r hg2 hn2 hh=>?_,λp2 g r c hg2 hn2 hh=>?_,λp2 g r hg2 hn2 hk hc hh=>?_,λp2 g r c hg2 hn2 hk hc hh=>?_⟩<;>cases p2 with
   |nil=>
    simp only[ck,JD]at hn2
    first
     |exact⟨_,by simp only[ck,JW]at hn2⊢;rw[hn2.1]⟩
     |(have hx:aV p=true:=by simpa[gu,fy,aV]using hh
       have es:bW (.inn::p) (.st k) cs cs2=cs:=fm p (K:=k) hx hn;rw[es];simp only[ck,hn2])
     |(have es:bW (.inn::p) (.st k) cs cs2=cs:=by rw[hc];exact eG p (K:=k) hn
       rw[es];simp only[ck,hn2])
   |cons s p2=>
    cases s with
    |inn=>first
     |exact c3.al p2 g r hg2 hn2 (by simpa[gu,fy]using hh)
     |exact c3.pt p2 g r c hg2 hn2 (by simpa[iU,fy]using hh)
     |exact c3.ms p2 g r hg2 hn2 hk hc (by simpa[gu,fy]using hh)
     |exact c3.mt p2 g r c hg2 hn2 hk hc (by simpa[iU,fy]using hh)
    |_=>simp[aS]at hg2
 | .fst::p,.pair a b,m,x,cs,F,pl,K',m',x',cs',pl',hg,hn,ho,hp,hb=>by
  by_cases hm0:∃n,m= .own n
  ·obtain⟨n,rfl⟩:=hm0;exact ho.elim
  have hm0':∀n,m≠ .own n:=λn e=>hm0 ⟨n,e⟩
  obtain⟨c1,c2,F1,F2,rfl,k1,k2,k3,o1,o2⟩:=Own.pair_parts hm0' ho;have l1:c1.length=a.size:=o1.length;have hn':ck w p a pl c1=some (pl',cs'):=by
   have:ck w p a pl ((c1++c2).take a.size)=some (pl',cs'):=hn
   rwa [← l1,Lf]at this
  obtain⟨F',f⟩:=nC p (K:=a) (m:=m.fst) (x:=x.1) (cs:=c1) (F:=F1) (pl:=pl) hg hn' o1 hp.append.1 (λb o e h=>hb b o e (k1 b h));refine⟨F',λb h=>k1 b (f.sub b h),f.own,f.ok,λw2 h=>?_,λb o e=>?_,?_⟩
  ·have:=f.nv w2 (λb' o' hF hF'=>h b' o' (k1 b' hF) hF')
   simp only[ck];rw[← l1,Lf];exact this
  ·obtain⟨h1,h2⟩:=f.at_ b o e
   refine⟨h1,?_⟩;rcases h2 with⟨o0,e0,h3,h4⟩|h2
   ·exact .inl ⟨o0,e0,h3,by simp only[Kd.size];omega⟩
   ·exact .inr (k1 b h2)
  intro S2 w2 m2 mm y x2 cs2 Fn hs hm h1 h2 h3 h4 h5 h6 h7 h8 h9;have hs':(match gB a x.1 p K' y with|some z=>some ((z,x.2):a.T×b.T)|none=>none)=some x2:=hs;cases hz:gB a x.1 p K' y with
  |none=>rw[hz]at hs';cases hs'
  |some z=>
   rw[hz]at hs';simp only[JD]at hs';subst hs';have hm':(match jb m.fst p m2 with|some a=>some (vN a m.snd)|none=>none)=some mm:=by
    cases m with
    |own n=>exact bH rfl (hm0' n)
    |ro=>exact hm
    |pr _ _=>exact hm
   cases hq:jb m.fst p m2 with
   |none=>rw[hq]at hm';cases hm'
   |some ma=>
    rw[hq]at hm';simp only[JD]at hm';subst hm';obtain⟨q1,q2,q3⟩:=f.set S2 w2 m2 ma y z cs2 Fn hz hq h1 h2 (λb o hF hF' hR=>h3 b o (k1 b hF) hF' hR)
     (λb o hR hR'=>h4 b o (by obtain⟨o0,e0,r1,r2⟩:=hR;exact⟨o0,e0,r1,by simp only[Kd.size];omega⟩) hR') h5 h6 (λb hn hF=>h7 b hn (k1 b hF)) h8 h9
    have apart:∀b' o',F2 b'->¬tA pl' K'.size b' o':=by
     intro b' o' hF ⟨o0,e0,_,_⟩;obtain⟨_,h⟩:=f.at_ b' o0 e0;rcases h with⟨o1',e1,_,_⟩|h
     ·exact hb b' o1' e1 (k2 b' hF)
     ·exact k3 b' h hF
    have keep2:Own S2 w2 b m.snd x.2 c2 F2:=o2.mono h1 h2 (λ_ h=>h) (λb' o' hF=>h3 b' o' (k2 b' hF) (λh=>k3 b' (f.sub b' h) hF) (apart b' o' hF));have es:bW (.fst::p) (.pair a b) (c1++c2) cs2=bW p a c1 cs2++c2:=by
     simp only[bW];rw[← l1,Lf,KL]
    have ln:(bW p a c1 cs2).length=a.size:=q1.length;have e1:∀p2,ck w (.fst::p2) (.pair a b) pl (c1++c2)=ck w p2 a pl c1:=λp2=>by simp only[ck];rw[← l1,Lf]
    have e2:∀p2,ck w2 (.fst::p2) (.pair a b) pl (bW p a c1 cs2++c2)=ck w2 p2 a pl (bW p a c1 cs2):=λp2=>by simp only[ck];rw[← ln,Lf]
    have e3:∀p2,ck w (.snd::p2) (.pair a b) pl (c1++c2)=ck w p2 b (pl.up a.size) c2:=λp2=>by simp only[ck];rw[← l1,KL]
    have e4:∀p2,ck w2 (.snd::p2) (.pair a b) pl (bW p a c1 cs2++c2)=ck w2 p2 b (pl.up a.size) c2:=λp2=>by simp only[ck];rw[← ln,KL]
    rw[es];refine⟨?_,?_,?_⟩
    ·refine Own.pair_join (F1:=λb=>(F1 b/\¬F' b)\/Fn b) (F2:=F2) (λb' h=>?_) (λb' h=>?_) (λb' h hF=>?_) q1 keep2
     ·rcases h with⟨h,h'⟩|h
      ·exact .inl ⟨k1 b' h,h'⟩
      ·exact .inr h
     ·exact .inl ⟨k2 b' h,λh'=>k3 b' (f.sub b' h') h⟩
     ·rcases h with⟨h,_⟩|h
      ·exact k3 b' h hF
      ·exact k3 b' (f.sub b' (h7 b' h (k2 b' hF))) hF
    ·refine q2.join ?_
     rw[ln,← l1];refine hp.append.2.of_same λb' o' hR=>h4 b' o' ?_ ?_
     ·obtain⟨o0,e0,r1,r2⟩:=hR
      cases pl with
      |none=>simp[Place.up]at e0
      |some q=>
       simp only[Place.up,Lk,JD,JW]at e0;obtain⟨e1,e2⟩:=e0;have l2:c2.length=b.size:=o2.length;exact⟨q.2,by rw[← e1],by omega,by simp only[Kd.size];omega⟩
     ·rintro⟨o0,e0,r1,r2⟩
      obtain⟨o3,e3,r3,r4⟩:=hR;cases pl with
      |none=>simp[Place.up]at e3
      |some q=>
       simp only[Place.up,Lk,JD,JW]at e3;obtain⟨e1,e2⟩:=e3;obtain⟨_,h⟩:=f.at_ b' o0 e0;rcases h with⟨o1',e4,r5,r6⟩|h
       ·simp only[JD]at e4
        subst e4
        simp only at e2
        omega
       ·exact hb b' q.2 (by rw[← e1]) (k1 b' h)
    ·have same2:∀b' o',F2 b'->w2.pk b' o'=w.pk b' o':=λb' o' hF=>(h3 b' o' (k2 b' hF) (λh=>k3 b' (f.sub b' h) hF) (apart b' o' hF)).1
     refine⟨λp2 g r hg2 hn2 hh=>?_,λp2 g r c hg2 hn2 hh=>?_,λp2 g r hg2 hn2 hk hc hh=>?_,λp2 g r c hg2 hn2 hk hc hh=>?_⟩<;>cases p2 with
     |nil=>
      simp only[ck,JD]at hn2
      first
       |exact⟨_,by simp only[ck,JW]at hn2⊢;rw[hn2.1]⟩
       |(have hx:aV p=true:=by simpa[gu,fy,aV]using hh
         have es2:bW p a c1 cs2=c1:=fm p (K:=a) hx hn';rw[es2];simp only[ck,hn2])
       |(have es2:bW p a c1 cs2=c1:=by rw[hc];exact eG p (K:=a) hn'
         rw[es2];simp only[ck,hn2])
     |cons s p2=>
      cases s with
      |fst=>
       rw[e1]at hn2;rw[e2]
       first
       |exact q3.al p2 g r hg2 hn2 (by simpa[gu,fy]using hh)
       |exact q3.pt p2 g r c hg2 hn2 (by simpa[iU,fy]using hh)
       |exact q3.ms p2 g r hg2 hn2 hk hc (by simpa[gu,fy]using hh)
       |exact q3.mt p2 g r c hg2 hn2 hk hc (by simpa[iU,fy]using hh)
      |snd=>
       rw[e3]at hn2;rw[e4]
       first
       |exact iz p2 (K:=b) hg2 o2 same2 hn2
       |exact⟨_,iz p2 (K:=b) hg2 o2 same2 hn2⟩
      |_=>simp[aS]at hg2
 | .snd::p,.pair a b,m,x,cs,F,pl,K',m',x',cs',pl',hg,hn,ho,hp,hb=>by
  by_cases hm0:∃n,m= .own n
  ·obtain⟨n,rfl⟩:=hm0;exact ho.elim
  have hm0':∀n,m≠ .own n:=λn e=>hm0 ⟨n,e⟩
  obtain⟨c1,c2,F1,F2,rfl,k1,k2,k3,o1,o2⟩:=Own.pair_parts hm0' ho;have l1:c1.length=a.size:=o1.length;have l2:c2.length=b.size:=o2.length;have hn':ck w p b (pl.up a.size) c2=some (pl',cs'):=by
   have:ck w p b (pl.up a.size) ((c1++c2).drop a.size)=some (pl',cs'):=hn
   rwa [← l1,KL,l1]at this
  have upb:∀b' o',pl.up a.size=some (b',o')->∃o0,pl=some (b',o0)/\o'=o0+a.size:=by
   intro b' o' e;cases pl with
   |none=>simp[Place.up]at e
   |some q=>
    simp only[Place.up,Lk,JD,JW]at e;exact⟨q.2,by rw[← e.1],e.2.symm⟩
  obtain⟨F',f⟩:=nC p (K:=b) (m:=m.snd) (x:=x.2) (cs:=c2) (F:=F2) (pl:=pl.up a.size) hg hn' o2 (by have:=hp.append.2;rwa [l1]at this)
   (λb' o' e h=>by obtain⟨o0,e0,_⟩:=upb b' o' e;exact hb b' o0 e0 (k2 b' h))
  refine⟨F',λb h=>k2 b (f.sub b h),f.own,f.ok,λw2 h=>?_,λb' o' e=>?_,?_⟩
  ·have:=f.nv w2 (λb' o' hF hF'=>h b' o' (k2 b' hF) hF')
   simp only[ck];rw[← l1,KL,l1];exact this
  ·obtain⟨h1,h2⟩:=f.at_ b' o' e
   refine⟨h1,?_⟩;rcases h2 with⟨o0,e0,h3,h4⟩|h2
   ·obtain⟨o1',e1,e2⟩:=upb _ _ e0
    exact .inl ⟨o1',e1,by omega,by simp only[Kd.size];omega⟩
   ·exact .inr (k2 b' h2)
  intro S2 w2 m2 mm y x2 cs2 Fn hs hm h1 h2 h3 h4 h5 h6 h7 h8 h9;have hs':(match gB b x.2 p K' y with|some z=>some ((x.1,z):a.T×b.T)|none=>none)=some x2:=hs;cases hz:gB b x.2 p K' y with
  |none=>rw[hz]at hs';cases hs'
  |some z=>
   rw[hz]at hs';simp only[JD]at hs';subst hs';have hm':(match jb m.snd p m2 with|some b=>some (vN m.fst b)|none=>none)=some mm:=by
    cases m with
    |own n=>exact bH rfl (hm0' n)
    |ro=>exact hm
    |pr _ _=>exact hm
   cases hq:jb m.snd p m2 with
   |none=>rw[hq]at hm';cases hm'
   |some mb=>
    rw[hq]at hm';simp only[JD]at hm';subst hm';obtain⟨q1,q2,q3⟩:=f.set S2 w2 m2 mb y z cs2 Fn hz hq h1 h2 (λb' o' hF hF' hR=>h3 b' o' (k2 b' hF) hF' hR)
     (λb' o' hR hR'=>h4 b' o' (by
      obtain⟨o0,e0,r1,r2⟩:=hR;obtain⟨o1',e1,e2⟩:=upb _ _ e0;exact⟨o1',e1,by omega,by simp only[Kd.size];omega⟩) hR') h5 h6 (λb' hn hF=>h7 b' hn (k2 b' hF))
     (λb' o' e=>by obtain⟨o0,e0,_⟩:=upb b' o' e;exact h8 b' o0 e0) h9
    have apart:∀b' o',F1 b'->¬tA pl' K'.size b' o':=by
     intro b' o' hF ⟨o0,e0,_,_⟩;obtain⟨_,h⟩:=f.at_ b' o0 e0;rcases h with⟨o1',e1,_,_⟩|h
     ·obtain⟨o2',e2,_⟩:=upb _ _ e1
      exact hb b' o2' e2 (k1 b' hF)
     ·exact k3 b' hF h
    have keep1:Own S2 w2 a m.fst x.1 c1 F1:=o1.mono h1 h2 (λ_ h=>h) (λb' o' hF=>h3 b' o' (k1 b' hF) (λh=>k3 b' hF (f.sub b' h)) (apart b' o' hF));have es:bW (.snd::p) (.pair a b) (c1++c2) cs2=c1++bW p b c2 cs2:=by
     simp only[bW];rw[← l1,Lf,KL]
    have e1:∀p2,ck w (.fst::p2) (.pair a b) pl (c1++c2)=ck w p2 a pl c1:=λp2=>by simp only[ck];rw[← l1,Lf]
    have e2:∀p2,ck w2 (.fst::p2) (.pair a b) pl (c1++bW p b c2 cs2)=ck w2 p2 a pl c1:=λp2=>by simp only[ck];rw[← l1,Lf]
    have e3:∀p2,ck w (.snd::p2) (.pair a b) pl (c1++c2)=ck w p2 b (pl.up a.size) c2:=λp2=>by simp only[ck];rw[← l1,KL]
    have e4:∀p2,ck w2 (.snd::p2) (.pair a b) pl (c1++bW p b c2 cs2)=ck w2 p2 b (pl.up a.size) (bW p b c2 cs2):=λp2=>by simp only[ck];rw[← l1,KL]
    rw[es];refine⟨?_,?_,?_⟩
    ·refine Own.pair_join (F1:=F1) (F2:=λb=>(F2 b/\¬F' b)\/Fn b) (λb' h=>?_) (λb' h=>?_) (λb' hF h=>?_) keep1 q1
     ·exact .inl ⟨k1 b' h,λh'=>k3 b' h (f.sub b' h')⟩
     ·rcases h with⟨h,h'⟩|h
      ·exact .inl ⟨k2 b' h,h'⟩
      ·exact .inr h
     ·rcases h with⟨h,_⟩|h
      ·exact k3 b' hF h
      ·exact k3 b' hF (f.sub b' (h7 b' h (k1 b' hF)))
    ·refine PlOk.join ?_ (by rw[l1];exact q2)
     refine hp.append.1.of_same λb' o' hR=>h4 b' o' ?_ ?_
     ·obtain⟨o0,e0,r1,r2⟩:=hR
      exact⟨o0,e0,r1,by simp only[Kd.size];omega⟩
     ·rintro⟨o0,e0,r1,r2⟩
      obtain⟨o3,e3,r3,r4⟩:=hR;obtain⟨_,h⟩:=f.at_ b' o0 e0;rcases h with⟨o1',e4,r5,r6⟩|h
      ·obtain⟨o2',e5,e6⟩:=upb _ _ e4
       rw[e3]at e5;simp only[JD,JW]at e5;omega
      ·exact hb b' o3 e3 (k2 b' h)
    ·have same2:∀b' o',F1 b'->w2.pk b' o'=w.pk b' o':=λb' o' hF=>(h3 b' o' (k1 b' hF) (λh=>k3 b' hF (f.sub b' h)) (apart b' o' hF)).1
     refine⟨λp2 g r hg2 hn2 hh=>?_,λp2 g r c hg2 hn2 hh=>?_,λp2 g r hg2 hn2 hk hc hh=>?_,λp2 g r c hg2 hn2 hk hc hh=>?_⟩<;>cases p2 with
     |nil=>
      simp only[ck,JD]at hn2
      first
       |exact⟨_,by simp only[ck,JW]at hn2⊢;rw[hn2.1]⟩
       |(have hx:aV p=true:=by simpa[gu,fy,aV]using hh
         have es2:bW p b c2 cs2=c2:=fm p (K:=b) hx hn';rw[es2];simp only[ck,hn2])
       |(have es2:bW p b c2 cs2=c2:=by rw[hc];exact eG p (K:=b) hn'
         rw[es2];simp only[ck,hn2])
     |cons s p2=>
      cases s with
      |snd=>
       rw[e3]at hn2;rw[e4]
       first
       |exact q3.al p2 g r hg2 hn2 (by simpa[gu,fy]using hh)
       |exact q3.pt p2 g r c hg2 hn2 (by simpa[iU,fy]using hh)
       |exact q3.ms p2 g r hg2 hn2 hk hc (by simpa[gu,fy]using hh)
       |exact q3.mt p2 g r c hg2 hn2 hk hc (by simpa[iU,fy]using hh)
      |fst=>
       rw[e1]at hn2;rw[e2]
       first
       |exact iz p2 (K:=a) hg2 o1 same2 hn2
       |exact⟨_,iz p2 (K:=a) hg2 o1 same2 hn2⟩
      |_=>simp[aS]at hg2
 | .idx i::p,.sl e,.own m,xs,cs,F,pl,K',m',x',cs',pl',hg,hn,ho,hp,hb=>by
  obtain⟨A,cap,rfl,hl,hnil,hr,G,hG,hG1,hG2,he⟩:=ho;have hn0:∃b o,A=some ⟨b,o,none⟩/\0<=i/\i<(Jr xs:Int)/\ck w p e (some (b,o+i.toNat*e.size)) (ji w b (o+i.toNat*e.size) e.size)=some (pl',cs'):=by
   cases A with
   |none=>simp[ck]at hn
   |some ad=>
    obtain⟨b,o,sp⟩:=ad;have hsp:sp=none:=(hr _ rfl).1;subst hsp;simp only[ck]at hn
    split at hn
    ·rename_i hi;exact⟨b,o,rfl,hi.1,hi.2,hn⟩
    ·cases hn
  obtain⟨b,o,rfl,hi0,hi1,hn'⟩:=hn0;have hi:i.toNat<Jr xs:=by omega
  obtain⟨b',o',vs,hA,hc,hov⟩:=he i.toNat hi;simp only[JD,M2,and_true]at hA;obtain⟨rfl,rfl⟩:=hA;obtain⟨-,hFb,hroom⟩:=hr _ rfl;have lv:vs.length=e.size:=hov.length;rw[eW hc lv]at hn';have inroom:∀j,j<e.size->i.toNat*e.size+j<cap*e.size:=by
   intro j hj;have h1:(i.toNat+1)*e.size<=cap*e.size:=Kk _ (by omega);rw[KJ,Lh]at h1;omega
  have hok:PlOk w (some (b,o+i.toNat*e.size)) vs:=by
   intro b1 o1 e1;simp only[JD,JW]at e1;obtain⟨rfl,rfl⟩:=e1;refine⟨hc,λj hj=>?_⟩;have:=(hroom (i.toNat*e.size+j)).2
   rwa [show o+(i.toNat*e.size+j)=o+i.toNat*e.size+j by omega]at this
  have hget:Jv xs i.toNat e.zero=xs[i.toNat]:=by simp[Jv,hi]
  have hg':aS e m (xs[i.toNat]) p=some ⟨K',m',x'⟩:=by
   have:aS e m (Jv xs i.toNat e.zero) p=some ⟨K',m',x'⟩:=hg
   rwa [hget]at this
  obtain⟨F',f⟩:=nC p (K:=e) (m:=m) (x:=xs[i.toNat]) (cs:=vs) (F:=G i.toNat) (pl:=some (b,o+i.toNat*e.size)) hg' hn' hov hok
   (λb1 o1 e1 h=>by simp only[JD,JW]at e1;obtain⟨rfl,rfl⟩:=e1;exact hG1 _ _ rfl h)
  refine⟨F',λb1 h=>hG _ b1 (f.sub b1 h),f.own,f.ok,λw2 h=>?_,λb1 o1 e1=>?_,?_⟩
  ·have h1:=f.nv w2 (λb' o' hF hF'=>h b' o' (hG _ b' hF) hF')
   have hc2:CellsAt w2 b (o+i.toNat*e.size) vs:=hc.of_same λo' v hv=>by rw[h b o' hFb (λh=>hG1 i.toNat _ rfl (f.sub _ h))];exact hv
   simp only[ck];rw[ab ⟨hi0,hi1⟩,eW hc2 lv];exact h1
  ·obtain⟨h1,h2⟩:=f.at_ b1 o1 e1
   refine⟨h1,.inr ?_⟩;rcases h2 with⟨o0,e0,_,_⟩|h2
   ·simp only[JD,JW]at e0
    rw[← e0.1];exact hFb
   ·exact hG _ b1 h2
  intro S2 w2 m2 mm y x2 cs2 Fn hs hm h1 h2 h3 h4 h5 h6 h7 h8 h9;have hs':(match gB e (Jv xs i.toNat e.zero) p K' y with|some z=>some (KO xs i.toNat z)|none=>none)=some x2:=hs;rw[hget]at hs';cases hz:gB e xs[i.toNat] p K' y with
  |none=>rw[hz]at hs';cases hs'
  |some z=>
   rw[hz]at hs';simp only[JD]at hs';subst hs';have hm':(match jb m p m2 with|some m3=>if m3.beq m then some (Md.own m)else none|none=>none)=some mm:=hm;cases hq:jb m p m2 with
   |none=>rw[hq]at hm';cases hm'
   |some m3=>
    rw[hq]at hm';dsimp only at hm'
    split at hm'
    ·rename_i hbeq
     have:=Md.eq_of_beq hbeq;subst this;simp only[JD]at hm';subst hm';have pl'at:∀b1 o1,tA pl' K'.size b1 o1->(b1=b/\o+i.toNat*e.size<=o1/\o1<o+i.toNat*e.size+e.size)\/G i.toNat b1:=by
      rintro b1 o1 ⟨o0,e0,r1,r2⟩;obtain⟨_,h⟩:=f.at_ b1 o0 e0;rcases h with⟨o2,e2,r3,r4⟩|h
      ·simp only[JD,JW]at e2
       exact .inl ⟨e2.1.symm,by omega,by omega⟩
      ·exact .inr h
     have notG:∀b1,G i.toNat b1->b1≠b:=λb1 h e1=>hG1 i.toNat _ rfl (by rw[← e1];exact h)
     have inner:∀b1 o1,tA (some (b,o+i.toNat*e.size)) e.size b1 o1->¬tA pl' K'.size b1 o1->w2.pk b1 o1=w.pk b1 o1/\w2.frozen? ⟨b1,o1,none⟩=w.frozen? ⟨b1,o1,none⟩:=by
      rintro b1 o1 ⟨o0,e0,r1,r2⟩ hR';simp only[JD,JW]at e0;obtain⟨rfl,rfl⟩:=e0;exact h3 _ o1 hFb (λh=>hG1 i.toNat _ rfl (f.sub _ h)) hR'
     obtain⟨q1,q2,q3⟩:=f.set S2 w2 m2 m3 y z cs2 Fn hz hq h1 h2 (λb1 o1 hF hF' hR=>h3 b1 o1 (hG _ b1 hF) hF' hR) inner h5 h6
      (λb1 hn hF=>h7 b1 hn (hG _ b1 hF)) (λb1 o1 e1 h=>by
       simp only[JD,JW]at e1;obtain⟨rfl,_⟩:=e1;exact hG1 i.toNat _ rfl (f.sub _ (h7 _ h hFb))) h9
     show Own S2 w2 (.sl e) (.own m3) (KO xs i.toNat z) [.slice (some ⟨b,o,none⟩) (Jr xs) cap] _/\PlOk w2 pl [.slice (some ⟨b,o,none⟩) (Jr xs) cap]/\
      Ij w w2 (.idx i::p) (.sl e) (.own m3) xs [.slice (some ⟨b,o,none⟩) (Jr xs) cap] pl K' cs' cs2 [.slice (some ⟨b,o,none⟩) (Jr xs) cap]
     have rci:ji w2 b (o+i.toNat*e.size) e.size=bW p e vs cs2:=eW (q2 b _ rfl).1 q1.length;have keepj:∀j (hj:j<Jr xs),j≠i.toNat->∀vs1,CellsAt w b (o+j*e.size) vs1->vs1.length=e.size->CellsAt w2 b (o+j*e.size) vs1:=by
      intro j hj hji vs1 hc1 lv1 k hk;rw[nl (h3 b (o+j*e.size+k) hFb (λh=>hG1 i.toNat _ rfl (f.sub _ h)) (λhR=>?_)).1]
      ·exact hc1 k hk
      ·rcases pl'at _ _ hR with⟨_,r1,r2⟩|h
       ·have:=pZ (s:=e.size) (a:=k) (b:=o+j*e.size+k - (o+i.toNat*e.size)) hji (by omega) (by omega)
        omega
       ·exact notG _ h rfl
     have samej:∀j,j≠i.toNat->∀b1 o1,G j b1->w2.pk b1 o1=w.pk b1 o1:=by
      intro j hji b1 o1 hF;refine(h3 b1 o1 (hG _ b1 hF) (λh=>hG2 _ _ b1 hji hF (f.sub b1 h)) (λhR=>?_)).1;rcases pl'at _ _ hR with⟨e2,_,_⟩|h
      ·exact hG1 j _ rfl (by rw[← e2];exact hF)
      ·exact hG2 _ _ b1 hji hF h
     refine⟨?_,?_,?_⟩
     ·refine⟨some ⟨b,o,none⟩,cap,by rw[Mx],by rw[Mx];exact hl,(λh=>by cases h),λad had=>?_,λj b1=>if j=i.toNat then(G j b1/\¬F' b1)\/Fn b1 else G j b1,?_,?_,?_,?_⟩
      ·simp only[JD]at had
       subst had;refine⟨rfl,.inl ⟨hFb,λh=>hG1 i.toNat _ rfl (f.sub _ h)⟩,λj=>?_⟩
       by_cases hin:tA pl' K'.size b (o+j)
       ·obtain⟨o0,e0,r1,r2⟩:=hin
        obtain⟨g1,g2⟩:=h5 b o0 e0;have l3:cs2.length=K'.size:=h6.length;have hlt:o+j - o0<cs2.length:=by omega
        have c1:=g1 (o+j - o0) hlt;have c2:=g2 (o+j - o0) hlt;rw[show o0+(o+j - o0)=o+j by omega]at c1 c2;exact⟨λ_=>⟨_,c1⟩,c2⟩
       ·obtain⟨hv0,hz'⟩:=hroom j
        obtain⟨g1,g2⟩:=h3 b (o+j) hFb (λh=>hG1 i.toNat _ rfl (f.sub _ h)) hin;exact⟨λhj=>by obtain⟨v,hv⟩:=hv0 hj;exact⟨v,by rw[nl g1];exact hv⟩,by rw[g2];exact hz'⟩
      ·intro j b1 h
       split at h
       ·rename_i hj
        subst hj;rcases h with⟨h,h'⟩|h
        ·exact .inl ⟨hG _ b1 h,h'⟩
        ·exact .inr h
       ·rename_i hj
        exact .inl ⟨hG _ b1 h,λh'=>hG2 _ _ b1 hj h (f.sub b1 h')⟩
      ·intro j ad had h
       simp only[JD]at had;subst had
       split at h
       ·rename_i hj
        rcases h with⟨h,_⟩|h
        ·exact hG1 j _ rfl h
        ·exact hG1 i.toNat _ rfl (f.sub _ (h7 _ h hFb))
       ·exact hG1 j _ rfl h
      ·intro j1 j2 b1 hne h h'
       split at h
       ·rename_i hj
        rw[ao (λe2=>hne (by rw[hj,e2]))]at h';rcases h with⟨h,_⟩|h
        ·exact hG2 _ _ b1 hne h h'
        ·exact hG2 _ _ b1 (by rw[← hj];exact hne) (f.sub b1 (h7 b1 h (hG _ b1 h'))) h'
       ·rename_i hj
        split at h'
        ·rename_i hj'
         rcases h' with⟨h',_⟩|h'
         ·exact hG2 _ _ b1 hne h h'
         ·exact hG2 _ _ b1 (by rw[← hj'];exact hne) h (f.sub b1 (h7 b1 h' (hG _ b1 h)))
        ·exact hG2 _ _ b1 hne h h'
      ·intro j hj
       have hj0:j<Jr xs:=by rw[Mx]at hj;exact hj
       by_cases hji:j=i.toNat
       ·subst hji
        refine⟨b,o,bW p e vs cs2,rfl,(q2 b _ rfl).1,?_⟩;rw[List.getElem_set_self];have e1:(λb1=>if i.toNat=i.toNat then(G i.toNat b1/\¬F' b1)\/Fn b1 else G i.toNat b1)=λb1=>(G i.toNat b1/\¬F' b1)\/Fn b1:=by
         funext b1;rw[ab rfl]
        show Own S2 w2 e m3 z (bW p e vs cs2) (λb1=>if i.toNat=i.toNat then(G i.toNat b1/\¬F' b1)\/Fn b1 else G i.toNat b1);rw[e1];exact q1
       ·obtain⟨b1,o1,vs1,hA1,hc1,ho1⟩:=he j hj0
        simp only[JD,M2,and_true]at hA1;obtain⟨rfl,rfl⟩:=hA1;have lv1:vs1.length=e.size:=ho1.length;refine⟨b,o,vs1,rfl,λk hk=>?_,?_⟩
        ·rw[nl (h3 b (o+j*e.size+k) hFb (λh=>hG1 i.toNat _ rfl (f.sub _ h)) (λhR=>?_)).1]
         ·exact hc1 k hk
         ·rcases pl'at _ _ hR with⟨_,r1,r2⟩|h
          ·have:=pZ (s:=e.size) (a:=k) (b:=o+j*e.size+k - (o+i.toNat*e.size)) hji (by omega) (by omega)
           omega
          ·exact notG _ h rfl
        ·rw[List.getElem_set_ne (λe2=>hji e2.symm)]
         have e1:(λb1=>if j=i.toNat then(G j b1/\¬F' b1)\/Fn b1 else G j b1)=G j:=by
          funext b1;rw[ao hji]
         show Own S2 w2 e m3 xs[j] vs1 (λb1=>if j=i.toNat then(G j b1/\¬F' b1)\/Fn b1 else G j b1);rw[e1];refine ho1.mono h1 h2 (λ_ h=>h) (λb1 o1 hF=>h3 b1 o1 (hG _ b1 hF) (λh=>hG2 _ _ b1 hji hF (f.sub b1 h)) (λhR=>?_));rcases pl'at _ _ hR with⟨e2,_,_⟩|h
         ·exact hG1 j _ rfl (by rw[← e2];exact hF)
         ·exact hG2 _ _ b1 hji hF h
     ·refine hp.of_same λb1 o1 hR=>h4 b1 o1 hR (λhR'=>?_)
      obtain⟨o2,e2,_,_⟩:=hR;rcases pl'at _ _ hR' with⟨e3,_,_⟩|h
      ·exact hb b1 o2 e2 (by rw[e3];exact hFb)
      ·exact hb b1 o2 e2 (hG _ b1 h)
     ·have other:∀j p2 g r,aS (.sl e) (.own m3) xs (.idx j::p2)=some g->ck w (.idx j::p2) (.sl e) pl [.slice (some ⟨b,o,none⟩) (Jr xs) cap]=some r->j.toNat≠i.toNat->
        ck w2 (.idx j::p2) (.sl e) pl [.slice (some ⟨b,o,none⟩) (Jr xs) cap]=some r:=by
       intro j p2 g r hg2 hn2 hji;simp only[ck]at hn2⊢
       split at hn2
       ·rename_i hj
        rw[ab hj];have hj':j.toNat<Jr xs:=by omega
        obtain⟨b1,o1,vs1,hA1,hc1,ho1⟩:=he j.toNat hj';simp only[JD,M2,and_true]at hA1;obtain⟨rfl,rfl⟩:=hA1;rw[eW hc1 ho1.length]at hn2;rw[eW (keepj j.toNat hj' hji vs1 hc1 ho1.length) ho1.length];have hget2:Jv xs j.toNat e.zero=xs[j.toNat]:=by simp[Jv,hj']
        have hg3:aS e m3 (xs[j.toNat]) p2=some g:=by
         have:aS e m3 (Jv xs j.toNat e.zero) p2=some g:=hg2
         rwa [hget2]at this
        exact iz p2 (K:=e) hg3 ho1 (samej j.toNat hji) hn2
       ·cases hn2
      have here:∀j p2 g r,aS (.sl e) (.own m3) xs (.idx j::p2)=some g->ck w (.idx j::p2) (.sl e) pl [.slice (some ⟨b,o,none⟩) (Jr xs) cap]=some r->j.toNat=i.toNat->
        (0<=j/\j<((Jr xs:Nat):Int))/\aS e m3 xs[i.toNat] p2=some g/\ck w p2 e (some (b,o+i.toNat*e.size)) vs=some r:=by
       intro j p2 g r hg2 hn2 hji;simp only[ck]at hn2
       split at hn2
       ·rename_i hj
        refine⟨hj,?_,?_⟩
        ·have:aS e m3 (Jv xs j.toNat e.zero) p2=some g:=hg2
         rwa [hji,hget]at this
        ·rw[hji,eW hc lv]at hn2
         exact hn2
       ·cases hn2
      have there:∀j p2 r,(0<=j/\j<((Jr xs:Nat):Int))->j.toNat=i.toNat->ck w2 p2 e (some (b,o+i.toNat*e.size)) (bW p e vs cs2)=some r->
        ck w2 (.idx j::p2) (.sl e) pl [.slice (some ⟨b,o,none⟩) (Jr xs) cap]=some r:=by
       intro j p2 r hj hji h;simp only[ck];rw[ab hj,hji,rci];exact h
      refine⟨λp2 g r hg2 hn2 hh=>?_,λp2 g r c hg2 hn2 hh=>?_,λp2 g r hg2 hn2 hk hc2 hh=>?_,λp2 g r c hg2 hn2 hk hc2 hh=>?_⟩<;>cases p2 with
      |nil=>first
       |exact hn2
       |exact⟨_,hn2⟩
      |cons s p2=>
       cases s with
       |idx j=>
        by_cases hji:j.toNat=i.toNat
        ·obtain⟨a1,a2,a3⟩:=here j p2 g _ hg2 hn2 hji
         first
         |exact there j p2 _ a1 hji (q3.al p2 g r a2 a3 (by simpa[gu,fy]using hh))
         |exact(q3.mt p2 g r c a2 a3 hk hc2 (by simpa[iU,fy]using hh)).elim λc4 hc4=>⟨c4,there j p2 _ a1 hji hc4⟩
         |exact(q3.pt p2 g r c a2 a3 (by simpa[iU,fy]using hh)).elim λc4 hc4=>⟨c4,there j p2 _ a1 hji hc4⟩
         |exact there j p2 _ a1 hji (q3.ms p2 g r a2 a3 hk hc2 (by simpa[gu,fy]using hh))
        ·first
         |exact other j p2 g r hg2 hn2 hji
         |exact⟨_,other j p2 g _ hg2 hn2 hji⟩
       |_=>simp[aS]at hg2
    ·cases hm'
 | .inn::_,.int _,_,_,_,_,_,_,_,_,_,_,hg,_,_,_,_| .inn::_,.bool,_,_,_,_,_,_,_,_,_,_,hg,_,_,_,_| .inn::_,.str,_,_,_,_,_,_,_,_,_,_,hg,_,_,_,_| .inn::_,.err,_,_,_,_,_,_,_,_,_,_,hg,_,_,_,_| .inn::_,.raw _,_,_,_,_,_,_,_,_,_,_,hg,_,_,_,_
 | .inn::_,.sl _,_,_,_,_,_,_,_,_,_,_,hg,_,_,_,_| .inn::_,.pair _ _,_,_,_,_,_,_,_,_,_,_,hg,_,_,_,_=>by simp[aS]at hg
 | .fst::_,.int _,_,_,_,_,_,_,_,_,_,_,hg,_,_,_,_| .fst::_,.bool,_,_,_,_,_,_,_,_,_,_,hg,_,_,_,_| .fst::_,.str,_,_,_,_,_,_,_,_,_,_,hg,_,_,_,_| .fst::_,.err,_,_,_,_,_,_,_,_,_,_,hg,_,_,_,_| .fst::_,.raw _,_,_,_,_,_,_,_,_,_,_,hg,_,_,_,_
 | .fst::_,.sl _,_,_,_,_,_,_,_,_,_,_,hg,_,_,_,_| .fst::_,.st _,_,_,_,_,_,_,_,_,_,_,hg,_,_,_,_=>by simp[aS]at hg
 | .snd::_,.int _,_,_,_,_,_,_,_,_,_,_,hg,_,_,_,_| .snd::_,.bool,_,_,_,_,_,_,_,_,_,_,hg,_,_,_,_| .snd::_,.str,_,_,_,_,_,_,_,_,_,_,hg,_,_,_,_| .snd::_,.err,_,_,_,_,_,_,_,_,_,_,hg,_,_,_,_| .snd::_,.raw _,_,_,_,_,_,_,_,_,_,_,hg,_,_,_,_
 | .snd::_,.sl _,_,_,_,_,_,_,_,_,_,_,hg,_,_,_,_| .snd::_,.st _,_,_,_,_,_,_,_,_,_,_,hg,_,_,_,_=>by simp[aS]at hg
 | .idx _::_,.int _,_,_,_,_,_,_,_,_,_,_,hg,_,_,_,_| .idx _::_,.bool,_,_,_,_,_,_,_,_,_,_,hg,_,_,_,_| .idx _::_,.str,_,_,_,_,_,_,_,_,_,_,hg,_,_,_,_| .idx _::_,.err,_,_,_,_,_,_,_,_,_,_,hg,_,_,_,_| .idx _::_,.raw _,_,_,_,_,_,_,_,_,_,_,hg,_,_,_,_
 | .idx _::_,.pair _ _,_,_,_,_,_,_,_,_,_,_,hg,_,_,_,_| .idx _::_,.st _,_,_,_,_,_,_,_,_,_,_,hg,_,_,_,_=>by simp[aS]at hg
 | .idx _::_,.sl _,.ro,_,_,_,_,_,_,_,_,_,hg,_,_,_,_| .idx _::_,.sl _,.pr _ _,_,_,_,_,_,_,_,_,_,hg,_,_,_,_=>by simp[aS]at hg
theorem jr:∀(p:bK) {K:Kd} {m:Md} {x:K.T} {K':Kd} {m':Md} {x':K'.T} (q:bK),aS K m x p=some ⟨K',m',x'⟩->aS K m x (p++q)=aS K' m' x' q
 |[],K,m,x,K',m',x',q,h=>by simp only[aS,JD]at h;cases h;rfl
 | .inn::p,.st k,m,x,K',m',x',q,h=>jr p (K:=k) q h
 | .fst::p,.pair a b,m,x,K',m',x',q,h=>jr p (K:=a) q h
 | .snd::p,.pair a b,m,x,K',m',x',q,h=>jr p (K:=b) q h
 | .idx i::p,.sl e,.own m,x,K',m',x',q,h=>jr p (K:=e) q h
 | .inn::_,.int _,_,_,_,_,_,_,hg| .inn::_,.bool,_,_,_,_,_,_,hg| .inn::_,.str,_,_,_,_,_,_,hg| .inn::_,.err,_,_,_,_,_,_,hg| .inn::_,.mp _ _,_,_,_,_,_,_,hg| .inn::_,.fcell _ _ _,_,_,_,_,_,_,hg| .inn::_,.raw _,_,_,_,_,_,_,hg| .inn::_,.sl _,_,_,_,_,_,_,hg| .inn::_,.pair _ _,_,_,_,_,_,_,hg=>by simp[aS]at hg
 | .fst::_,.int _,_,_,_,_,_,_,hg| .fst::_,.bool,_,_,_,_,_,_,hg| .fst::_,.str,_,_,_,_,_,_,hg| .fst::_,.err,_,_,_,_,_,_,hg| .fst::_,.mp _ _,_,_,_,_,_,_,hg| .fst::_,.fcell _ _ _,_,_,_,_,_,_,hg| .fst::_,.raw _,_,_,_,_,_,_,hg| .fst::_,.sl _,_,_,_,_,_,_,hg| .fst::_,.st _,_,_,_,_,_,_,hg=>by simp[aS]at hg
 | .snd::_,.int _,_,_,_,_,_,_,hg| .snd::_,.bool,_,_,_,_,_,_,hg| .snd::_,.str,_,_,_,_,_,_,hg| .snd::_,.err,_,_,_,_,_,_,hg| .snd::_,.mp _ _,_,_,_,_,_,_,hg| .snd::_,.fcell _ _ _,_,_,_,_,_,_,hg| .snd::_,.raw _,_,_,_,_,_,_,hg| .snd::_,.sl _,_,_,_,_,_,_,hg| .snd::_,.st _,_,_,_,_,_,_,hg=>by simp[aS]at hg
 | .idx _::_,.int _,_,_,_,_,_,_,hg| .idx _::_,.bool,_,_,_,_,_,_,hg| .idx _::_,.str,_,_,_,_,_,_,hg| .idx _::_,.err,_,_,_,_,_,_,hg| .idx _::_,.mp _ _,_,_,_,_,_,_,hg| .idx _::_,.fcell _ _ _,_,_,_,_,_,_,hg| .idx _::_,.raw _,_,_,_,_,_,_,hg| .idx _::_,.pair _ _,_,_,_,_,_,_,hg| .idx _::_,.st _,_,_,_,_,_,_,hg=>by simp[aS]at hg
 | .idx _::_,.sl _,.ro,_,_,_,_,_,hg| .idx _::_,.sl _,.pr _ _,_,_,_,_,_,hg=>by simp[aS]at hg
theorem uB {w:World}{i:Int}{p:bK}{e:Kd}{pl:Place}{cs:List Value}{r:Place×List Value}(h:ck w (.idx i::p) (.sl e) pl cs=some r):
  ∃b o n cap,cs=[.slice (some ⟨b,o,none⟩) n cap]/\0<=i/\i<(n:Int)/\ck w p e (some (b,o+i.toNat*e.size)) (ji w b (o+i.toNat*e.size) e.size)=some r:=by
 cases cs with
 |nil=>simp[ck]at h
 |cons v l=>
  cases l with
  |cons _ _=>simp[ck]at h
  |nil=>
   cases v with
   |slice A n cap=>
    cases A with
    |none=>simp[ck]at h
    |some ad=>
     obtain⟨b,o,sp⟩:=ad;cases sp with
     |some _=>simp[ck]at h
     |none=>
      simp only[ck]at h
      split at h
      ·rename_i hi;exact⟨b,o,n,cap,rfl,hi.1,hi.2,h⟩
      ·cases h
   |_=>simp[ck]at h
theorem jX {w:World}:∀(p:bK) {K:Kd} {m:Md} {x:K.T} {K':Kd} {m':Md} {x':K'.T} {pl pl':Place} {cs cs':List Value} (q:bK),aS K m x p=some ⟨K',m',x'⟩->
  ck w p K pl cs=some (pl',cs')->ck w (p++q) K pl cs=ck w q K' pl' cs'
 |[],K,m,x,K',m',x',pl,pl',cs,cs',q,hg,h=>by
  simp only[aS,JD]at hg;simp only[ck,JD,JW]at h;cases hg;rw[h.1,h.2];rfl
 | .inn::p,.st k,m,x,K',m',x',pl,pl',cs,cs',q,hg,h=>jX p (K:=k) q hg h
 | .fst::p,.pair a b,m,x,K',m',x',pl,pl',cs,cs',q,hg,h=>jX p (K:=a) q hg h
 | .snd::p,.pair a b,m,x,K',m',x',pl,pl',cs,cs',q,hg,h=>jX p (K:=b) q hg h
 | .idx i::p,.sl e,.own m,x,K',m',x',pl,pl',cs,cs',q,hg,h=>by
  obtain⟨b,o,n,cap,rfl,h1,h2,h3⟩:=uB h;have:=jX p (K:=e) q hg h3;show ck w (.idx i::(p++q)) (.sl e) pl _=_;simp only[ck];rw[ab ⟨h1,h2⟩];exact this
 | .inn::_,.int _,_,_,_,_,_,_,_,_,_,_,hg,_| .inn::_,.bool,_,_,_,_,_,_,_,_,_,_,hg,_| .inn::_,.str,_,_,_,_,_,_,_,_,_,_,hg,_| .inn::_,.err,_,_,_,_,_,_,_,_,_,_,hg,_| .inn::_,.mp _ _,_,_,_,_,_,_,_,_,_,_,hg,_| .inn::_,.fcell _ _ _,_,_,_,_,_,_,_,_,_,_,hg,_| .inn::_,.raw _,_,_,_,_,_,_,_,_,_,_,hg,_| .inn::_,.sl _,_,_,_,_,_,_,_,_,_,_,hg,_| .inn::_,.pair _ _,_,_,_,_,_,_,_,_,_,_,hg,_=>by simp[aS]at hg
 | .fst::_,.int _,_,_,_,_,_,_,_,_,_,_,hg,_| .fst::_,.bool,_,_,_,_,_,_,_,_,_,_,hg,_| .fst::_,.str,_,_,_,_,_,_,_,_,_,_,hg,_| .fst::_,.err,_,_,_,_,_,_,_,_,_,_,hg,_| .fst::_,.mp _ _,_,_,_,_,_,_,_,_,_,_,hg,_| .fst::_,.fcell _ _ _,_,_,_,_,_,_,_,_,_,_,hg,_| .fst::_,.raw _,_,_,_,_,_,_,_,_,_,_,hg,_| .fst::_,.sl _,_,_,_,_,_,_,_,_,_,_,hg,_| .fst::_,.st _,_,_,_,_,_,_,_,_,_,_,hg,_=>by simp[aS]at hg
 | .snd::_,.int _,_,_,_,_,_,_,_,_,_,_,hg,_| .snd::_,.bool,_,_,_,_,_,_,_,_,_,_,hg,_| .snd::_,.str,_,_,_,_,_,_,_,_,_,_,hg,_| .snd::_,.err,_,_,_,_,_,_,_,_,_,_,hg,_| .snd::_,.mp _ _,_,_,_,_,_,_,_,_,_,_,hg,_| .snd::_,.fcell _ _ _,_,_,_,_,_,_,_,_,_,_,hg,_| .snd::_,.raw _,_,_,_,_,_,_,_,_,_,_,hg,_| .snd::_,.sl _,_,_,_,_,_,_,_,_,_,_,hg,_| .snd::_,.st _,_,_,_,_,_,_,_,_,_,_,hg,_=>by simp[aS]at hg
 | .idx _::_,.int _,_,_,_,_,_,_,_,_,_,_,hg,_| .idx _::_,.bool,_,_,_,_,_,_,_,_,_,_,hg,_| .idx _::_,.str,_,_,_,_,_,_,_,_,_,_,hg,_| .idx _::_,.err,_,_,_,_,_,_,_,_,_,_,hg,_| .idx _::_,.mp _ _,_,_,_,_,_,_,_,_,_,_,hg,_| .idx _::_,.fcell _ _ _,_,_,_,_,_,_,_,_,_,_,hg,_| .idx _::_,.raw _,_,_,_,_,_,_,_,_,_,_,hg,_| .idx _::_,.pair _ _,_,_,_,_,_,_,_,_,_,_,hg,_| .idx _::_,.st _,_,_,_,_,_,_,_,_,_,_,hg,_=>by simp[aS]at hg
 | .idx _::_,.sl _,.ro,_,_,_,_,_,_,_,_,_,hg,_| .idx _::_,.sl _,.pr _ _,_,_,_,_,_,_,_,_,_,hg,_=>by simp[aS]at hg
def nP:bK->Bool
 |[]=>true
 | .idx _::p=>!aV p
 |_::p=>nP p
theorem qM:∀{p:bK},aV p=false->nP p=true
 |[],_=>rfl
 | .inn::p,h=>qM (p:=p) (by simpa[aV]using h)
 | .fst::p,h=>qM (p:=p) (by simpa[aV]using h)
 | .snd::p,h=>qM (p:=p) (by simpa[aV]using h)
 | .idx _::_,h=>by simp[aV]at h
theorem lD {w w2:World}:∀(p:bK) {K:Kd} {pl:Place} {cs:List Value} {r:Place} {c:List Value},nP p=true->ck w p K pl cs=some (r,c)->∃c2,ck w2 p K pl cs=some (r,c2)
 |[],K,pl,cs,r,c,_,h=>⟨c,h⟩
 | .idx i::p,K,pl,cs,r,c,hi,h=>by
  have hi':(!aV p)=true:=hi;cases K with
  |sl e=>
   obtain⟨b,o,n,cap,rfl,h1,h2,h3⟩:=uB h;obtain⟨c3,h4⟩:=jc (w2:=w2) (c2:=ji w2 b (o+i.toNat*e.size) e.size) p (by simpa using hi') h3;refine⟨c3,?_⟩;simp only[ck];rw[ab ⟨h1,h2⟩];exact h4
  |_=>simp[ck]at h
 | .inn::p,K,pl,cs,r,c,hi,h=>by
  cases K with
  |st k=>exact lD p (K:=k) hi h
  |_=>simp[ck]at h
 | .fst::p,K,pl,cs,r,c,hi,h=>by
  cases K with
  |pair a d=>exact lD p (K:=a) hi h
  |_=>simp[ck]at h
 | .snd::p,K,pl,cs,r,c,hi,h=>by
  cases K with
  |pair a d=>exact lD p (K:=d) hi h
  |_=>simp[ck]at h
abbrev KV:Type:=(K:Kd)×K.T
@[reducible] def Kd.Ts:List Kd → Type
 |[]=>Unit
 |K::Ks=>K.T×Kd.Ts Ks
inductive Arg where
 |ro (K:Kd) (x:K.T)
 |rp (K:Kd) (x:K.T)
 |mp (K:Kd) (m:Md) (x:K.T)
 |ms (K:Kd) (m:Md) (x:K.T)
 |mv (K:Kd) (m:Md) (x:K.T)
 |fn (Ks:List Kd) (Kr:Kd) (f:Kd.Ts Ks->Option Kr.T)
 |fc (f:Nat) (fs caps:List KV)
inductive AM where
 |ro
 |rp
 |mp
 |ms
 |mv
 |fn (Ks:List Kd) (Kr:Kd)
 |fc (f:Nat) (Fs Ks:List Kd)
inductive RV where
 |ro (K:Kd) (x:K.T)
 |own (K:Kd) (m:Md) (x:K.T)
 |bx (K:Kd) (m:Md) (x:K.T)
structure pb where
 rets:List RV
 outs:List KV
abbrev zU:Type 1:=(f:Nat)->List Arg->{Ω:Type}->(pb->Option Ω)->Option Ω
structure fX where
 P:Program
 ty:List (Nat×Kd)
 sg:Nat->List (List AM)
 M:zU
def au {α:Type}:List (Nat×α)->Nat->Option α
 |[],_=>none
 |(i,x)::l,n=>if KQ i n=true then some x else au l n
structure Obj where
 K:Kd
 m:Md
 x:K.T
 box:Bool
 par:Bool
 log:List (Option bK)
 hl:Option bK
inductive Cap where
 |rp (K:Kd) (x:K.T)
 |pt (id n:Nat)
inductive CapV where
 |rp (K:Kd) (x:K.T)
 |pt (id n:Nat) (o:Option Obj)
def CapV.un:CapV->Cap
 | .rp K x=>.rp K x
 | .pt id n _=>.pt id n
inductive Slot where
 |dead
 |un
 |nils
 |v (K:Kd) (x:K.T)
 |rp (K:Kd) (x:K.T)
 |al (id n:Nat) (p:bK)
 |pt (id n:Nat) (p:bK)
 |sub (e:Kd) (id n:Nat) (l h:Int)
 |fv (f:Nat) (fs:List KV) (caps:List Cap)
 |fvr (f:Nat) (fs:List KV) (caps:List CapV)
 |clo (Ks:List Kd) (Kr:Kd) (f:Kd.Ts Ks->Option Kr.T)
 |tup (l:List Slot)
structure Env where
 slots:List (Nat×Slot)
 objs:List (Nat×Option Obj)
def Env.get (e:Env)(i:Nat):Slot:=match au e.slots i with|some s=>s|none=>.dead
def Env.obj (e:Env)(i:Nat):Option (Option Obj):=au e.objs i
structure bX where
 slots:List (Nat×Slot)
 objs:List (Nat×Option Obj)
def Env.apply (e:Env)(d:bX):Env:=⟨d.slots++e.slots,d.objs++e.objs⟩
def Env.put (e:Env)(i:Nat)(s:Slot):Env:=⟨(i,s)::e.slots,e.objs⟩
abbrev bF:Type:=Slot×Option Obj
def Env.cap (e:Env):Cap->CapV
 | .rp K x=>.rp K x
 | .pt id n=>.pt id n (e.obj id).join
def Env.view (e:Env)(s:Slot):bF:=match s with
 | .al id _ _=>(s,(e.obj id).join)
 | .pt id _ _=>(s,(e.obj id).join)
 | .sub _ id _ _ _=>(s,(e.obj id).join)
 | .fv f fs l=>(.fvr f fs (l.map e.cap),none)
 |s=>(s,none)
def Slot.unv:Slot->Slot
 | .fvr f fs l=>.fv f fs (l.map CapV.un)
 |s=>s
def Env.opd (e:Env):Operand->Slot
 | .tmp t=>e.get t
 | .const (.int k n)=>.v (.int k) n
 | .const (.bool b)=>.v .bool b
 | .const (.string s)=>.v .str s
 | .const (.slice none 0 0)=>.nils
 | .const .nilIface=>.v .err false
 | .func f=>.fv f [] []
 |_=>.dead
def rb (log:List (Option bK))(n:Nat):List (Option bK):=log.take (log.length - n)
def fB (o:Obj)(n:Nat)(p:bK):Bool:=(rb o.log n).all λq=>match q with|some q=>!gu p q|none=>match p with|[]=>true|_=>false
def gC (o:Obj)(n:Nat)(p:bK):Bool:=(rb o.log n).all λq=>match q with|some q=>!iU p q|none=>!aV p
def EB:Kd->Bool
 | .st (.st _)=>true
 |_=>false
def J1:Kd->Bool
 | .st _=>true
 |_=>false
def Obj.fx (o:Obj):Bool:=o.par&&o.box&&EB o.K
def Ik:Kd->Md->Bool
 | .sl _,.own _=>true
 | .sl _,_=>false
 |_,_=>true
def vO (K:Kd)(p:bK):Option bK:=match K with
 | .sl _=>some (p++[.idx 0])
 |_=>none
def Il (q:bK)(off:Int):bK:=q++[.idx off,.fst]
def EC:bK->Option (bK×Int)
 |[.idx i,.fst]=>some ([],i)
 |s::p=>match EC p with|some (q,i)=>some (s::q,i)|none=>none
 |[]=>none
def tC (p:bK):Bool:=match EC p with|some _=>true|none=>false
def J2:bK->Option (bK×Int)
 |[.idx i]=>some ([],i)
 |s::p=>match J2 p with|some (q,i)=>some (s::q,i)|none=>none
 |[]=>none
def H3:bK->bK->Bool
 |[],[]=>true
 | .inn::p,.inn::q=>H3 p q
 | .fst::p,.fst::q=>H3 p q
 | .snd::p,.snd::q=>H3 p q
 |_,_=>false
def nD (o:Obj)(p:bK):Option Int:=match o.hl with
 |some h=>(match EC h with|some (q,off)=>if H3 q p=true then some off else none|none=>none)
 |none=>none
def bM (o:Obj):Bool:=match o.hl with|none=>true|some _=>false
def lE {Ω:Type}:bK->bK->Option Ω->Option Ω
 |[],[],k=>k
 | .inn::p,.inn::q,k=>lE p q k
 | .fst::p,.fst::q,k=>lE p q k
 | .snd::p,.snd::q,k=>lE p q k
 | .idx i::p,.idx j::q,k=>if i=j then lE p q k else none
 |_,_,_=>none
def mE {Ω:Type}:bK->bK->Option Ω->Option Ω
 |[],_,k=>k
 | .inn::p,.inn::q,k=>mE p q k
 | .fst::p,.fst::q,k=>mE p q k
 | .snd::p,.snd::q,k=>mE p q k
 | .idx i::p,.idx j::q,k=>if i=j then mE p q k else none
 |_,_,_=>none
def fJ:Kd->Nat->bK
 | .pair _ _,0=>[.fst]
 | .pair _ b,n+1=>.snd::fJ b n
 |_,_=>[]
def Kd.nf:Kd->Nat
 | .pair _ b=>b.nf+1
 |_=>1
def aP (s:ByteArray)(i:Int):Int:=((s.data.getD i.toNat 0).toNat:Int)
def seq (a b:ByteArray):Bool:=a.toList==b.toList
def IP (a b:ByteArray):Bool:=Op.bytesLess a.toList b.toList
def rc (l:List Int):ByteArray:=l.foldl (λr n=>r.push (UInt8.ofNat n.toNat)) ByteArray.empty
def aT:Nat:=4294967296
def cz {Ω:Type}(nt:Nat)(dst:Option Nat)(s:Slot)(k:bX->Option Ω):Option Ω:=match dst with
 |none=>k ⟨[],[]⟩
 |some d=>if LA d nt=true then k ⟨[(d,s)],[]⟩else none
def dK {Ω:Type}(nt:Nat)(dst:Option Nat)(fr:Bool)(o:Obj)(isPt:Bool)(more:List (Nat×Option Obj))(k:bX->Option Ω):Option Ω:=match dst with
 |none=>none
 |some d=>if(LA d nt&&fr)=true then k ⟨[(d,if isPt then .pt d 0 []else .al d 0 [])],(d,some o)::more⟩else none
def H4 (op:BinOp)(k:IntKind)(a b:Int):Option KV:=match op with
 | .add=>some ⟨.int k,k.wrap (a+b)⟩
 | .sub=>some ⟨.int k,k.wrap (a - b)⟩
 | .mul=>some ⟨.int k,k.wrap (a*b)⟩
 | .eql=>some ⟨.bool,decide (a=b)⟩
 | .neq=>some ⟨.bool,!decide (a=b)⟩
 | .lss=>some ⟨.bool,decide (a<b)⟩
 | .leq=>some ⟨.bool,decide (a<=b)⟩
 | .gtr=>some ⟨.bool,decide (a>b)⟩
 | .geq=>some ⟨.bool,decide (a>=b)⟩
 |_=>none
def yq {Ω:Type}(op:BinOp)(k:IntKind)(a b:Int)(kn:KV->Option Ω):Option Ω:=match op with
 | .quo=>if b=0 then none else kn ⟨.int k,k.wrap (a.tdiv b)⟩
 | .rem=>if b=0 then none else kn ⟨.int k,a.tmod b⟩
 |_=>none
def Bj {Ω:Type}(op:BinOp)(a b:ByteArray)(kn:KV->Option Ω):Option Ω:=match op with
 | .add=>if a.size+b.size<=aT then kn ⟨.str,a++b⟩else none
 | .eql=>kn ⟨.bool,seq a b⟩
 | .neq=>kn ⟨.bool,!seq a b⟩
 | .lss=>kn ⟨.bool,IP a b⟩
 | .leq=>kn ⟨.bool,IP a b||seq a b⟩
 | .gtr=>kn ⟨.bool,!(IP a b||seq a b)⟩
 | .geq=>kn ⟨.bool,!IP a b⟩
 |_=>none
def nQ {Ω:Type}(op:BinOp)(k:IntKind)(a b:Int)(kn:KV->Option Ω):Option Ω:=if b<0 then none else match op with
 | .shr=>kn ⟨.int k,a.fdiv (2 ^ (min b.toNat k.bits))⟩
 | .shl=>kn ⟨.int k,k.wrap (a*2 ^ (min b.toNat k.bits))⟩
 |_=>none
def q5:Operand->Bool
 | .const _=>true
 |_=>false
def Bk {Ω:Type}(c:fX)(op:BinOp)(t:Nat)(cst:Bool)(a b:KV)(kn:KV->Option Ω):Option Ω:=match a,b with
 |⟨.int k,a⟩,⟨.int l,b⟩=>if Cp k l=true then(match op with
   | .quo=>yq .quo k a b kn
   | .rem=>yq .rem k a b kn
   |op=>match H4 op k a b with|some r=>kn r|none=>nQ op k a b kn)else nQ op k a b kn
 |⟨.str,a⟩,⟨.str,b⟩=>Bj op a b kn
 |⟨.bool,a⟩,⟨.bool,b⟩=>match au c.ty t with
  |some .bool=>(match op with
   | .eql=>kn ⟨.bool,a==b⟩
   | .neq=>kn ⟨.bool,!(a==b)⟩
   |_=>none)
  |_=>none
 |⟨.err,a⟩,⟨.err,b⟩=>if(a&&b)=true then none else match cst,au c.ty t with
  |true,some .err=>(match op with
   | .eql=>kn ⟨.bool,a==b⟩
   | .neq=>kn ⟨.bool,!(a==b)⟩
   |_=>none)
  |_,_=>none
 |_,_=>none
def EG (v:bF):Option KV:=match v with
 |(.v K x,_)=>some ⟨K,x⟩
 |(.al _ n p,some o)=>if(bM o&&fB o n p)=true then(match aS o.K o.m o.x p with|some ⟨K,_,x⟩=>some ⟨K,x⟩|none=>none)else none
 |_=>none
def eV (c:fX)(t:Nat)(K:Kd):Bool:=match au c.ty t with|some K'=>K'.beq K|none=>false
def kP (id:Nat)(o:Obj)(p:bK):Option (Kd×Slot):=match aS o.K o.m o.x p with
 |some ⟨K,m,x⟩=>some (K,match m with| .ro=>.v K x|_=>.al id o.log.length p)
 |none=>none
inductive jp where
 |v (K:Kd) (x:K.T)
 |nils
 |al (id:Nat) (o:Obj)
def pc:bF->Option jp
 |(.v K x,_)=>some (.v K x)
 |(.nils,_)=>some .nils
 |(.al id n [],some o)=>if(bM o&&fB o n []&& !o.par)=true then some (.al id o)else none
 |_=>none
def gq:List (Nat×Operand)->List bF->Option (List (Nat×jp))
 |[],[]=>some []
 |(i,_)::l,v::vs=>match pc v,gq l vs with|some p,some r=>some ((i,p)::r)|_,_=>none
 |_,_=>none
def Md.fits:Kd->Md->Bool
 |_,.ro=>true
 | .sl _,.own _=>true
 | .st k,m=>Md.fits k m
 | .pair a b,.pr m n=>Md.fits a m&&Md.fits b n
 |_,_=>false
def Im (K:Kd)(m:Md):Bool:=m.beq .ro||(K.flat&&Md.fits K m)
def zV:(K:Kd)->Option K.T
 | .sl _=>some []
 |_=>none
def js (K:Kd)(m:Md):Option jp->Option K.T
 |none=>if Md.fits K m=true then some K.zero else none
 |some (.v K' y)=>if h:K'.beq K=true then(if Im K m=true then some (Kd.eq_of_beq h▸y)else none)else none
 |some .nils=>if Md.fits K m=true then zV K else none
 |some (.al _ o)=>if h:o.K.beq K=true then(if o.m.beq m=true then some (Kd.eq_of_beq h▸o.x)else none)else none
def Co:(K:Kd)->Md->Nat->List (Nat×jp)->Option K.T
 | .pair a b,m,n,ps=>match js a m.fst (au ps n),Co b m.snd (n+1) ps with
  |some x,some y=>some ((x,y):a.T×b.T)
  |_,_=>none
 |K,m,n,ps=>js K m (au ps n)
def rd (K:Kd)(m:Md)(n:Nat)(ps:List (Nat×jp)):Nat->Option (List K.T)
 |0=>some []
 |k+1=>match js K m (au ps n),rd K m (n+1) ps k with
  |some x,some l=>some (x::l)
  |_,_=>none
def kQ (pl:List (Nat×jp))(n:Nat):Bool:=pl.all λq=>LA q.1 n
def fA:List (Nat×jp)->List Nat
 |[]=>[]
 |(_,.al id _)::l=>id::fA l
 |_::l=>fA l
def gn (l:List Nat):List (Nat×Option Obj):=l.map λi=>(i,none)
def nodup:List Nat->Bool
 |[]=>true
 |a::l=>!(l.any (KQ a))&&nodup l
def Kd.beqs:List Kd->List Kd->Bool
 |[],[]=>true
 |a::l,b::r=>a.beq b&&Kd.beqs l r
 |_,_=>false
theorem Kd.eq_of_beqs:∀{a b:List Kd},Kd.beqs a b=true->a=b
 |[],[],_=>rfl
 |a::l,b::r,h=>by
  have h':(a.beq b&&Kd.beqs l r)=true:=h;rw[Jz]at h';rw[Kd.eq_of_beq h'.1,Kd.eq_of_beqs h'.2]
 |[],_::_,h=>bH h (by simp[Kd.beqs])
 |_::_,[],h=>bH h (by simp[Kd.beqs])
def uC:(Ks:List Kd)->Kd.Ts Ks->List Arg
 |[],_=>[]
 |K::Ks,a=>.ro K a.1::uC Ks a.2
def Bl:(Ks:List Kd)->List KV->Option (Kd.Ts Ks)
 |[],[]=>some ()
 |K::Ks,⟨K',x⟩::l=>if h:K'.beq K=true then(match Bl Ks l with|some r=>some ((Kd.eq_of_beq h▸x,r):K.T×Kd.Ts Ks)|none=>none)else none
 |_,_=>none
def one (Kr:Kd)(r:pb):Option Kr.T:=match r with
 |⟨[.ro K x],[]⟩=>if h:K.beq Kr=true then some (Kd.eq_of_beq h▸x)else none
 |⟨[.own K _ x],[]⟩=>if h:K.beq Kr=true then some (Kd.eq_of_beq h▸x)else none
 |_=>none
def yr (l:List KV):List Arg:=l.map λq=>.rp q.1 q.2
def yt (l:List KV):List Arg:=l.map λq=>.ro q.1 q.2
def Jg (c:fX)(f:Nat)(fs caps:List KV)(Ks:List Kd)(Kr:Kd)(a:Kd.Ts Ks):Option Kr.T:=
 c.M f (yt fs++(uC Ks a++yr caps)) (one Kr)
def ll:List CapV->Option (List KV)
 |[]=>some []
 | .rp K x::l=>match ll l with|some r=>some (⟨K,x⟩::r)|none=>none
 | .pt _ n (some o)::l=>if(bM o&&gC o n [])=true then(match ll l with|some r=>some (⟨o.K,o.x⟩::r)|none=>none)else none
 | .pt _ _ none::_=>none
def ky:List CapV->List Nat
 |[]=>[]
 | .rp _ _::l=>ky l
 | .pt id _ _::l=>id::ky l
def zW:CapV->bF
 | .rp K x=>(.rp K x,none)
 | .pt id n o=>(.pt id n [],o)
def Cq (c:fX)(t:Nat)(am:AM)(v:bF):Option Arg:=match am,v with
 | .ro,(.v K x,_)=>some (.ro K x)
 | .ro,(.nils,_)=>match au c.ty t with|some (.sl e)=>some (.ro (.sl e) [])|_=>none
 | .ro,(.al _ n p,some o)=>if(bM o&&fB o n p)=true then(match aS o.K o.m o.x p with|some ⟨K,_,x⟩=>some (.ro K x)|none=>none)else none
 | .rp,(.rp K x,_)=>some (.rp K x)
 | .rp,(.pt _ n p,some o)=>if(bM o&&gC o n p)=true then(match aS o.K o.m o.x p with|some ⟨K,_,x⟩=>some (.rp K x)|none=>none)else none
 | .mp,(.pt _ n p,some o)=>if(bM o&&gC o n p)=true then(match aS o.K o.m o.x p with|some ⟨K,m,x⟩=>some (.mp K m x)|none=>none)else none
 | .ms,(.al _ n p,some o)=>if(bM o&&fB o n p)=true then(match aS o.K o.m o.x p with|some ⟨K,m,x⟩=>if Ik K m=true then some (.ms K m x)else none|none=>none)else none
 | .mv,(.al _ n p,some o)=>if(bM o&&fB o n p&& !o.par)=true then(match aS o.K o.m o.x p with|some ⟨K,m,x⟩=>some (.mv K m x)|none=>none)else none
 | .fn Ks Kr,(.clo Ls Lr f,_)=>if(Kd.beqs Ls Ks&&Lr.beq Kr)=true then some (.fn Ls Lr f)else none
 | .fn Ks Kr,(.fvr f fs l,_)=>match ll l,c.sg f with|some cs,_::_=>some (.fn Ks Kr (Jg c f fs cs Ks Kr))|_,_=>none
 | .fc g Fs Ks,(.fvr f fs l,_)=>match ll l with|some cs=>if(KQ f g&&Kd.beqs (fs.map (·.1)) Fs&&Kd.beqs (cs.map (·.1)) Ks)=true then some (.fc f fs cs)else none|none=>none
 |_,_=>none
def lV (c:fX):List Nat->List AM->List bF->Option (List Arg)
 |[],[],[]=>some []
 |t::ts,am::ams,v::vs=>match Cq c t am v,lV c ts ams vs with
  |some a,some l=>some (a::l)
  |_,_=>none
 |_,_,_=>none
def gv:List AM->List bF->List Nat
 | .ro::ams,(.al id _ _,_)::vs=>id::gv ams vs
 | .rp::ams,(.pt id _ _,_)::vs=>id::gv ams vs
 | .fn _ _::ams,(.fvr _ _ l,_)::vs=>ky l++gv ams vs
 | .fc _ _ _::ams,(.fvr _ _ l,_)::vs=>ky l++gv ams vs
 |_::ams,_::vs=>gv ams vs
 |_,_=>[]
def ez:List AM->List bF->List Nat
 | .mp::ams,(.pt id _ _,_)::vs=>id::ez ams vs
 | .ms::ams,(.al id _ _,_)::vs=>id::ez ams vs
 | .mv::ams,(.al id _ _,_)::vs=>id::ez ams vs
 |_::ams,_::vs=>ez ams vs
 |_,_=>[]
def In:RV->Bool
 | .ro K _=>K.flat
 | .own K m _=>Md.full K m
 | .bx K m _=>Md.full K m
def Cr (o:Obj)(p:bK):Option Obj:=if tC p=true then none else if o.box=true then some {o with hl:=some p}else match p with
 |[]=>none
 |_=>some {o with hl:=some p}
def eH:List AM->List bF->List KV->Option (List (Nat×Option Obj))
 | .mp::ams,(.pt id _ p,some o)::vs,⟨K,y⟩::l=>match aS o.K o.m o.x p with
  |some ⟨_,m,_⟩=>if(o.fx&& !aV p)=true then none else(match jb o.m p m,gB o.K o.x p K y,eH ams vs l with
   |some m2,some x,some r=>some ((id,some {o with m:=m2,x:=x,log:=some p::o.log})::r)
   |_,_,_=>none)
  |none=>none
 | .ms::ams,(.al id _ p,some o)::vs,⟨K,y⟩::l=>match aS o.K o.m o.x p with
  |some ⟨_,m,_⟩=>(match jb o.m p m,gB o.K o.x p K y,eH ams vs l with
   |some m2,some x,some r=>some ((id,some {o with m:=m2,x:=x,log:=vO K p::o.log})::r)
   |_,_,_=>none)
  |none=>none
 | .mv::ams,(.al id _ p,some o)::vs,l=>match eH ams vs l with
  |some r=>some ((id,Cr o p)::r)
  |none=>none
 | .ro::ams,_::vs,l=>eH ams vs l
 | .rp::ams,_::vs,l=>eH ams vs l
 | .fn _ _::ams,_::vs,l=>eH ams vs l
 | .fc _ _ _::ams,_::vs,l=>eH ams vs l
 |[],[],[]=>some []
 |_,_,_=>none
def zX:Arg->Bool
 | .mp K m _=>Md.full K m
 | .ms K m _=>Md.full K m
 |_=>true
def sub (d i:Nat):Nat:=d+4096*(i+1)
def iq (mds:List (Nat×Md))(d:Nat):RV->Slot×List (Nat×Option Obj)
 | .ro K x=>(.v K x,[])
 | .own K m x=>match au mds d with
  |some _=>(.al d 0 [],[(d,some ⟨K,m,x,false,false,[],none⟩)])
  |none=>(.v K x,[])
 | .bx K m x=>(.pt d 0 [],[(d,some ⟨K,m,x,true,false,[],none⟩)])
def fK (mds:List (Nat×Md))(d:Nat):Nat->List RV->List Slot×List (Nat×Option Obj)
 |_,[]=>([],[])
 |i,r::l=>let q:=iq mds (sub d i) r;let z:=fK mds d (i+1) l;(q.1::z.1,q.2++z.2)
def pf {Ω:Type}(nt:Nat)(mds:List (Nat×Md))(dst:Option Nat)(fr:Bool)(outs:List (Nat×Option Obj))(rets:List RV)(k:bX->Option Ω):Option Ω:=match dst with
 |none=>match rets with|[]=>k ⟨[],outs⟩|_=>none
 |some d=>if(LA d nt&&fr)=true then(match rets with
  |[]=>k ⟨[(d,.dead)],outs⟩
  |[r]=>k ⟨[(d,(iq mds d r).1)],(iq mds d r).2++outs⟩
  |l=>if Od l.length 4=true then k ⟨[(d,.tup (fK mds d 0 l).1)],(fK mds d 0 l).2++outs⟩else none)else none
def Cs:List AM->List bF->Bool
 | .fc g _ _::ams,(.fvr f _ _,_)::vs=>KQ f g&&Cs ams vs
 | .fc _ _ _::_,_=>false
 |_::ams,_::vs=>Cs ams vs
 |[],[]=>true
 |_,_=>false
def kR {Ω:Type}(c:fX)(nt:Nat)(mds:List (Nat×Md))(dst:Option Nat)(fr:Bool)(f:Nat)(ts:List Nat)(vs:List bF)(k:bX->Option Ω):Option Ω:=
 match(c.sg f).find? (λams=>Cs ams vs)with
 |none=>none
 |some ams=>
  match lV c ts ams vs with
  |none=>none
  |some args=>
   if(nodup (ez ams vs)&&(gv ams vs).all (λi=>!(ez ams vs).any (KQ i)))=true then
    c.M f args λres=>
     if((gv ams vs).isEmpty||(res.rets.all In&&args.all zX))=true then
      match eH ams vs res.outs with
      |none=>none
      |some outs=>pf nt mds dst fr outs res.rets k
     else none
   else none
def ED:List bF->Option (List KV)
 |[]=>some []
 |v::vs=>match v,ED vs with
  |(.v K x,_),some l=>some (⟨K,x⟩::l)
  |_,_=>none
def Bm {Ω:Type}(nt:Nat)(dst:Option Nat)(Ks:List Kd)(Kr:Kd)(f:Kd.Ts Ks->Option Kr.T)(vs:List bF)(k:bX->Option Ω):Option Ω:=
 match ED vs with
 |none=>none
 |some l=>match Bl Ks l with
  |none=>none
  |some a=>(f a).bind λr=>cz nt dst (.v Kr r) k
def pg:List bF->Option (List Cap)
 |[]=>some []
 |v::vs=>match v,pg vs with
  |(.rp K x,_),some l=>some (.rp K x::l)
  |(.pt id n [],_),some l=>some (.pt id n::l)
  |_,_=>none
def H5 (fs:List KV)(ts:List Nat)(l:List CapV):List Nat:=fs.map (λ_=>0)++(ts++l.map λ_=>0)
def H6 (fs:List KV)(vs:List bF)(l:List CapV):List bF:=fs.map (λq=>(.v q.1 q.2,none))++(vs++l.map zW)
def Ct (m:Md):jp->Md
 | .al _ o=>o.m
 | .nils=>m
 | .v _ _=>.ro
def gr:jp->List Nat
 | .al id _=>[id]
 |_=>[]
def nE (o:Obj)(p:bK):List (Option bK):=match o.hl with|none=>some p::o.log|some _=>none::some p::o.log
def yu (lo hi:Option Operand)(bs:List bF):Option (Option Int×Option Int):=match lo,hi,bs with
 |none,none,[]=>some (none,none)
 |some _,none,[(.v (.int _) l,_)]=>some (some l,none)
 |none,some _,[(.v (.int _) h,_)]=>some (none,some h)
 |some _,some _,[(.v (.int _) l,_),(.v (.int _) h,_)]=>some (some l,some h)
 |_,_,_=>none
def tD (l:Option Int)(d:Int):Int:=match l with|some l=>l|none=>d
def Cu (o:Obj)(p:bK):Option (Option Obj):=if tC p=true then none else if o.box=true then some (some {o with hl:=some p})else match p with
 |[]=>if o.par=true then none else some none
 |_=>some (some {o with hl:=some p})
def Gb (mds:List (Nat×Md)):Option Nat->Bool
 |some d=>(match au mds d with|some _=>true|none=>false)
 |none=>false
def Jh:Option ((K:Kd)×Md×K.T)->Bool
 |some ⟨.sl _,.own _,_⟩=>true
 |_=>false
def vP {Ω:Type}(c:fX)(nt:Nat)(mds:List (Nat×Md))(o:Oper)(vs:List bF)(fr:Bool)(k:bX->Option Ω):Option Ω:=
 match o.op,vs with
 | .move _,[(.nils,_)]=>cz nt o.dst .nils k
 | .move _,[(s,_)]=>cz nt o.dst s.unv k
 | .assign _,[(.nils,_)]=>(match au c.ty o.type,o.dst with
  |some (.sl e),some d=>(match au mds d with
   |some (.own m)=>dK nt o.dst fr ⟨.sl e,.own m,[],false,false,[],none⟩ false [] k
   |some _=>none
   |none=>cz nt o.dst (.v (.sl e) []) k)
  |_,_=>none)
 | .assign _,[(s,_)]=>cz nt o.dst s.unv k
 | .pick _ _ _,[(.v .bool b,_),(s,_),(r,_)]=>if b=true then cz nt o.dst s.unv k else cz nt o.dst r.unv k
 | .alloc t,[]=>(match au c.ty t,o.dst with
  |some K,some d=>(match au mds d with
   |some m=>if Md.fits K m=true then dK nt o.dst fr ⟨K,m,K.zero,true,false,[],none⟩ true [] k else none
   |none=>dK nt o.dst fr ⟨K,.ro,K.zero,true,false,[],none⟩ true [] k)
  |_,_=>none)
 | .box t _,[(.v K x,_)]=>if eV c t K=true then dK nt o.dst fr ⟨K,.ro,x,true,false,[],none⟩ true [] k else none
 | .box t _,[(.al id n [],some o2)]=>if(eV c t o2.K&&bM o2&&fB o2 n []&& !o2.par)=true then dK nt o.dst fr ⟨o2.K,o2.m,o2.x,true,false,[],none⟩ true [(id,none)] k
  else if(eV c t o2.K&&bM o2&&fB o2 n []&&o2.par&& !o2.box&&J1 o2.K)=true then(match o.dst with
   |some d=>if LA d nt=true then k ⟨[(d,.pt id (o2.log.length+1) [.inn])],[(id,some ⟨.st o2.K,o2.m,o2.x,true,true,none::o2.log,none⟩)]⟩else none
   |none=>none)else none
 | .build t ps,vs=>(match au c.ty t,gq ps.toList vs with
  |some (.st K),some pl=>(match o.dst with
   |some d=>(match au mds d with
    |some m=>if(nodup (fA pl)&&nodup (pl.map (·.1))&&kQ pl K.nf&&Md.fits K m)=true then(match Co K m 0 pl with
     |some x=>dK nt o.dst fr ⟨.st K,m,x,false,false,[],none⟩ false (gn (fA pl)) k
     |none=>none)else none
    |none=>if((fA pl).isEmpty&&nodup (pl.map (·.1))&&kQ pl K.nf)=true then(match Co K .ro 0 pl with
     |some x=>cz nt o.dst (.v (.st K) x) k
     |none=>none)else none)
   |none=>none)
  |_,_=>none)
 | .buildSlice t n ps,vs=>(match au c.ty t,gq ps.toList vs with
  |some (.sl e),some pl=>(match o.dst with
   |some d=>(match au mds d with
    |some (.own m)=>if(nodup (fA pl)&&nodup (pl.map (·.1))&&kQ pl n&&Od (n*e.size) 16777216&&Md.fits e m)=true then(match rd e m 0 pl n with
     |some x=>dK nt o.dst fr ⟨.sl e,.own m,x,false,false,[],none⟩ false (gn (fA pl)) k
     |none=>none)else none
    |some _=>none
    |none=>if((fA pl).isEmpty&&nodup (pl.map (·.1))&&kQ pl n&&Od (n*e.size) 16777216)=true then(match rd e .ro 0 pl n with
     |some x=>cz nt o.dst (.v (.sl e) x) k
     |none=>none)else none)
   |none=>none)
  |_,_=>none)
 | .load t _,[(.rp K x,_)]=>if eV c t K=true then cz nt o.dst (.v K x) k else none
 | .load t _,[(.pt id n p,some o2)]=>if(Gb mds o.dst&&bM o2&&gC o2 n p&& !o2.par&&p.isEmpty&&eV c t o2.K)=true then(match o.dst with
   |some d=>if LA d nt=true then k ⟨[(d,.v o2.K o2.x)],[(id,none)]⟩else none
   |none=>none)
  else if(bM o2&&gC o2 n p)=true then(match kP id o2 p with
  |some (K,s)=>if eV c t K=true then cz nt o.dst s k else none
  |none=>none)else none
 | .store t _ _,[(.pt id n p,some o2),v]=>(match aS o2.K o2.m o2.x p,pc v with
  |some ⟨K,m,_⟩,some pt=>if(gC o2 n p&&eV c t K&& !(o2.fx&& !aV p))=true then
    (
     match js K (Ct m pt) (some pt),jb o2.m p (Ct m pt)with
     |some y,some m2=>(match gB o2.K o2.x p K y with
      |some x2=>if(nodup (id::gr pt))=true then(match o.dst,o2.hl with
        |some _,_=>none
        |none,none=>k ⟨[],(id,some {o2 with m:=m2,x:=x2,log:=nE o2 p,hl:=none})::gn (gr pt)⟩
        |none,some q=>if tC q=true then none else lE q p (k ⟨[],(id,some {o2 with m:=m2,x:=x2,log:=nE o2 p,hl:=none})::gn (gr pt)⟩))else none
      |none=>none)
     |_,_=>none)else none
  |_,_=>none)
 | .fieldAddr t _ f,[(.rp K x,_)]=>(match au c.ty t with
  |some (.st k2)=>if((Kd.st k2).beq K&&LA f k2.nf)=true then(match aS K .ro x (.inn::fJ k2 f)with
   |some ⟨K',_,y⟩=>cz nt o.dst (.rp K' y) k
   |none=>none)else none
  |_=>none)
 | .fieldAddr t _ f,[(.pt id n p,some o2)]=>(match au c.ty t with
  |some (.st k2)=>(match aS o2.K o2.m o2.x p with
   |some ⟨K,_,_⟩=>if((Kd.st k2).beq K&&LA f k2.nf&&gC o2 n p&&(bM o2||nP p))=true then cz nt o.dst (.pt id o2.log.length (p++ .inn::fJ k2 f)) k else none
   |none=>none)
  |_=>none)
 | .field t _ f,[(.al id n p,some o2)]=>(match au c.ty t,aS o2.K o2.m o2.x p with
  |some (.st k2),some ⟨K,_,_⟩=>if((Kd.st k2).beq K&&LA f k2.nf&&bM o2&&fB o2 n p)=true then(match kP id o2 (p++ .inn::fJ k2 f)with
   |some (_,s)=>cz nt o.dst s k
   |none=>none)else none
  |_,_=>none)
 | .field t _ f,[(.v K x,_)]=>(match au c.ty t with
  |some (.st k2)=>if((Kd.st k2).beq K&&LA f k2.nf)=true then(match aS K .ro x (.inn::fJ k2 f)with
   |some ⟨K',_,y⟩=>cz nt o.dst (.v K' y) k
   |none=>none)else none
  |_=>none)
 | .indexAddr t _ _,[(.v (.sl e) xs,_),(.v (.int _) i,_)]=>if eV c t (.sl e)=true then
   (if 0<=i/\i<(Jr xs:Int)then cz nt o.dst (.rp e (Jv xs i.toNat e.zero)) k else none)else none
 | .indexAddr t _ _,[(.al id n p,some o2),(.v (.int _) i,_)]=>if(bM o2&&fB o2 n p)=true then(match aS o2.K o2.m o2.x p with
  |some ⟨.sl e,.own _,xs⟩=>if eV c t (.sl e)=true then
   (if 0<=i/\i<(Jr xs:Int)then cz nt o.dst (.pt id o2.log.length (p++[.idx i])) k else none)else none
  |_=>none)else(match o2.hl,aS o2.K o2.m o2.x p with
   |some h,some ⟨.sl e,.own _,_⟩=>if(!tC h&& !aV p&&fB o2 n p&&eV c t (.sl e))=true then mE (p++[.idx i]) h (cz nt o.dst (.pt id o2.log.length (p++[.idx i])) k)else none
   |_,_=>none)
 | .index t _ _,[(.v .str s,_),(.v (.int _) i,_)]=>if eV c t .str=true then
   (if 0<=i/\i<(s.size:Int)then cz nt o.dst (.v (.int .u8) (aP s i)) k else none)else none
 | .slice t _ lo hi none,v::bs=>(match EG v with
  |some ⟨K,x⟩=>if eV c t K=true then
   (match yu lo hi bs with
    |none=>none
    |some (l,h)=>match K,x,v with
     | .str,s,_=>
      if 0<=tD l 0/\tD l 0<=tD h s.size/\tD h s.size<=(s.size:Int)then cz nt o.dst (.v .str (s.extract (tD l 0).toNat (tD h s.size).toNat)) k else none
     | .sl e,xs,(.v _ _,_)=>
      if 0<=tD l 0/\tD l 0<=tD h (Jr xs)/\tD h (Jr xs)<=(Jr xs:Int)then cz nt o.dst (.v (.sl e) ((List.take (tD h (Jr xs)).toNat xs).drop (tD l 0).toNat)) k else none
     | .sl e,xs,(.al id n [],some o2)=>
      if(!o2.par&& !o2.box)=true then
       (match o2.m with
       | .own m=>if 0<=tD l 0/\tD l 0<=tD h (Jr xs)/\tD h (Jr xs)<=(Jr xs:Int)then
         dK nt o.dst fr ⟨.sl e,.own m,(List.take (tD h (Jr xs)).toNat xs).drop (tD l 0).toNat,false,false,[],none⟩ false [(id,none)] k else none
       |_=>none)else none
     |_,_,_=>none)else none
  |none=>none)
 | .makeSlice t _ _,[(.v (.int _) n,_),(.v (.int _) cp,_)]=>(match au c.ty t with
  |some (.sl e)=>if 0<=n/\n<=cp/\cp<=(aT:Int)then(match o.dst with
   |some d=>(match au mds d with
    |some (.own m)=>if Md.fits e m=true then dK nt o.dst fr ⟨.sl e,.own m,Kq n.toNat e.zero,false,false,[],none⟩ false [] k else none
    |some _=>none
    |none=>cz nt o.dst (.v (.sl e) (Kq n.toNat e.zero)) k)
   |none=>none)else none
  |_=>none)
 | .binOp op t x y _,[(.v K a,_),(.v L b,_)]=>Bk c op t (q5 x||q5 y) ⟨K,a⟩ ⟨L,b⟩ λq=>cz nt o.dst (.v q.1 q.2) k
 | .unOp .not _ _,[(.v .bool b,_)]=>cz nt o.dst (.v .bool (!b)) k
 | .unOp .neg _ _,[(.v (.int i) n,_)]=>cz nt o.dst (.v (.int i) (i.wrap (0 - n))) k
 | .convert s t _,[(.v (.int _) n,_)]=>(match au c.ty s,au c.ty t with
  |some (.int _),some (.int i)=>cz nt o.dst (.v (.int i) (i.wrap n)) k
  |_,_=>none)
 | .convert s t _,[v]=>(match EG v,au c.ty s,au c.ty t with
  |some ⟨.sl (.int .u8),xs⟩,some (.sl (.int .u8)),some .str=>cz nt o.dst (.v .str (rc xs)) k
  |_,_,_=>none)
 | .extract _ i,[(.tup l,_)]=>(match l[i]? with
  |some (.tup _)=>none
  |some s=>cz nt o.dst s k
  |none=>none)
 | .nilCheck _,[(.rp K x,_)]=>cz nt o.dst (.rp K x) k
 | .nilCheck _,[(.pt id n p,some o2)]=>if(gC o2 n p&&(bM o2||nP p))=true then cz nt o.dst (.pt id n p) k else none
 | .makeFunc (.func f) first _,vs=>(match ED (vs.take first.size),pg (vs.drop first.size)with
  |some fs,some l=>cz nt o.dst (.fv f fs l) k
  |_,_=>none)
 | .call {callee:=.builtin .len,argTypes:=ts,..},[v]=>(match EG v,ts.toList with
  |some ⟨.sl e,xs⟩,[t]=>if eV c t (.sl e)=true then cz nt o.dst (.v (.int .i64) (Jr xs:Int)) k else none
  |some ⟨.str,s⟩,[t]=>if eV c t .str=true then cz nt o.dst (.v (.int .i64) (s.size:Int)) k else none
  |_,_=>none)
 | .call {callee:=.builtin .append,argTypes:=ts,..},[(.al id n p,some o2),v]=>(match aS o2.K o2.m o2.x p,ts.toList with
  |some ⟨.sl e,.own m,xs⟩,[t,t2]=>if(eV c t (.sl e)&&eV c t2 (.sl e)&&bM o2&&fB o2 n p)=true then
    (match Cu o2 p with
     |none=>none
     |some oo=>
      match v with
     |(.v K ys,_)=>if h:K.beq (.sl e)=true then
        (if m.beq .ro=true then
         (let zs:List e.T:=(Kd.eq_of_beq h▸ys:(Kd.sl e).T)
         if Jr xs+zs.length<=aT then dK nt o.dst fr ⟨.sl e,.own m,xs++zs,false,false,[],none⟩ false [(id,oo)] k else none)else none)else none
     |(.nils,_)=>if Jr xs<=aT then dK nt o.dst fr ⟨.sl e,.own m,xs,false,false,[],none⟩ false [(id,oo)] k else none
     |(.al id3 n3 [],some o3)=>if h:o3.K.beq (.sl e)=true then
        (if(o3.m.beq (.own m)&&bM o3&&fB o3 n3 []&& !o3.par&& !(KQ id id3))=true then
         (let zs:List e.T:=(Kd.eq_of_beq h▸o3.x:(Kd.sl e).T)
         if Jr xs+zs.length<=aT then dK nt o.dst fr ⟨.sl e,.own m,xs++zs,false,false,[],none⟩ false [(id,oo),(id3,none)] k else none)else none)else none
      |_=>none)else none
  |_,_=>none)
 | .call {callee:=.value (.func f),argTypes:=ts,..},(_::vs)=>kR c nt mds o.dst fr f ts.toList vs k
 | .call {callee:=.value (.tmp _),argTypes:=ts,..},((.fvr f fs l,_)::vs)=>kR c nt mds o.dst fr f (H5 fs ts.toList l) (H6 fs vs l) k
 | .call {callee:=.value (.tmp _),..},((.clo Ks Kr f,_)::vs)=>Bm nt o.dst Ks Kr f vs k
 |_,_=>none
def Cv (mds:List (Nat×Md)):Option Nat->Bool
 |some d=>(match au mds d with|some .ro=>true|_=>false)
 |none=>false
def Kd.np:Kd->Bool
 | .pair _ _=>false
 |_=>true
def Bn (mds:List (Nat×Md)):Option Nat->Bool
 |some d=>(match au mds d with|some (.own _)=>true|_=>false)
 |none=>false
def Bo (K0:Kd)(n n0:Nat)(p:bK):Option Obj->Bool
 |some o=>bM o&&gC o n p&&Od n0 o.log.length&&(match aS o.K o.m o.x p with|some ⟨K,m,_⟩=>K.beq K0&& !(m.beq .ro)|none=>false)
 |none=>false
def yw (K0:Kd)(n:Nat)(p:bK):Option Obj->Bool
 |some o=>gC o n p&&(bM o||nP p)&&(match aS o.K o.m o.x p with|some ⟨K,_,_⟩=>K.beq K0|none=>false)
 |none=>false
def H7 (mds:List (Nat×Md)):List Operand->Bool
 |[_,.tmp t]=>(match au mds (500000+t)with|some _=>true|none=>false)
 |_=>false
def J3:Option ((K:Kd)×Md×K.T)->Bool
 |some ⟨.st _,_,_⟩=>false
 |some _=>true
 |none=>false
def IQ (mds:List (Nat×Md))(o:Oper)(vs:List bF):Bool:=
 match o.op,vs with
 | .move _,[(.al _ _ [],some _)]=>Cv mds o.dst
 | .box _ _,[(.v _ _,_)]=>Cv mds o.dst
 | .load _ _,[(.pt _ _ (_::_),some _)]=>Cv mds o.dst||Bn mds o.dst
 | .fieldAddr _ _ f,[(.pt _ _ p,some o2)]=>Bn mds o.dst||(KQ f 0&&J3 (aS o2.K o2.m o2.x p))
 | .fieldAddr _ _ 0,[(.rp K _,_)]=>!(J1 K)
 | .call {callee:=.value (.func _),args:=as,..},[_,_,(.pt _ _ [],some _)]=>H7 mds as.toList
 |_,_=>false
def od {Ω:Type}(c:fX)(nt:Nat)(mds:List (Nat×Md))(o:Oper)(vs:List bF)(fr:Bool)(k:bX->Option Ω):Option Ω:=
 match o.op,vs with
 | .move _,[(.al id n [],some o2)]=>if(bM o2&&fB o2 n []&& !o2.par&& !o2.box&&o2.K.np)=true then(match o.dst with
   |some d=>if LA d nt=true then k ⟨[(d,.v o2.K o2.x)],[(id,none)]⟩else none
   |none=>none)else none
 | .box t _,[(.v K x,_)]=>if eV c t K=true then(match o.dst with
   |some d=>if LA d nt=true then k ⟨[(d,.rp K x)],[]⟩else none
   |none=>none)else none
 | .load t _,[(.pt id n p,some o2)]=>if Bn mds o.dst=true then(match aS o2.K o2.m o2.x p with
  |some ⟨K,_,_⟩=>if(Bo K n o2.log.length p (some o2)&&eV c t K)=true then cz nt o.dst (.al id o2.log.length p) k else none
  |none=>none)
  else if(bM o2&&gC o2 n p&& !aV p)=true then(match aS o2.K o2.m o2.x p,jb o2.m p .ro,o.dst with
  |some ⟨K,_,x⟩,some m2,some d=>if(eV c t K&&LA d nt)=true then k ⟨[(d,.v K x)],[(id,some {o2 with m:=m2,log:=some p::o2.log})]⟩else none
  |_,_,_=>none)else none
 | .fieldAddr t _ f,[(.pt id n p,some o2)]=>if Bn mds o.dst=true then(match au c.ty t,aS o2.K o2.m o2.x p with
  |some (.st k2),some ⟨K,_,_⟩=>if((Kd.st k2).beq K&&LA f k2.nf&&yw K n p (some o2))=true then cz nt o.dst (.pt id n (p++ .inn::fJ k2 f)) k else none
  |_,_=>none)
  else if KQ f 0=true then(match au c.ty t with
  |some (.st (.pair _ _))=>if(gC o2 n p&&(bM o2||nP p))=true then cz nt o.dst (.pt id n p) k else none
  |_=>none)else none
 | .fieldAddr t _ 0,[(.rp K x,_)]=>(match au c.ty t with
  |some (.st (.pair _ _))=>cz nt o.dst (.rp K x) k
  |_=>none)
 | .call {callee:=.value (.func f),args:=as,argTypes:=ts,..},[_,v0,(.pt id n [],some o2)]=>if(bM o2&&gC o2 n [])=true then(match o2.K,as.toList with
  | .st (.pair _ _),[_,.tmp _]=>kR c nt mds o.dst fr f ts.toList [v0,(.pt id o2.log.length [.inn,.fst],some o2)] k
  |_,_=>none)else none
 |_,_=>none
def Cw {Ω:Type}(c:fX)(nt:Nat)(mds:List (Nat×Md))(o:Oper)(vs:List bF)(fr:Bool)(k:bX->Option Ω):Option Ω:=
 if IQ mds o vs=true then od c nt mds o vs fr k else vP c nt mds o vs fr k
def Oper.opds (o:Oper):List Operand:=o.op.operands.toList
def fresh (e:Env):Option Nat->Bool
 |none=>true
 |some d=>(e.obj d).isNone&&(e.obj (sub d 0)).isNone&&(e.obj (sub d 1)).isNone&&(e.obj (sub d 2)).isNone&&(e.obj (sub d 3)).isNone
def qD {Ω:Type}(c:fX)(nt:Nat)(mds:List (Nat×Md))(o:Oper)(e:Env)(k:bX->Option Ω):Option Ω:=
 Cw c nt mds o ((Oper.opds o).map λx=>e.view (e.opd x)) (fresh e o.dst) k
def vQ (ops:List Oper)(j:Nat):Option Nat:=match ops[j]? with|some o=>o.dst|none=>none
def qE {Ω:Type}(c:fX)(nt:Nat)(mds:List (Nat×Md))(ops:List Oper):List Oper->Env->(Env->Option Ω)->Option Ω
 |[],e,k=>k e
 |o::rest,e,k=>match o.guard with
  |none=>qD c nt mds o e λd=>qE c nt mds ops rest (e.apply d) k
  |some (j,want)=>match vQ ops j with
   |none=>none
   |some t=>match e.get t with
    | .v .bool b=>
     if b=want then(let e1:=e.put t (.v .bool want);qD c nt mds o e1 λd=>qE c nt mds ops rest (e1.apply d) k)
     else match o.dst with
      |some d=>if LA d nt=true then qE c nt mds ops rest ((e.put t (.v .bool (!want))).put d .un) k else none
      |none=>qE c nt mds ops rest (e.put t (.v .bool (!want))) k
    | .un=>match o.dst with
      |some d=>if LA d nt=true then qE c nt mds ops rest (e.put d .un) k else none
      |none=>qE c nt mds ops rest e k
    |_=>none
structure mB where
 rs:List Nat
 ro:List Nat
 ws:List Nat
 wo:List Nat
 wk:List (Nat×(Option Obj->Bool))
 wb:List (Nat×Option Obj)
def kS:List Operand->List Nat
 |[]=>[]
 | .tmp t::l=>t::kS l
 |_::l=>kS l
def jj:List bF->List Nat
 |[]=>[]
 |(.al id _ _,_)::l=>id::jj l
 |(.pt id _ _,_)::l=>id::jj l
 |(.sub _ id _ _ _,_)::l=>id::jj l
 |(.fvr _ _ q,_)::l=>ky q++jj l
 |_::l=>jj l
def jN:Option Nat->List Nat
 |none=>[]
 |some d=>[d,sub d 0,sub d 1,sub d 2,sub d 3]
def vR:Op->Bool
 | .move _=>true
 | .assign _=>true
 |_=>false
def ph (mds:List (Nat×Md))(o:Oper)(vs:List bF):List (Nat×(Option Obj->Bool)):=match o.op,vs with
 | .load _ _,[(.pt id n (s::p),some o2)]=>if Bn mds o.dst=true then(match aS o2.K o2.m o2.x (s::p)with|some ⟨K,_,_⟩=>[(id,Bo K n o2.log.length (s::p))]|none=>[])else []
 | .fieldAddr _ _ _,[(.pt id n p,some o2)]=>if Bn mds o.dst=true then(match aS o2.K o2.m o2.x p with|some ⟨K,_,_⟩=>[(id,yw K n p)]|none=>[])else []
 |_,_=>[]
def q6 (mds:List (Nat×Md))(g:List Nat)(o:Oper)(vs:List bF)(d:bX):mB:=
 ⟨g++kS (Oper.opds o),(if(vR o.op&&d.objs.isEmpty|| !(ph mds o vs).isEmpty)=true then []else jj vs)++jN o.dst,d.slots.map (·.1),d.objs.map (·.1),ph mds o vs,d.objs⟩
def tE:Option Nat->bX
 |none=>⟨[],[]⟩
 |some d=>⟨[(d,.un)],[]⟩
def pi (nt:Nat):Option Nat->Bool
 |none=>true
 |some d=>LA d nt
def mF {Ω:Type}(c:fX)(nt:Nat)(mds:List (Nat×Md))(ops:List Oper):List Oper->Env->List mB->(List mB->Env->Option Ω)->Option Ω
 |[],e,tr,k=>k tr e
 |o::rest,e,tr,k=>match o.guard with
  |none=>qD c nt mds o e λd=>mF c nt mds ops rest (e.apply d) (q6 mds [] o ((Oper.opds o).map λx=>e.view (e.opd x)) d::tr) k
  |some (j,want)=>match vQ ops j with
   |none=>none
   |some t=>match e.get t with
    | .v .bool b=>
     if b=want then qD c nt mds o e λd=>mF c nt mds ops rest (e.apply d) (q6 mds [t] o ((Oper.opds o).map λx=>e.view (e.opd x)) d::tr) k
     else if pi nt o.dst=true then mF c nt mds ops rest (e.apply (tE o.dst)) (⟨[t],[],o.dst.toList,[],[],[]⟩::tr) k else none
    | .un=>if pi nt o.dst=true then mF c nt mds ops rest (e.apply (tE o.dst)) (⟨[t],[],o.dst.toList,[],[],[]⟩::tr) k else none
    |_=>none
def lp (n:Nat):List Nat->Bool
 |[]=>false
 |m::l=>KQ m n||lp n l
def re:List Nat->List Nat->Bool
 |[],_=>false
 |a::l,r=>lp a r||re l r
def zY (wk:List (Nat×(Option Obj->Bool)))(wo:List Nat):Bool:=wk.any λq=>lp q.1 wo
def Io (wk:List (Nat×(Option Obj->Bool)))(wb:List (Nat×Option Obj)):Bool:=wk.any λq=>wb.any λr=>KQ q.1 r.1&& !(q.2 r.2)
def oe (x y:mB):Bool:=re x.ws (y.rs++y.ws)||re y.ws x.rs||re x.wo (y.ro++y.wo)||re y.wo x.ro||(zY y.wk x.wo||Io x.wk y.wb)
def uD:List (List Nat)->Nat->List Nat
 |[],_=>[]
 |a::_,0=>a
 |_::l,n+1=>uD l n
def lW (acc:List (List Nat)):List Edge->List Nat
 |[]=>[]
 |e::l=>if LS .any e=true then e.on::uD acc e.on++lW acc l else lW acc l
def yx:List Oper->List (List Nat)->List (List Nat)
 |[],acc=>acc
 |o::l,acc=>yx l (acc++[lW acc o.after.toList])
def og (n:Nat):List Edge->Bool
 |[]=>true
 |e::l=>(!(LS .any e)||LA e.on n)&&og n l
def rf:Nat->List Oper->Bool
 |_,[]=>true
 |n,o::l=>og n o.after.toList&&rf (n+1) l
def uF (an:List Nat)(y:mB):Nat->List mB->Bool
 |_,[]=>true
 |i,x::l=>(lp i an|| !(oe x y))&&uF an y (i+1) l
def uG (an:List (List Nat))(all:List mB):Nat->List mB->Bool
 |_,[]=>true
 |j,y::l=>uF (uD an j) y 0 (all.take j)&&uG an all (j+1) l
def vS (ops:List Oper)(tr:List mB):Bool:=rf 0 ops&&uG (yx ops []) tr.reverse 0 tr.reverse
def lF:List (Nat×Nat)->Nat->Option Nat
 |[],_=>none
 |(a,b)::l,i=>if KQ a i=true then some b else lF l i
def kT (e:Env)(ren:List (Nat×Nat)):List Cap->Option (List Cap)
 |[]=>some []
 | .rp K x::l=>match kT e ren l with|some r=>some (.rp K x::r)|none=>none
 | .pt id n::l=>match(e.obj id).join,lF ren id,kT e ren l with
  |some o,some j,some r=>if(bM o&&gC o n [])=true then some (.pt j 0::r)else none
  |_,_,_=>none
def jY (e:Env):List Nat->List (Nat×Nat)->List (Nat×Slot)×List (Nat×Option Obj)
 |[],_=>([],[])
 |s::l,ren=>
  match e.get s with
  | .al id n p=>(match(e.obj id).join with
   |some o=>if((bM o||(nD o p).isSome)&&fB o n p)=true then(match lF ren id with
     |some j=>let z:=jY e l ren;((s,.al j 0 p)::z.1,z.2)
     |none=>if(!o.par||KQ s id)=true then(let z:=jY e l ((id,s)::ren);((s,.al s 0 p)::z.1,(s,some {o with log:=[]})::z.2))else jY e l ren)else jY e l ren
   |none=>jY e l ren)
  | .pt id n p=>(match(e.obj id).join with
   |some o=>if(bM o&&gC o n p)=true then(match lF ren id with
     |some j=>let z:=jY e l ren;((s,.pt j 0 p)::z.1,z.2)
     |none=>if(!o.par||KQ s id)=true then(let z:=jY e l ((id,s)::ren);((s,.pt s 0 p)::z.1,(s,some {o with log:=[]})::z.2))else jY e l ren)else jY e l ren
   |none=>jY e l ren)
  | .fv f fs caps=>(match kT e ren caps with
   |some cs=>let z:=jY e l ren;((s,.fv f fs cs)::z.1,z.2)
   |none=>jY e l ren)
  | .fvr _ _ _=>jY e l ren
  | .sub _ _ _ _ _=>jY e l ren
  | .tup _=>jY e l ren
  | .dead=>jY e l ren
  |x=>let z:=jY e l ren;((s,x)::z.1,z.2)
def jO (e:Env)(live:List Nat):Env:=let z:=jY e live [];⟨z.1,z.2⟩
inductive Ip where
 |nil
 |reg (mds:List (Nat×Md))
 |seq (a b:Ip)
 |cond (live:Option (List Nat)) (a b:Ip)
 |block (live:Option (List Nat)) (a:Ip)
 |loop (live:List Nat) (a:Ip)
def meet {Ω:Type}(l:Option (List Nat))(k:Env->Option Ω):Env->Option Ω:=match l with
 |none=>k
 |some l=>λe=>k (jO e l)
structure Ext (w w':World) (X:Nat->Nat->Prop):Prop where
 os:w'.os=w.os
 tape:w'.tape=w.tape
 output:w'.output=w.output
 size:w.heap.size<=w'.heap.size
 block:∀b,b<w.heap.size->(∀o,¬X b o)->w'.heap[b]? =w.heap[b]?
 cell:∀b o,b<w.heap.size->¬X b o->w'.pk b o=w.pk b o/\w'.frozen? ⟨b,o,none⟩=w.frozen? ⟨b,o,none⟩
theorem Ext.refl (w:World)(X:Nat->Nat->Prop):Ext w w X:=⟨rfl,rfl,rfl,JU _,λ_ _ _=>rfl,λ_ _ _ _=>⟨rfl,rfl⟩⟩
theorem Ext.trans {a b c:World}{X:Nat->Nat->Prop}(h:Ext a b X)(k:Ext b c X):Ext a c X:=
 ⟨k.os.trans h.os,k.tape.trans h.tape,k.output.trans h.output,Nat.le_trans h.size k.size,
  λi hi hx=>(k.block i (Kl hi h.size) hx).trans (h.block i hi hx),
  λi o hi hx=>⟨(k.cell i o (Kl hi h.size) hx).1.trans (h.cell i o hi hx).1,(k.cell i o (Kl hi h.size) hx).2.trans (h.cell i o hi hx).2⟩⟩
theorem Ext.mono {a b:World}{X Y:Nat->Nat->Prop}(h:Ext a b X)(hX:∀b o,b<a.heap.size->X b o->Y b o):Ext a b Y:=
 ⟨h.os,h.tape,h.output,h.size,λi hi hx=>h.block i hi (λo hxo=>hx o (hX i o hi hxo)),λi o hi hx=>h.cell i o hi (λhxo=>hx (hX i o hi hxo))⟩
theorem Ext.step {a b c:World}{X Y:Nat->Nat->Prop}(h:Ext a b X)(k:Ext b c Y)(hY:∀i o,i<a.heap.size->Y i o->X i o):Ext a c X:=
 ⟨k.os.trans h.os,k.tape.trans h.tape,k.output.trans h.output,Nat.le_trans h.size k.size,
  λi hi hx=>(k.block i (Kl hi h.size) (λo hy=>hx o (hY i o hi hy))).trans (h.block i hi hx),
  λi o hi hx=>⟨(k.cell i o (Kl hi h.size) (λhy=>hx (hY i o hi hy))).1.trans (h.cell i o hi hx).1,
   (k.cell i o (Kl hi h.size) (λhy=>hx (hY i o hi hy))).2.trans (h.cell i o hi hx).2⟩⟩
theorem th (w:World)(o:Go.Obj){b o':Nat}(hb:b<w.heap.size):(w.alloc o).pk b o'=w.pk b o':=
 zT (by show(w.heap.push o)[b]? =_;rw[Om,ao (by omega)])
theorem oh (b:Nat):∀(vs:List Value) (o:Nat) (w:World) (i:Nat) (es:Array MapEntry) (c:Nat),(w.setCells b o vs).heap[i]? =some (.map es c)↔w.heap[i]? =some (.map es c)
 |[],_,w,_,_,_=>Oc
 |v::r,o,w,i,es,c=>(oh b r (o+1) (w.setCell ⟨b,o,none⟩ v) i es c).trans (vM w _ v i es c)
theorem qF (b:Nat)(vs:List Value)(o:Nat)(w:World)(i o':Nat)(h:i=b->o'<o\/o+vs.length<=o'):(w.setCells b o vs).pk i o'=w.pk i o':=
 yo (World.cell?_setCells_out b vs o w _ λe _=>h e) (oh b vs o w i)
theorem Ext.alloc (w:World)(o:Go.Obj)(X:Nat->Nat->Prop):Ext w (w.alloc o) X:=
 ⟨rfl,rfl,rfl,by rw[World.size_alloc];omega,λb hb _=>by show(w.heap.push o)[b]? =_;rw[Om,ao (by omega)],
  λb o' hb _=>⟨th _ _ hb,World.frozen?_alloc_past _ _ _ hb⟩⟩
theorem Ext.drew (w:World)(X:Nat->Nat->Prop):Ext w {w with drawn:=w.drawn+1} X:=⟨rfl,rfl,rfl,JU _,λ_ _ _=>rfl,λ_ _ _ _=>⟨rfl,rfl⟩⟩
theorem lB (b:Nat):∀(vs:List Value) (o:Nat) (w:World),(w.setCells b o vs).os=w.os/\(w.setCells b o vs).tape=w.tape/\(w.setCells b o vs).output=w.output/\
  (w.setCells b o vs).drawn=w.drawn/\(w.setCells b o vs).heap.size=w.heap.size/\∀i,i≠b->(w.setCells b o vs).heap[i]? =w.heap[i]?
 |[],_,w=>⟨rfl,rfl,rfl,rfl,rfl,λ_ _=>rfl⟩
 |v::r,o,w=>by
  obtain⟨h1,h2,h3,h6,h4,h5⟩:=lB b r (o+1) (w.setCell ⟨b,o,none⟩ v);refine⟨h1,h2,h3,h6,h4.trans (by simp),λi hi=>(h5 i hi).trans ?_⟩;simp only[World.setCell,N1];rw[ao (by omega)]
theorem Ext.setCells (w:World)(b o:Nat)(vs:List Value):Ext w (w.setCells b o vs) (λb' o'=>b'=b/\o<=o'/\o'<o+vs.length):=by
 obtain⟨h1,h2,h3,h6,h4,h5⟩:=lB b vs o w;refine⟨h1,h2,h3,by omega,λi hi hx=>?_,λi o' hi hx=>⟨qF b vs o w i o' (λe=>?_),World.frozen?_setCells b vs o w _⟩⟩
 ·by_cases hib:i=b
  ·subst hib
   cases vs with
   |nil=>rfl
   |cons v r=>exact bH ⟨rfl,JU o,by simp⟩ (hx o)
  ·exact h5 i hib
 ·by_cases h:o<=o'
  ·by_cases h':o'<o+vs.length
   ·exact bH ⟨e,h,h'⟩ hx
   ·omega
  ·omega
theorem yy {w:World}{b o:Nat}{v:Value}(h:w.cell? ⟨b,o,none⟩=some v):b<w.heap.size:=by
 rcases Oe b w.heap.size with hb|hb
 ·exact hb
 ·simp[Nr,MM hb]at h
theorem Cx {w:World}{b o:Nat}{v:PV}(h:w.pk b o=some v):b<w.heap.size:=by
 rcases Oe b w.heap.size with hb|hb
 ·exact hb
 ·simp[World.pk,Nr,MM hb]at h
theorem CellsAt.lt {w:World}{b o:Nat}{vs:List Value}(h:CellsAt w b o vs)(hn:0<vs.length):b<w.heap.size:=yy (h 0 hn)
theorem RO.one {S:Nat->Prop}{w:World}:∀{K:Kd} {x:K.T} {cs:List Value},RO S w K x cs->∀v∈cs,v.oneCell'=true
 | .int _,_,_,h=>by rw[show _=_ from h];simp[L4]
 | .bool,_,_,h=>by rw[show _=_ from h];simp[L4]
 | .str,_,_,h=>by rw[show _=_ from h];simp[L4]
 | .err,_,_,h=>by obtain⟨v,rfl,h⟩:=h;rcases h with⟨_,rfl⟩|⟨_,t,p,rfl⟩<;>simp[L4]
 | .raw _,_,_,h=>by obtain⟨rfl,_,h⟩:=h;exact h
 | .sl e,xs,cs,h=>by obtain⟨A,cap,rfl,_⟩:=h;simp[L4]
 | .mp k e,xs,cs,h=>by rcases h with⟨rfl,_⟩|⟨r,es,c,rfl,_⟩<;>simp[L4]
 | .fcell f a b,xs,cs,h=>by rcases h with⟨_,rfl⟩|⟨q,b1,o1,b2,o2,c,oc,c1,c2,_,rfl,_⟩<;>simp[L4,yp]
 | .st k,x,cs,h=>RO.one (K:=k) h
 | .pair a b,x,cs,h=>by
  obtain⟨c1,c2,rfl,h1,h2⟩:=h;intro v hv;rcases KP.1 hv with hv|hv
  ·exact RO.one h1 v hv
  ·exact RO.one h2 v hv
theorem Own.one {S:Nat->Prop}{w:World}{K:Kd}{m:Md}{x:K.T}{cs:List Value}{F:Nat->Prop}(h:Own S w K m x cs F):∀v∈cs,v.oneCell'=true:=
 RO.one (Own.toRO (S':=λb=>S b\/F b) (λ_=>.inl) (λ_=>.inr) h)
def zZ (S:Nat->Prop)(w:World):(Ks:List Kd)->Kd.Ts Ks->List Value->Prop
 |[],_,vs=>vs=[]
 |K::Ks,a,vs=>∃v r cs,vs=v::r/\RO S w K a.1 cs/\VRep K cs v/\zZ S w Ks a.2 r
def Iq (S:Nat->Prop)(w w':World)(K:Kd)(y:K.T)(v:Value):Prop:=
 ∃S':Nat->Prop,(∀b,S b->S' b)/\(∀b,S' b->S b\/w.heap.size<=b)/\(∀b,S' b->b<w'.heap.size)/\∃cs,RO S' w' K y cs/\VRep K cs v
def rg:List String:=["internal/bytealg.MaxLen", "internal/strconv.uint64pow10", "strconv.ErrSyntax", "strconv.ErrRange"]
structure Ir (nm:String) (cs:Array Value):Prop where
 maxLen:nm= "internal/bytealg.MaxLen" ->∃m,cs[0]? =some (.int .i64 m)
 pow10:nm= "internal/strconv.uint64pow10" ->cs=(Lib.pow10Tab.map λz=>Value.int .u64 z).toArray
 errS:nm= "strconv.ErrSyntax" ->∃t p,cs= #[.iface t p]
 errR:nm= "strconv.ErrRange" ->∃t p,cs= #[.iface t p]
def GlobOk (P:Program)(S:Nat->Prop)(w:World):Prop:=∀nm,nm∈rg->∀g,P.globalNamed nm=some g->S g/\∃cs t fr,w.heap[g]? =some (.cells cs t fr)/\Ir nm cs
theorem GlobOk.mono {P:Program}{S S':Nat->Prop}{w w':World}(h:GlobOk P S w)(hS:∀b,S b->S' b)
  (hw:∀b,S b->w'.heap[b]? =w.heap[b]?):GlobOk P S' w':=by
 intro nm hm g hg;obtain⟨h1,cs,t,fr,h2,h3⟩:=h nm hm g hg;exact⟨hS g h1,cs,t,fr,(hw g h1).trans h2,h3⟩
theorem GlobOk.pow10 {P:Program}{S:Nat->Prop}{w:World}(h:GlobOk P S w){g:Nat}(hg:P.globalNamed "internal/strconv.uint64pow10" =some g):Lib.TabIs P w "internal/strconv.uint64pow10" .u64 Lib.pow10Tab:=by
 obtain⟨_,cs,t,fr,h2,h3⟩:=h _ (by simp[rg]) g hg;unfold Lib.TabIs Ow
 simp[hg,h2,h3.pow10 rfl]
theorem GlobOk.errS {P:Program}{S:Nat->Prop}{w:World}(h:GlobOk P S w){g:Nat}(hg:P.globalNamed "strconv.ErrSyntax" =some g):∃t p,w.var? P "strconv.ErrSyntax" =some #[.iface t p]:=by
 obtain⟨_,cs,t,fr,h2,h3⟩:=h _ (by simp[rg]) g hg;obtain⟨t,p,hm⟩:=h3.errS rfl;exact⟨t,p,by unfold Ow;simp[hg,h2,hm]⟩
theorem GlobOk.errR {P:Program}{S:Nat->Prop}{w:World}(h:GlobOk P S w){g:Nat}(hg:P.globalNamed "strconv.ErrRange" =some g):∃t p,w.var? P "strconv.ErrRange" =some #[.iface t p]:=by
 obtain⟨_,cs,t,fr,h2,h3⟩:=h _ (by simp[rg]) g hg;obtain⟨t,p,hm⟩:=h3.errR rfl;exact⟨t,p,by unfold Ow;simp[hg,h2,hm]⟩
def CloRep (P:Program)(S:Nat->Prop)(w:World)(Ks:List Kd)(Kr:Kd)(f:Kd.Ts Ks->Option Kr.T)(v:Value):Prop:=
 ∃(fid:Nat) (fs cv:List Value),v= .func (.func fid) fs.toArray cv.toArray/\(∃fn,P.funcs[fid]? =some fn/\fn.name≠ "runtime.NumGoroutine" /\fn.body.isNone=false)/\
  ∀(S1:Nat->Prop) (w1:World),(∀b,S b->S1 b)->(∀b,S1 b->b<w1.heap.size)->
   (∀b o x,S b->w.pk b o=some x->w1.pk b o=some x)->GlobOk P S1 w1->
   ∀(a:Kd.Ts Ks) (r:Kr.T) (vals:List Value),f a=some r->zZ S1 w1 Ks a vals->
    Calls P fid (fs++(vals++cv)).toArray w1 λe w2=>∃v,e= .returned v/\Ext w1 w2 (λ_ _=>False)/\Iq S1 w1 w2 Kr r v
theorem CloRep.mono {P:Program}{S S':Nat->Prop}{w w':World}{Ks:List Kd}{Kr:Kd}{f:Kd.Ts Ks->Option Kr.T}{v:Value}(hS:∀b,S b->S' b)
  (hw:∀b o x,S b->w.pk b o=some x->w'.pk b o=some x) (h:CloRep P S w Ks Kr f v):CloRep P S' w' Ks Kr f v:=by
 obtain⟨fid,fs,cv,rfl,hfn,hc⟩:=h;exact⟨fid,fs,cv,rfl,hfn,λS1 w1 h1 h2 h3=>hc S1 w1 (λb hb=>h1 b (hS b hb)) h2 (λb o x hb hx=>h3 b o x (hS b hb) (hw b o x hb hx))⟩
def PtrRO (S:Nat->Prop)(w:World)(K:Kd)(x:K.T)(v:Value):Prop:=
 ∃b o cs,v= .pointer (some ⟨b,o,none⟩)/\S b/\CellsAt w b o cs/\RO S w K x cs
theorem PtrRO.mono {S S':Nat->Prop}{w w':World}{K:Kd}{x:K.T}{v:Value}(hS:∀b,S b->S' b)
  (hw:∀b o x,S b->w.pk b o=some x->w'.pk b o=some x) (h:PtrRO S w K x v):PtrRO S' w' K x v:=by
 obtain⟨b,o,cs,rfl,hb,hc,hr⟩:=h;exact⟨b,o,cs,rfl,hS b hb,hc.of_same (λo' x=>hw b o' x hb),hr.mono hS hw⟩
def CapsRep (S:Nat->Prop)(w:World):List KV->List Value->Prop
 |[],vs=>vs=[]
 |⟨K,x⟩::l,vs=>∃v r,vs=v::r/\PtrRO S w K x v/\CapsRep S w l r
theorem CapsRep.mono {S S':Nat->Prop}{w w':World}(hS:∀b,S b->S' b)
  (hw:∀b o x,S b->w.pk b o=some x->w'.pk b o=some x):∀{l:List KV} {vs:List Value},CapsRep S w l vs->CapsRep S' w' l vs
 |[],_,h=>h
 |⟨K,x⟩::l,_,⟨v,r,e,h1,h2⟩=>⟨v,r,e,h1.mono hS hw,CapsRep.mono hS hw h2⟩
def FsRep (S:Nat->Prop)(w:World):List KV->List Value->Prop
 |[],vs=>vs=[]
 |⟨K,x⟩::l,vs=>∃v r,vs=v::r/\(∃cs,RO S w K x cs/\VRep K cs v)/\FsRep S w l r
theorem FsRep.mono {S S':Nat->Prop}{w w':World}(hS:∀b,S b->S' b)
  (hw:∀b o x,S b->w.pk b o=some x->w'.pk b o=some x):∀{l:List KV} {vs:List Value},FsRep S w l vs->FsRep S' w' l vs
 |[],_,h=>h
 |⟨K,x⟩::l,_,⟨v,r,e,⟨cs,h1,h2⟩,h3⟩=>⟨v,r,e,⟨cs,h1.mono hS hw,h2⟩,FsRep.mono hS hw h3⟩
structure Gh where
 S:Nat->Prop
 F:Nat->Nat->Prop
 pl:Nat->Place
 cs:Nat->List Value
structure Base where
 w0:World
 S0:Nat->Prop
 Fx:Nat->Prop
 Rx:Nat->Nat->Prop
 hd:Nat->Place×List Value
def Base.X (B:Base)(b o:Nat):Prop:=B.Fx b\/B.Rx b o
def LogOk (ob:Nat->Option (Option Obj))(id n:Nat):Prop:=ob id≠none/\∀o,ob id=some (some o)->n<=o.log.length
theorem LogOk.now {ob:Nat->Option (Option Obj)}{id:Nat}{o:Obj}(h:ob id=some (some o)):LogOk ob id o.log.length:=⟨by rw[h];simp,λo2 h2=>by rw[h]at h2;cases h2;exact JU _⟩
theorem rh:∀{p q:bK},H3 p q=true->p=q/\aV q=false
 |[],[],_=>⟨rfl,rfl⟩
 | .inn::p,.inn::q,h=>by obtain⟨h1,h2⟩:=rh (p:=p) (q:=q) h;exact⟨by rw[h1],by simpa[aV]using h2⟩
 | .fst::p,.fst::q,h=>by obtain⟨h1,h2⟩:=rh (p:=p) (q:=q) h;exact⟨by rw[h1],by simpa[aV]using h2⟩
 | .snd::p,.snd::q,h=>by obtain⟨h1,h2⟩:=rh (p:=p) (q:=q) h;exact⟨by rw[h1],by simpa[aV]using h2⟩
 |[],_::_,h=>by cases h
 | .inn::_,[],h| .inn::_,.fst::_,h| .inn::_,.snd::_,h| .inn::_,.idx _::_,h=>by cases h
 | .fst::_,[],h| .fst::_,.inn::_,h| .fst::_,.snd::_,h| .fst::_,.idx _::_,h=>by cases h
 | .snd::_,[],h| .snd::_,.inn::_,h| .snd::_,.fst::_,h| .snd::_,.idx _::_,h=>by cases h
 | .idx _::_,_,h=>by cases h
theorem mG {o:Obj}{p:bK}{off:Int}(h:nD o p=some off):aV p=false/\o.hl≠none/\∀h,o.hl=some h->tC h=true:=by
 unfold nD at h
 split at h
 ·rename_i hh e1
  split at h
  ·rename_i q i e2
   split at h
   ·rename_i e3
    exact⟨(rh e3).2,by rw[e1];simp,λh2 e4=>by rw[e1]at e4;cases e4;unfold tC;rw[e2]⟩
   ·cases h
  ·cases h
 ·cases h
theorem lX {o:Obj}{p:bK}{off:Int}{C:Prop}(h:o.hl=none)(h':nD o p=some off):C:=bH h (mG h').2.1
def q7 (g:Gh)(w:World)(ob:Nat->Option (Option Obj))(id n:Nat)(p:bK)(v:Value):Prop:=
 LogOk ob id n/\∀o,ob id=some (some o)->fB o n p=true->(o.hl=none\/aV p=false)->
   ∃q cs' K' m' x',aS o.K o.m o.x p=some ⟨K',m',x'⟩/\ck w p o.K (g.pl id) (g.cs id)=some (q,cs')/\VRep K' cs' v
def SubRep (g:Gh)(w:World)(ob:Nat->Option (Option Obj))(e:Kd)(id n:Nat)(l h:Int)(v:Value):Prop:=
 ∃(A:Option Addr) (len cap:Nat),q7 g w ob id n [] (.slice A len cap)/\0<=l/\l<=h/\h<=(len:Int)/\len<=cap/\v= .slice (if cap=l.toNat then A else A.map (·.add (l.toNat*e.size))) (h.toNat - l.toNat) (cap - l.toNat)
theorem SubRep.imp {g g':Gh}{w w':World}{ob ob':Nat->Option (Option Obj)}{e:Kd}{id n:Nat}{l h:Int}{v:Value}(hi:∀v,q7 g w ob id n [] v->q7 g' w' ob' id n [] v)(hs:SubRep g w ob e id n l h v):SubRep g' w' ob' e id n l h v:=by
 obtain⟨A,len,cap,h1,h2⟩:=hs;exact⟨A,len,cap,hi _ h1,h2⟩
def nG (g:Gh)(w:World)(ob:Nat->Option (Option Obj))(id n:Nat)(p:bK)(v:Value):Prop:=
 LogOk ob id n/\∀o,ob id=some (some o)->gC o n p=true->(o.hl=none\/nP p=true\/(o.hl=some p/\tC p=false))->
   ∃b off cs' K' m' x',aS o.K o.m o.x p=some ⟨K',m',x'⟩/\ck w p o.K (g.pl id) (g.cs id)=some (some (b,off),cs')/\v= .pointer (some ⟨b,off,none⟩)
def H8 (g:Gh)(w:World)(ob:Nat->Option (Option Obj)):Cap->Value->Prop
 | .rp K x,v=>PtrRO g.S w K x v
 | .pt id n,v=>nG g w ob id n [] v
def CapsOk (g:Gh)(w:World)(ob:Nat->Option (Option Obj)):List Cap->List Value->Prop
 |[],vs=>vs=[]
 |c::l,vs=>∃v r,vs=v::r/\H8 g w ob c v/\CapsOk g w ob l r
theorem CapsOk.imp {g g':Gh}{w w':World}{ob ob':Nat->Option (Option Obj)}:∀{l:List Cap} {vs:List Value},(∀c v,c∈l->H8 g w ob c v->H8 g' w' ob' c v)->CapsOk g w ob l vs->CapsOk g' w' ob' l vs
 |[],_,_,h=>h
 |c::l,_,hi,⟨v,r,e,h1,h2⟩=>⟨v,r,e,hi c v JN h1,CapsOk.imp (λc v hm=>hi c v (JR _ hm)) h2⟩
def FvRep (g:Gh)(w:World)(ob:Nat->Option (Option Obj))(f:Nat)(fs:List KV)(caps:List Cap)(v:Value):Prop:=
 ∃fv cv:List Value,v= .func (.func f) fv.toArray cv.toArray/\FsRep g.S w fs fv/\CapsOk g w ob caps cv
theorem FvRep.imp {g g':Gh}{w w':World}{ob ob':Nat->Option (Option Obj)}{f:Nat}{fs:List KV}{l:List Cap}{v:Value}(hS:∀b,g.S b->g'.S b)(hw:∀b o x,g.S b->w.pk b o=some x->w'.pk b o=some x)
  (hi:∀id n v,nG g w ob id n [] v->nG g' w' ob' id n [] v) (h:FvRep g w ob f fs l v):FvRep g' w' ob' f fs l v:=by
 obtain⟨fv,cv,e,h1,h2⟩:=h;refine⟨fv,cv,e,h1.mono hS hw,CapsOk.imp (λc v _ hc=>?_) h2⟩;cases c with
 |rp K x=>exact PtrRO.mono hS hw hc
 |pt id n=>exact hi id n v hc
def SlotRep0 (P:Program)(g:Gh)(w:World)(ob:Nat->Option (Option Obj)):Slot->Value->Prop
 | .dead,_=>True
 | .un,v=>v=undef
 | .nils,v=>v= .slice none 0 0
 | .v K x,v=>∃cs,RO g.S w K x cs/\VRep K cs v
 | .rp K x,v=>PtrRO g.S w K x v
 | .al id n p,v=>q7 g w ob id n p v
 | .sub e id n l h,v=>SubRep g w ob e id n l h v
 | .pt id n p,v=>nG g w ob id n p v
 | .fv f fs caps,v=>FvRep g w ob f fs caps v
 | .fvr _ _ _,_=>False
 | .clo Ks Kr f,v=>CloRep P g.S w Ks Kr f v
 | .tup _,_=>False
def TupRep (P:Program)(g:Gh)(w:World)(ob:Nat->Option (Option Obj)):List Slot->List Value->Prop
 |[],vs=>vs=[]
 |s::l,vs=>∃v r,vs=v::r/\SlotRep0 P g w ob s v/\TupRep P g w ob l r
def SlotRep (P:Program)(g:Gh)(w:World)(ob:Nat->Option (Option Obj))(s:Slot)(v:Value):Prop:=match s with
 | .tup l=>∃vs:Array Value,v= .tuple vs/\TupRep P g w ob l vs.toList
 |s=>SlotRep0 P g w ob s v
def Slot.isTup:Slot->Bool
 | .tup _=>true
 |_=>false
theorem SlotRep.iff0 {P:Program}{g:Gh}{w:World}{ob:Nat->Option (Option Obj)}{s:Slot}{v:Value}(h:s.isTup=false):SlotRep P g w ob s v↔SlotRep0 P g w ob s v:=by
 cases s<;>first|exact Oc|cases h
def Holed (S:Nat->Prop)(w:World)(o:Obj)(p:bK)(F:Nat->Prop)(pl:Place)(cs:List Value):Prop:=
 ∃q cs' K' m' x',aS o.K o.m o.x p=some ⟨K',m',x'⟩/\ck w p o.K pl cs=some (q,cs')/\(∀w2:World,(∀b o,F b->w2.pk b o=w.pk b o)->ck w2 p o.K pl cs=some (q,cs'))/\PlOk w q cs'/\cs'.length=K'.size/\
  (∀b off,q=some (b,off)->(∃o0,pl=some (b,o0)/\o0<=off/\off+K'.size<=o0+o.K.size)\/F b)/\cs.length=o.K.size/\
  ∀(S2:Nat->Prop) (w2:World) (m2 mm:Md) (y:K'.T) (x2:o.K.T) (cs2:List Value) (F2:Nat->Prop),gB o.K o.x p K' y=some x2->jb o.m p m2=some mm->
   (∀b,S b->S2 b)->(∀b o v,S b->w.pk b o=some v->w2.pk b o=some v)->
   (∀b o,F b->¬tA q K'.size b o->w2.pk b o=w.pk b o/\w2.frozen? ⟨b,o,none⟩=w.frozen? ⟨b,o,none⟩)->
   (∀b o1,tA pl o.K.size b o1->¬tA q K'.size b o1->w2.pk b o1=w.pk b o1/\w2.frozen? ⟨b,o1,none⟩=w.frozen? ⟨b,o1,none⟩)->
   PlOk w2 q cs2->Own S2 w2 K' m2 y cs2 F2->(∀b,F2 b->¬F b)->(∀b o,pl=some (b,o)->¬F2 b)->
   Own S2 w2 o.K mm x2 (bW p o.K cs cs2) (λb=>F b\/F2 b)/\PlOk w2 pl (bW p o.K cs cs2)
def OwnQ (S:Nat->Prop)(w:World)(e:Kd)(m:Md)(off:Int)(xs:List e.T)(A:Option Addr)(F:Nat->Prop):Prop:=
 (0<xs.length->∃b o,A=some ⟨b,o,none⟩/\F b)/\
  ∃G:Nat->Nat->Prop,(∀i b,G i b->F b)/\(∀i ad,A=some ad->¬G i ad.block)/\(∀i j b,i≠j->G i b->¬G j b)/\
   ∀i (h:i<xs.length),off<=(i:Int)->∃b o vs,A=some ⟨b,o,none⟩/\CellsAt w b (o+i*e.size) vs/\Own S w e m xs[i] vs (G i)
def QueOk (S:Nat->Prop)(w:World)(o:Obj)(q:bK)(off:Int)(F:Nat->Prop)(pl:Place)(cs:List Value):Prop:=
 ∃(e:Kd) (m:Md) (xs:List e.T) (pl':Place) (A:Option Addr) (cap:Nat),aS o.K o.m o.x q=some ⟨.sl e,.own m,xs⟩/\ck w q o.K pl cs=some (pl',[.slice A xs.length cap])/\OwnQ S w e m off xs A F
def nH (B:Base)(i:Nat)(o:Obj)(pl:Place)(cs:List Value):Prop:=
 if(o.box&&EB o.K)=true then((B.hd i).1≠none->pl=(B.hd i).1)/\((B.hd i).1=none->cs=(B.hd i).2)else pl=(B.hd i).1/\(o.box=false->cs=(B.hd i).2)
structure vU (g:Gh) (w:World) (B:Base) (i:Nat) (o:Obj):Prop where
 own:o.hl=none->Own g.S w o.K o.m o.x (g.cs i) (g.F i)/\PlOk w (g.pl i) (g.cs i)
 hole:∀p,o.hl=some p->tC p=false->Holed g.S w o p (g.F i) (g.pl i) (g.cs i)
 box:o.box=(g.pl i).isSome
 par:o.par=true->nH B i o (g.pl i) (g.cs i)
 plx:∀b off,g.pl i=some (b,off)->(B.Fx b\/B.w0.heap.size<=b)\/(o.par=true/\∀o',off<=o'->o'<off+o.K.size->B.Rx b o')
 que:∀q off,nD o q=some off->QueOk g.S w o q off (g.F i) (g.pl i) (g.cs i)
structure InvG (P:Program) (B:Base) (nt:Nat) (e:Env) (a:Act) (w:World) (g:Gh):Prop where
 glob:GlobOk P B.S0 B.w0/\∀b o,B.S0 b->¬B.X b o
 tmps:a.tmps.size=nt
 defers:a.defers=[]
 ext:Ext B.w0 w B.X
 Ssz:∀b,g.S b->b<w.heap.size
 Fsz:∀i b,g.F i b->b<w.heap.size
 S0:∀b,B.S0 b->g.S b
 Sb:∀b,g.S b->B.S0 b\/B.Fx b\/B.w0.heap.size<=b
 Fb:∀i b,g.F i b->B.Fx b\/B.w0.heap.size<=b
 FS:∀i b,g.F i b->¬g.S b
 FF:∀i j b,i≠j->g.F i b->¬g.F j b
 plz:∀i b off,g.pl i=some (b,off)->b<w.heap.size/\¬g.S b/\(∀j,¬g.F j b)/\∀j off',g.pl j=some (b,off')->i=j
 absent:∀i,(∀o,e.obj i≠some (some o))->(∀b,¬g.F i b)/\g.pl i=none
 objs:∀i o,e.obj i=some (some o)->vU g w B i o
 slots:∀i,SlotRep P g w e.obj (e.get i) (a.tmps.getD i undef)
theorem InvG.globw {P:Program}{B:Base}{nt:Nat}{e:Env}{a:Act}{w:World}{g:Gh}(h:InvG P B nt e a w g):GlobOk P g.S w:=by
 intro nm hm q hq;obtain⟨h1,cs,t,fr,h2,h3⟩:=h.glob.1 nm hm q hq;have hlt:q<B.w0.heap.size:=by
  rcases Oe q B.w0.heap.size with hb|hb
  ·exact hb
  ·rw[MM hb]at h2;cases h2
 exact⟨h.S0 q h1,cs,t,fr,(h.ext.block q hlt (λo=>h.glob.2 q o h1)).trans h2,h3⟩
def Inv (P:Program)(B:Base)(nt:Nat)(e:Env)(a:Act)(w:World):Prop:=∃g,InvG P B nt e a w g
theorem Holed.mono {S S':Nat->Prop}{w w':World}{o:Obj}{p:bK}{F:Nat->Prop}{pl:Place}{cs:List Value}(hS:∀b,S b->S' b)
  (hw:∀b o v,S b->w.pk b o=some v->w'.pk b o=some v)
  (hF:∀b o,F b->w'.pk b o=w.pk b o/\w'.frozen? ⟨b,o,none⟩=w.frozen? ⟨b,o,none⟩)
  (hp:∀b o1,tA pl o.K.size b o1->w'.pk b o1=w.pk b o1/\w'.frozen? ⟨b,o1,none⟩=w.frozen? ⟨b,o1,none⟩)
  (h:Holed S w o p F pl cs):Holed S' w' o p F pl cs:=by
 obtain⟨q,cs',K',m',x',h1,h2,h2',h3,h4,h5,h5',h6⟩:=h;refine⟨q,cs',K',m',x',h1,h2' w' λb o hb=>(hF b o hb).1,λw2 h=>h2' w2 λb o hb=>(h b o hb).trans (hF b o hb).1,?_,h4,h5,h5',?_⟩
 ·refine h3.of_same λb off hR=>?_
  obtain⟨o0,e0,r1,r2⟩:=hR;rcases h5 b o0 e0 with⟨o1,e1,r3,r4⟩|h
  ·exact hp b off ⟨o1,e1,by omega,by omega⟩
  ·exact hF b off h
 ·intro S2 w2 m2 mm y x2 cs2 F2 k1 k2 k3 k4 k5 k6 k7 k8 k9 k10
  have hqF:∀b o',F b->¬tA q K'.size b o'->w2.pk b o'=w.pk b o'/\w2.frozen? ⟨b,o',none⟩=w.frozen? ⟨b,o',none⟩:=λb o' hb hq=>
   ⟨(k5 b o' hb hq).1.trans (hF b o' hb).1,(k5 b o' hb hq).2.trans (hF b o' hb).2⟩
  exact h6 S2 w2 m2 mm y x2 cs2 F2 k1 k2 (λb hb=>k3 b (hS b hb)) (λb o' v hb hv=>k4 b o' v (hS b hb) (hw b o' v hb hv)) hqF
   (λb o1 hR hq=>⟨(k6 b o1 hR hq).1.trans (hp b o1 hR).1,(k6 b o1 hR hq).2.trans (hp b o1 hR).2⟩) k7 k8 k9 k10
theorem jk {w w2:World}:∀(p:bK) {K:Kd} {pl:Place} {cs:List Value} {r:Place×List Value},aV p=false->ck w p K pl cs=some r->ck w2 p K pl cs=some r
 |[],K,pl,cs,r,_,h=>h
 | .inn::p,.st k,pl,cs,r,hi,h=>jk p (K:=k) (by simpa[aV]using hi) h
 | .fst::p,.pair a b,pl,cs,r,hi,h=>jk p (K:=a) (by simpa[aV]using hi) h
 | .snd::p,.pair a b,pl,cs,r,hi,h=>jk p (K:=b) (by simpa[aV]using hi) h
 | .idx i::p,_,pl,cs,r,hi,h=>by simp[aV]at hi
 | .inn::_,.int _,_,_,_,_,h| .inn::_,.bool,_,_,_,_,h| .inn::_,.str,_,_,_,_,h| .inn::_,.err,_,_,_,_,h| .inn::_,.mp _ _,_,_,_,_,h| .inn::_,.fcell _ _ _,_,_,_,_,h| .inn::_,.raw _,_,_,_,_,h| .inn::_,.sl _,_,_,_,_,h| .inn::_,.pair _ _,_,_,_,_,h=>by simp[ck]at h
 | .fst::_,.int _,_,_,_,_,h| .fst::_,.bool,_,_,_,_,h| .fst::_,.str,_,_,_,_,h| .fst::_,.err,_,_,_,_,h| .fst::_,.mp _ _,_,_,_,_,h| .fst::_,.fcell _ _ _,_,_,_,_,h| .fst::_,.raw _,_,_,_,_,h| .fst::_,.sl _,_,_,_,_,h| .fst::_,.st _,_,_,_,_,h=>by simp[ck]at h
 | .snd::_,.int _,_,_,_,_,h| .snd::_,.bool,_,_,_,_,h| .snd::_,.str,_,_,_,_,h| .snd::_,.err,_,_,_,_,h| .snd::_,.mp _ _,_,_,_,_,h| .snd::_,.fcell _ _ _,_,_,_,_,h| .snd::_,.raw _,_,_,_,_,h| .snd::_,.sl _,_,_,_,_,h| .snd::_,.st _,_,_,_,_,h=>by simp[ck]at h
theorem OwnQ.mono {S S':Nat->Prop}{w w':World}{e:Kd}{m:Md}{off:Int}{xs:List e.T}{A:Option Addr}{F:Nat->Prop}(hS:∀b,S b->S' b)
  (hw:∀b o v,S b->w.pk b o=some v->w'.pk b o=some v)
  (hF:∀b o,F b->w'.pk b o=w.pk b o/\w'.frozen? ⟨b,o,none⟩=w.frozen? ⟨b,o,none⟩) (h:OwnQ S w e m off xs A F):OwnQ S' w' e m off xs A F:=by
 obtain⟨h1,G,h2,h3,h4,h5⟩:=h;refine⟨h1,G,h2,h3,h4,λi hi ho=>?_⟩;obtain⟨b,o,vs,e1,k1,k2⟩:=h5 i hi ho;refine⟨b,o,vs,e1,?_,k2.mono hS hw (λ_ h=>h) (λb o hb=>hF b o (h2 i b hb))⟩;obtain⟨b2,o2,e2,k3⟩:=h1 (by omega);rw[e1]at e2;cases e2;exact k1.of_same λo' v hv=>by rw[(hF b o' k3).1];exact hv
theorem QueOk.mono {S S':Nat->Prop}{w w':World}{o:Obj}{q:bK}{off:Int}{F:Nat->Prop}{pl:Place}{cs:List Value}(hq:aV q=false)(hS:∀b,S b->S' b)
  (hw:∀b o v,S b->w.pk b o=some v->w'.pk b o=some v)
  (hF:∀b o,F b->w'.pk b o=w.pk b o/\w'.frozen? ⟨b,o,none⟩=w.frozen? ⟨b,o,none⟩) (h:QueOk S w o q off F pl cs):QueOk S' w' o q off F pl cs:=by
 obtain⟨e,m,xs,pl',A,cap,h1,h2,h3⟩:=h;exact⟨e,m,xs,pl',A,cap,h1,jk q hq h2,h3.mono hS hw hF⟩
theorem Ext.same {w w':World}{X:Nat->Nat->Prop}(hx:Ext w w' X){b o:Nat}{v:PV}(hX:¬X b o)(h:w.pk b o=some v):w'.pk b o=some v:=by
 rw[(hx.cell b o (Cx h) hX).1];exact h
theorem InvG.put {P:Program}{B:Base}{nt:Nat}{e:Env}{a:Act}{w:World}{g:Gh}(h:InvG P B nt e a w g){d:Nat}(hd:d<nt){s:Slot}{v:Value}
  (hs:SlotRep P g w e.obj s v):InvG P B nt (e.put d s) (a.put (some d) v) w g:=by
 refine⟨h.glob,by simp only[Act.put,Array.size_setIfInBounds];exact h.tmps,h.defers,h.ext,h.Ssz,h.Fsz,h.S0,h.Sb,h.Fb,h.FS,h.FF,h.plz,h.absent,h.objs,λi=>?_⟩;have eo:(e.put d s).obj=e.obj:=rfl;rw[eo]
 by_cases hi:d=i
 ·subst hi
  have e1:(e.put d s).get d=s:=by simp[Env.get,Env.put,au]
  have e2:(a.put (some d) v).tmps.getD d undef=v:=by
   have:d<a.tmps.size:=by rw[h.tmps];exact hd
   simp[Act.put,this]
  rw[e1,e2];exact hs
 ·have e1:(e.put d s).get i=e.get i:=by simp[Env.get,Env.put,au,hi]
  have e2:(a.put (some d) v).tmps.getD i undef=a.tmps.getD i undef:=by
   simp[Act.put,Array.getD_eq_getD_getElem?,Array.getElem?_setIfInBounds_ne hi]
  rw[e1,e2];exact h.slots i
theorem Inv.eval {P:Program}{B:Base}{nt:Nat}{e:Env}{a:Act}{w:World}{g:Gh}(h:InvG P B nt e a w g)(x:Operand):SlotRep P g w e.obj (e.opd x) (a.eval x):=by
 cases x with
 |tmp t=>exact h.slots t
 |func f=>exact⟨[],[],rfl,rfl,rfl⟩
 |global i=>trivial
 |const v=>
  cases v with
  |int k n=>exact⟨_,rfl,rfl,rfl⟩
  |bool b=>exact⟨_,rfl,rfl,rfl⟩
  |string s=>exact⟨_,rfl,rfl,rfl⟩
  |nilIface=>exact⟨_,⟨_,rfl,.inl ⟨rfl,rfl⟩⟩,rfl,rfl⟩
  |slice A n cap=>
   cases A with
   |some ad=>exact trivial
   |none=>
    cases n with
    |zero=>cases cap with
     |zero=>exact rfl
     |succ c=>exact trivial
    |succ n=>exact trivial
  |_=>exact trivial
theorem InvG.change {P:Program}{B:Base}{nt:Nat}{e e':Env}{a:Act}{w w':World}{g g':Gh}(h:InvG P B nt e a w g)(T:Nat->Prop)
  (hsl:e'.slots=e.slots) (hx:Ext B.w0 w' B.X)
  (hS:∀b,g.S b->g'.S b) (hw:∀b o v,g.S b->w.pk b o=some v->w'.pk b o=some v)
  (hSsz:∀b,g'.S b->b<w'.heap.size) (hFsz:∀i b,g'.F i b->b<w'.heap.size)
  (hSb:∀b,g'.S b->B.S0 b\/B.Fx b\/B.w0.heap.size<=b) (hFb:∀i b,g'.F i b->B.Fx b\/B.w0.heap.size<=b)
  (hFS:∀i b,g'.F i b->¬g'.S b) (hFF:∀i j b,i≠j->g'.F i b->¬g'.F j b)
  (hplz:∀i b off,g'.pl i=some (b,off)->b<w'.heap.size/\¬g'.S b/\(∀j,¬g'.F j b)/\∀j off',g'.pl j=some (b,off')->i=j)
  (hT:∀i,¬T i->e'.obj i=e.obj i/\g'.F i=g.F i/\g'.pl i=g.pl i/\g'.cs i=g.cs i/\
   (∀b o,g.F i b->w'.pk b o=w.pk b o/\w'.frozen? ⟨b,o,none⟩=w.frozen? ⟨b,o,none⟩)/\
   (∀b off,g.pl i=some (b,off)->∀o,w'.pk b o=w.pk b o/\w'.frozen? ⟨b,o,none⟩=w.frozen? ⟨b,o,none⟩))
  (hgone:∀i,T i->(∀o,e'.obj i≠some (some o))->(∀b,¬g'.F i b)/\g'.pl i=none)
  (hobj:∀i o,T i->e'.obj i=some (some o)->vU g' w' B i o)
  (hal:∀i,T i->∀n p v,SlotRep0 P g w e.obj (.al i n p) v->SlotRep0 P g' w' e'.obj (.al i n p) v)
  (hpt:∀i,T i->∀n p v,SlotRep0 P g w e.obj (.pt i n p) v->SlotRep0 P g' w' e'.obj (.pt i n p) v):InvG P B nt e' a w' g':=by
 have sal:∀id n p v,q7 g w e.obj id n p v->q7 g' w' e'.obj id n p v:=by
  intro id n p v hs
  by_cases ht:T id
  ·exact hal id ht n p v hs
  ·obtain⟨e1,e2,e3,e4,e5,e6⟩:=hT id ht
   refine⟨by unfold LogOk;rw[e1];exact hs.1,λo ho hok hh=>?_⟩;rw[e1]at ho;obtain⟨q,cs',K',m',x',h1,h2,h3⟩:=hs.2 o ho hok hh;refine⟨q,cs',K',m',x',h1,?_,h3⟩;rw[e3,e4];rcases hh with hh|hh
   ·exact iz p h1 ((h.objs id o ho).own hh).1 (λb o hb=>(e5 b o hb).1) h2
   ·exact jk p hh h2
 have spt:∀id n p v,nG g w e.obj id n p v->nG g' w' e'.obj id n p v:=by
  intro id n p v hs
  by_cases ht:T id
  ·exact hpt id ht n p v hs
  ·obtain⟨e1,e2,e3,e4,e5,e6⟩:=hT id ht
   refine⟨by unfold LogOk;rw[e1];exact hs.1,λo ho hok hh=>?_⟩;rw[e1]at ho;obtain⟨b,off,cs',K',m',x',h1,h2,h3⟩:=hs.2 o ho hok hh
   suffices hs:∃c2,ck w' p o.K (g'.pl id) (g'.cs id)=some (some (b,off),c2)by
    obtain⟨c2,hs⟩:=hs;exact⟨b,off,c2,K',m',x',h1,hs,h3⟩
   rw[e3,e4];rcases hh with hh|hh|hh
   ·exact⟨_,iz p h1 ((h.objs id o ho).own hh).1 (λb o hb=>(e5 b o hb).1) h2⟩
   ·exact lD p hh h2
   ·obtain⟨q,cs2,_,_,_,_,k2,k2',_⟩:=(h.objs id o ho).hole p hh.1 hh.2
    rw[k2]at h2;exact⟨_,(k2' w' (λb o hb=>(e5 b o hb).1)).trans h2⟩
 have s0:∀s v,SlotRep0 P g w e.obj s v->SlotRep0 P g' w' e'.obj s v:=by
  intro s v hs;cases s with
  |dead=>trivial
  |un=>exact hs
  |nils=>exact hs
  |v K x=>obtain⟨cs,h1,h2⟩:=hs;exact⟨cs,h1.mono hS hw,h2⟩
  |rp K x=>exact PtrRO.mono hS hw hs
  |al id n p=>exact sal id n p v hs
  |sub e id n l r=>exact SubRep.imp (λv=>sal id n [] v) hs
  |pt id n p=>exact spt id n p v hs
  |fv f fs caps=>exact FvRep.imp hS hw (λid n v=>spt id n [] v) hs
  |fvr=>exact hs
  |clo Ks Kr f=>exact CloRep.mono hS hw hs
  |tup l=>exact hs
 have st:∀l vs,TupRep P g w e.obj l vs->TupRep P g' w' e'.obj l vs:=by
  intro l
  induction l with
  |nil=>intro vs h;exact h
  |cons s l ih=>intro vs ⟨v,r,e1,h1,h2⟩;exact⟨v,r,e1,s0 _ _ h1,ih _ h2⟩
 refine⟨h.glob,h.tmps,h.defers,hx,hSsz,hFsz,λb hb=>hS b (h.S0 b hb),hSb,hFb,hFS,hFF,hplz,λi hi=>?_,λi o ho=>?_,λi=>?_⟩
 ·by_cases ht:T i
  ·exact hgone i ht hi
  ·obtain⟨e1,e2,e3,_⟩:=hT i ht
   rw[e2,e3];exact h.absent i (λo ho=>hi o (by rw[e1];exact ho))
 ·by_cases ht:T i
  ·exact hobj i o ht ho
  ·obtain⟨e1,e2,e3,e4,e5,e6⟩:=hT i ht
   rw[e1]at ho;have hO:=h.objs i o ho;refine⟨λhh=>?_,λp hh hq=>?_,by rw[e3];exact hO.box,by rw[e3,e4];exact hO.par,by rw[e3];exact hO.plx,λq off hq=>by rw[e2,e3,e4];exact(hO.que q off hq).mono (mG hq).1 hS hw (λb o hb=>e5 b o hb)⟩
   ·obtain⟨h1,h2⟩:=hO.own hh
    rw[e2,e3,e4];refine⟨h1.mono hS hw (λ_ h=>h) (λb o hb=>e5 b o hb),h2.of_same λb o hR=>?_⟩;obtain⟨o0,e0,_,_⟩:=hR;exact e6 b o0 e0 o
   ·rw[e2,e3,e4]
    refine(hO.hole p hh hq).mono hS hw (λb o hb=>e5 b o hb) (λb o hR=>?_);obtain⟨o0,e0,_,_⟩:=hR;exact e6 b o0 e0 o
 ·have eg:e'.get i=e.get i:=by simp[Env.get,hsl]
  rw[eg];have hs:=h.slots i
  by_cases ht:(e.get i).isTup=true
  ·revert hs ht
   cases e.get i
   case tup l=>intro hs _;obtain⟨vs,e1,h1⟩:=hs;exact⟨vs,e1,st _ _ h1⟩
   all_goals intro _ ht;cases ht
  ·have ht:=JV.2 ht
   exact(SlotRep.iff0 ht).2 (s0 _ _ ((SlotRep.iff0 ht).1 hs))
def lC (P:Program)(B:Base)(nt:Nat)(o:Oper)(e e':Env):Prop:=
 ∀a w,Inv P B nt e a w->∀(next:Act->World->Prop) (Q:Exit->Act->World->Prop),(∀a' w',Inv P B nt e' a' w'->next a' w')->o.wp P a w next Q
theorem jt {P:Program}{B:Base}{nt d:Nat}{o:Oper}{e:Env}{s:Slot}{os:List (Nat×Option Obj)}(hd:o.dst=some d)(hlt:d<nt)
  (h:∀a w g,InvG P B nt e a w g->∃v w' g',(execOp a.eval o).run P w= .ok (.value v) w'/\InvG P B nt ⟨e.slots,os++e.objs⟩ a w' g'/\SlotRep P g' w' (Env.mk e.slots (os++e.objs)).obj s v):
  lC P B nt o e (e.apply ⟨[(d,s)],os⟩):=by
 intro a w ⟨g,hg⟩ next Q hn;obtain⟨v,w',g',hr,hi,hs⟩:=h a w g hg;unfold Oper.wp;rw[hr,NP,hd];exact hn _ _ ⟨g',hi.put hlt hs⟩
theorem mH {P:Program}{B:Base}{nt:Nat}{o:Oper}{s:Slot}{Ω:Type}{k:bX->Option Ω}{out:Ω}{Good:Env->Prop}(hk:cz nt o.dst s k=some out)
  (h:∀e,Good e->∀a w g,InvG P B nt e a w g->∃v w' g',(execOp a.eval o).run P w= .ok (.value v) w'/\InvG P B nt e a w' g'/\SlotRep P g' w' e.obj s v):
  ∃d,k d=some out/\∀e,Good e->lC P B nt o e (e.apply d):=by
 unfold cz at hk
 split at hk
 ·rename_i hd
  refine⟨_,hk,λe hv a w ⟨g,hg⟩ next Q hn=>?_⟩;obtain⟨v,w',g',hr,hi,hs⟩:=h e hv a w g hg;unfold Oper.wp;rw[hr,NP,hd];exact hn _ _ ⟨g',hi⟩
 ·rename_i d hd
  split at hk
  ·rename_i hlt
   refine⟨_,hk,λe hv=>jt (os:=[]) hd (Kh hlt) (λa w g hg=>?_)⟩;exact h e hv a w g hg
  ·cases hk
theorem bc {P:Program}{B:Base}{nt:Nat}{o:Oper}{s:Slot}{Ω:Type}{k:bX->Option Ω}{out:Ω}{Good:Env->Prop}(hk:cz nt o.dst s k=some out)
  (h:∀e,Good e->∀a w g,InvG P B nt e a w g->∃v,(execOp a.eval o).run P w= .ok (.value v) w/\SlotRep P g w e.obj s v):
  ∃d,k d=some out/\∀e,Good e->lC P B nt o e (e.apply d):=
 mH hk λe hv a w g hg=>let⟨v,h1,h2⟩:=h e hv a w g hg;⟨v,w,g,h1,hg,h2⟩
def yk:Kd->List Value->Option (List Value)
 | .int k,.int l 0::r=>if Cp k l=true then some r else none
 | .bool,.bool false::r=>some r
 | .err,.nilIface::r=>some r
 | .str,.string s::r=>if s.size=0 then some r else none
 | .sl _,.slice none 0 0::r=>some r
 | .mp _ _,.map none::r=>some r
 | .fcell _ _ _,.nilFunc::r=>some r
 | .st k,cs=>yk k cs
 | .raw k,cs=>yk k cs
 | .pair a b,cs=>match yk a cs with|some r=>yk b r|none=>none
 |_,_=>none
theorem vV {s:ByteArray}(h:s.size=0):s=⟨#[]⟩:=by
 obtain⟨d⟩:=s;have:d.size=0:=h
 simp at this
 rw[this]
theorem ri:∀{K:Kd} {cs r:List Value},yk K cs=some r->cs=K.zc++r
 | .int k,cs,r,h=>by
  unfold yk at h
  split at h<;>try (cases h;done)
  all_goals (rename_i heq;first|(cases heq;split at h<;>first|(rename_i hk;have:=qK hk;subst this;cases h;rfl)|cases h)|(cases heq;done))
 | .bool,cs,r,h=>by
  unfold yk at h
  split at h<;>try (cases h;done)
  all_goals (rename_i heq;first|(cases heq;cases h;rfl)|(cases heq;done))
 | .str,cs,r,h=>by
  unfold yk at h
  split at h<;>try (cases h;done)
  all_goals (rename_i heq;first|(cases heq;split at h<;>first|(rename_i hk;have:=vV hk;subst this;cases h;rfl)|cases h)|(cases heq;done))
 | .err,cs,r,h=>by
  unfold yk at h
  split at h<;>try (cases h;done)
  all_goals (rename_i heq;first|(cases heq;cases h;rfl)|(cases heq;done))
 | .sl e,cs,r,h=>by
  unfold yk at h
  split at h<;>try (cases h;done)
  all_goals (rename_i heq;first|(cases heq;cases h;rfl)|(cases heq;done))
 | .mp _ _,cs,r,h=>by
  unfold yk at h
  split at h<;>try (cases h;done)
  all_goals (rename_i heq;first|(cases heq;cases h;rfl)|(cases heq;done))
 | .fcell _ _ _,cs,r,h=>by
  unfold yk at h
  split at h<;>try (cases h;done)
  all_goals (rename_i heq;first|(cases heq;cases h;rfl)|(cases heq;done))
 | .st k,cs,r,h=>ri (K:=k) h
 | .raw k,cs,r,h=>ri (K:=k) h
 | .pair a b,cs,r,h=>by
  have h':(match yk a cs with|some r=>yk b r|none=>none)=some r:=h;cases ha:yk a cs with
  |none=>rw[ha]at h';cases h'
  |some r1=>
   rw[ha]at h';rw[ri ha,ri (K:=b) h']
   simp[Kd.zc]
theorem Kd.np_ok {K:Kd}(h:K.np=true):∀a b,K≠ .pair a b:=by
 intro a b e;subst e;cases h
def q8 (ty:List (Nat×Kd))(t:Nat)(K:Kd):Bool:=match au ty t with|some k'=>k'.beq K|none=>false
theorem fo {ty:List (Nat×Kd)}{t:Nat}{K:Kd}(h:q8 ty t K=true):au ty t=some K:=by
 unfold q8 at h
 split at h
 ·rename_i k' hk'
  have:=Kd.eq_of_beq h;subst this;exact hk'
 ·cases h
def pj:Value->Bool
 | .agg _=>true
 |_=>false
def cB (ty:List (Nat×Kd)):List Field->Nat->Kd->Bool
 |[f],off,k=>KQ f.offset off&&q8 ty f.type k&&k.np
 |f::g::r,off,.pair a b=>KQ f.offset off&&q8 ty f.type a&&a.np&&cB ty (g::r) (off+a.size) b
 |_,_,_=>false
def H9:Kd->Bool
 | .int _=>true
 | .str=>true
 |_=>false
def fY (ty:List (Nat×Kd)):Kd->TypeDesc->Bool
 | .int k,.int l=>Cp k l
 | .bool,.bool=>true
 | .str,.string=>true
 | .err,.interface _=>true
 | .sl e,.slice t'=>(q8 ty t' e&&e.np)
 | .st k,.struct fs=>cB ty fs.toList 0 k
 | .raw _,.struct _=>true
 | .mp k e,.map tk te=>H9 k&&q8 ty tk k&&q8 ty te e&&e.np
 | .fcell _ _ _,.func ..=>true
 |_,_=>false
theorem yz {ty:List (Nat×Kd)}{k:IntKind}{d:TypeDesc}(h:fY ty (.int k) d=true):d= .int k:=by
 cases d<;>first|(simp[fY]at h;done)|rw[qK h]
theorem vW {ty:List (Nat×Kd)}{d:TypeDesc}(h:fY ty .bool d=true):d= .bool:=by
 cases d<;>first|rfl|(simp[fY]at h;done)
theorem yA {ty:List (Nat×Kd)}{d:TypeDesc}(h:fY ty .str d=true):d= .string:=by
 cases d<;>first|rfl|(simp[fY]at h;done)
theorem yB {ty:List (Nat×Kd)}{d:TypeDesc}(h:fY ty .err d=true):∃ms,d= .interface ms:=by
 cases d<;>first|exact⟨_,rfl⟩|(simp[fY]at h;done)
theorem Bp {ty:List (Nat×Kd)}{e:Kd}{d:TypeDesc}(h:fY ty (.sl e) d=true):∃t',d= .slice t'/\au ty t'=some e:=by
 cases d
 case slice t'=>
  simp only[fY,Jz]at h;exact⟨t',rfl,fo h.1⟩
 all_goals (simp[fY]at h;done)
theorem Bq {ty:List (Nat×Kd)}{k:Kd}{d:TypeDesc}(h:fY ty (.st k) d=true):∃fs,d= .struct fs/\cB ty fs.toList 0 k=true:=by
 cases d
 case struct fs=>exact⟨fs,rfl,h⟩
 all_goals (simp[fY]at h;done)
def uH (P:Program)(ty:List (Nat×Kd))(q:Nat×Kd):Bool:=match P.info? q.1,P.underlying q.1 with
 |some i,some d=>KQ i.size q.2.size&&Od i.bytes 4096&&
  (match i.zero with|some z=>(match yk q.2 z.cells.toList with|some []=>pj z==q.2.agg|_=>false)|none=>false)&&
  fY ty q.2 d
 |_,_=>false
def TysOk (P:Program)(ty:List (Nat×Kd)):Prop:=ty.all (uH P ty)=true
theorem ol {α:Type}:∀{l:List (Nat×α)} {n:Nat} {x:α},au l n=some x->(n,x)∈l
 |[],_,_,h=>by cases h
 |(i,y)::l,n,x,h=>by
  unfold au at h
  split at h
  ·rename_i hb
   have:=JZ hb;subst this;cases h;exact JN
  ·exact JR _ (ol h)
theorem Br {ty:List (Nat×Kd)}{k e:Kd}{d:TypeDesc}(h:fY ty (.mp k e) d=true):∃tk te,d= .map tk te/\H9 k=true/\au ty tk=some k/\au ty te=some e:=by
 cases d
 case map tk te=>
  simp only[fY,Jz]at h;exact⟨tk,te,rfl,h.1.1.1,fo h.1.1.2,fo h.1.2⟩
 all_goals (simp[fY]at h;done)
theorem uI {ty:List (Nat×Kd)}{f:Nat}{a b:Kd}{d:TypeDesc}(h:fY ty (.fcell f a b) d=true):∃ps rs v,d= .func ps rs v:=by
 cases d
 case func ps rs v=>exact⟨ps,rs,v,rfl⟩
 all_goals (simp[fY]at h;done)
structure TyOk (P:Program) (ty:List (Nat×Kd)) (t:Nat) (K:Kd):Prop where
 info:∃i z,P.info? t=some i/\i.size=K.size/\i.bytes<=4096/\i.zero=some z/\z.cells=K.zc.toArray/\z=K.val K.zc
 int:∀k,K= .int k->P.underlying t=some (.int k)
 bool:K= .bool->P.underlying t=some .bool
 str:K= .str->P.underlying t=some .string
 sl:∀e,K= .sl e->∃t',P.underlying t=some (.slice t')/\au ty t'=some e
 st:∀k,K= .st k->∃fs,P.underlying t=some (.struct fs)/\cB ty fs.toList 0 k=true
 np:∀a b,K≠ .pair a b
 err:K= .err->∃ms,P.underlying t=some (.interface ms)
 raw:∀k,K= .raw k->∃fs,P.underlying t=some (.struct fs)
 mp:∀k e,K= .mp k e->∃tk te,P.underlying t=some (.map tk te)/\H9 k=true/\au ty tk=some k/\au ty te=some e
 fcell:∀f a b,K= .fcell f a b->∃ps rs v,P.underlying t=some (.func ps rs v)
theorem uJ {v:Value}(h:pj v=true):v= .agg v.cells:=by
 cases v<;>first|rfl|cases h
theorem pm {v:Value}(h:pj v=false):v.cells= #[v]:=by
 cases v<;>first|rfl|cases h
theorem TysOk.get {P:Program}{ty:List (Nat×Kd)}(h:TysOk P ty){t:Nat}{K:Kd}(hl:au ty t=some K):TyOk P ty t K:=by
 have h1:=List.all_eq_true.1 h _ (ol hl);unfold uH at h1;dsimp only at h1
 split at h1
 ·rename_i i d hi hd
  simp only[Jz]at h1;obtain⟨⟨⟨h2,h3⟩,h4⟩,h5⟩:=h1;have hsz:=JZ h2;have hby:=Kh h3
  split at h4
  ·rename_i z hz
   split at h4
   ·rename_i hzz
    have hcells:=ri hzz;simp only[List.append_nil]at hcells;have hagg:pj z=K.agg:=by simpa using h4
    have hc2:z.cells=K.zc.toArray:=by rw[← hcells]
    have hval:z=K.val K.zc:=by
     unfold Kd.val;cases hA:K.agg with
     |true=>
      rw[hA]at hagg;rw[ab rfl,← hc2];exact uJ hagg
     |false=>
      rw[hA]at hagg;rw[ao (by simp)];have:=pm hagg;rw[← hcells,this]
      rfl
    refine⟨⟨i,z,hi,hsz,hby,hz,hc2,hval⟩,?_,?_,?_,?_,?_,?_,?_,?_,?_,?_⟩
    ·rintro k rfl;rw[hd,yz h5]
    ·rintro rfl;rw[hd,vW h5]
    ·rintro rfl;rw[hd,yA h5]
    ·rintro e rfl;obtain⟨t',h6,h7⟩:=Bp h5;exact⟨t',by rw[hd,h6],h7⟩
    ·rintro k rfl;obtain⟨fs,h6,h7⟩:=Bq h5;exact⟨fs,by rw[hd,h6],h7⟩
    ·rintro a b rfl;cases d<;>(simp[fY]at h5;done)
    ·rintro rfl;obtain⟨ms,h6⟩:=yB h5;exact⟨ms,by rw[hd,h6]⟩
    ·rintro k rfl;rw[hd];cases d<;>first|exact⟨_,rfl⟩|(simp[fY]at h5;done)
    ·rintro k e rfl;obtain⟨tk,te,h6,h7⟩:=Br h5;exact⟨tk,te,by rw[hd,h6],h7⟩
    ·rintro f a b rfl;obtain⟨ps,rs,v,h6⟩:=uI h5;exact⟨ps,rs,v,by rw[hd,h6]⟩
   ·cases h4
  ·cases h4
 ·cases h1
theorem TyOk.size {P:Program}{ty:List (Nat×Kd)}{t:Nat}{K:Kd}(h:TyOk P ty t K)(w:World):(sizeOf t).run P w= .ok K.size w:=by
 obtain⟨i,z,h1,h2,_⟩:=h.info;simp only[sizeOf,typeInfo,JP,run_program,JF,h1,Kc,h2]
theorem TyOk.isAgg {P:Program}{ty:List (Nat×Kd)}{t:Nat}{K:Kd}(h:TyOk P ty t K)(w:World):(Go.isAgg t).run P w= .ok K.agg w:=by
 unfold Go.isAgg;rw[JP];cases K with
 |int k=>rw[run_underlying (h.int k rfl)];rfl
 |bool=>rw[run_underlying (h.bool rfl)];rfl
 |str=>rw[run_underlying (h.str rfl)];rfl
 |err=>obtain⟨ms,h1⟩:=h.err rfl;rw[run_underlying h1];rfl
 |sl e=>obtain⟨t',h1,_⟩:=h.sl e rfl;rw[run_underlying h1];rfl
 |st k=>obtain⟨fs,h1,_⟩:=h.st k rfl;rw[run_underlying h1];rfl
 |pair a b=>exact bH rfl (h.np a b)
 |raw k=>obtain⟨fs,h1⟩:=h.raw k rfl;rw[run_underlying h1];rfl
 |mp k e=>obtain⟨tk,te,h1,_⟩:=h.mp k e rfl;rw[run_underlying h1];rfl
 |fcell f a b=>obtain⟨ps,rs,v,h1⟩:=h.fcell f a b rfl;rw[run_underlying h1];rfl
theorem TyOk.zero {P:Program}{ty:List (Nat×Kd)}{t:Nat}{K:Kd}(h:TyOk P ty t K)(w:World):∃z,(zeroValue t).run P w= .ok z w/\z.cells=K.zc.toArray/\z=K.val K.zc:=by
 obtain⟨i,z,h1,_,_,h2,h3,h4⟩:=h.info;exact⟨z,by simp only[zeroValue,typeInfo,JP,run_program,JF,h1,Kc,h2],h3,h4⟩
theorem eA {c:fX}{t:Nat}{K:Kd}(hty:TysOk c.P c.ty)(h:eV c t K=true):TyOk c.P c.ty t K/\au c.ty t=some K:=by
 unfold eV at h
 split at h
 ·rename_i K' hl
  have:=Kd.eq_of_beq h;subst this;exact⟨hty.get hl,hl⟩
 ·cases h
theorem fZ (b o n:Nat):(⟨b,o,none⟩:Addr).add n=⟨b,o+n,none⟩:=by
 unfold Addr.add
 split
 ·rename_i h;subst h;rfl
 ·rfl
theorem iA {P:Program}{ty:List (Nat×Kd)}{t:Nat}{K:Kd}(h:TyOk P ty t K){w:World}{b o:Nat}{cs:List Value}(hl:cs.length=K.size)(hc:CellsAt w b o cs):
  (loadVar t ⟨b,o,none⟩).run P w= .ok (K.val cs) w:=by
 unfold loadVar;rw[JP,h.isAgg,JF];unfold Kd.val;cases hA:K.agg with
 |true=>
  simp only[if_true,JP,h.size,JF];rw[← hl,run_loadCells_list (P:=P) w ⟨b,o,none⟩ cs (λj v hj=>by
   rw[fZ];obtain⟨hlt,hv⟩:=Kg.1 hj;rw[hc j hlt,hv])]
  rfl
 |false=>
  have h1:cs.length=1:=by
   rw[hl];cases K with
   |st k=>cases hA
   |raw k=>cases hA
   |pair a b=>exact bH rfl (h.np a b)
   |_=>rfl
  have h0:=hc 0 (by omega);obtain⟨v,rfl⟩:=MO.1 h1;simp only[N2,KY]at h0;simp only[if_false,JI,run_load,h0]
  rfl
def Env.views (e:Env)(o:Oper):List bF:=(Oper.opds o).map λx=>e.view (e.opd x)
structure cg (c:fX):Prop where
 ty:TysOk c.P c.ty
theorem yC (e:Env)(l:List Cap):(l.map e.cap).map CapV.un=l:=by
 rw[List.map_map]
 conv=>rhs;rw[← List.map_id l]
 refine List.map_congr_left λc _=>?_
 cases c<;>rfl
theorem Cy (e:Env){s:Slot}(h:∀f fs l,s≠ .fvr f fs l):(e.view s).1.unv=s:=by
 cases s with
 |fv f fs l=>show Slot.fv f fs _=_;rw[yC]
 |fvr f fs l=>exact bH rfl (h f fs l)
 |_=>rfl
theorem cj {e:Env}{o:Oper}{x:Operand}{v:bF}(h:e.views o=[v])(ho:o.op.operands= #[x]):e.view (e.opd x)=v:=by
 simp only[Env.views,Oper.opds,ho,JM,KI,KM,and_true]at h;exact h
theorem eN {e:Env}{o:Oper}{x y:Operand}{v u:bF}(h:e.views o=[v,u])(ho:o.op.operands= #[x,y]):e.view (e.opd x)=v/\e.view (e.opd y)=u:=by
 simp only[Env.views,Oper.opds,ho,JM,KI,KM,and_true]at h;exact h
theorem mI {e:Env}{o:Oper}{x y z:Operand}{v u s:bF}(h:e.views o=[v,u,s])(ho:o.op.operands= #[x,y,z]):e.view (e.opd x)=v/\e.view (e.opd y)=u/\e.view (e.opd z)=s:=by
 simp only[Env.views,Oper.opds,ho,JM,KI,KM,and_true]at h;exact h
theorem aI {P:Program}{B:Base}{nt:Nat}{e:Env}{a:Act}{w:World}{g:Gh}(h:InvG P B nt e a w g){x:Operand}{s:Slot}{q:Option Obj}(hv:e.view (e.opd x)=(s,q)):
  SlotRep P g w e.obj s.unv (a.eval x):=by
 have h0:=Inv.eval h x
 by_cases hf:∀f fs l,e.opd x≠ .fvr f fs l
 ·have h1:s.unv=e.opd x:=by rw[← Cy e hf,hv]
  rw[h1];exact h0
 ·simp only[Classical.not_forall,Classical.not_not]at hf
  obtain⟨f,fs,l,hf⟩:=hf;rw[hf]at h0;exact h0.elim
theorem jv {e:Env}{x:Operand}{id n:Nat}{p:bK}{o:Obj}(hv:e.view (e.opd x)=(.al id n p,some o)):e.obj id=some (some o):=by
 have h1:e.opd x= .al id n p:=by
  have h2:=congrArg Prod.fst hv
  cases hs:e.opd x<;>rw[hs]at h2<;>first|exact h2|cases h2
 rw[h1]at hv;simp only[Env.view,JW,true_and]at hv;cases ho:e.obj id with
 |none=>rw[ho]at hv;cases hv
 |some q=>rw[ho]at hv;simp at hv;rw[hv]
theorem gU {e:Env}{x:Operand}{id n:Nat}{p:bK}{o:Obj}(hv:e.view (e.opd x)=(.pt id n p,some o)):e.obj id=some (some o):=by
 have h1:e.opd x= .pt id n p:=by
  have h2:=congrArg Prod.fst hv
  cases hs:e.opd x<;>rw[hs]at h2<;>first|exact h2|cases h2
 rw[h1]at hv;simp only[Env.view,JW,true_and]at hv;cases ho:e.obj id with
 |none=>rw[ho]at hv;cases hv
 |some q=>rw[ho]at hv;simp at hv;rw[hv]
theorem jZ {P:Program}{B:Base}{nt:Nat}{e:Env}{a:Act}{w:World}{g:Gh}(h:InvG P B nt e a w g){x:Operand}{id n:Nat}{p:bK}{o:Obj}
  (hv:e.view (e.opd x)=(.al id n p,some o)) (hh:bM o=true) (hk:fB o n p=true):
  ∃q cs' K' m' x' F',aS o.K o.m o.x p=some ⟨K',m',x'⟩/\ck w p o.K (g.pl id) (g.cs id)=some (q,cs')/\VRep K' cs' (a.eval x)/\
   Focus g.S w p o.K o.m o.x (g.cs id) (g.F id) (g.pl id) K' m' x' cs' q F':=by
 have hr:=aI h hv;have ho:=jv hv;have hhl:o.hl=none:=by unfold bM at hh;split at hh<;>first|assumption|cases hh
 obtain⟨_,h2⟩:=hr;obtain⟨q,cs',K',m',x',h3,h4,h5⟩:=h2 o ho hk (.inl hhl);obtain⟨h6,h7⟩:=(h.objs id o ho).own hhl;obtain⟨F',f⟩:=nC p h3 h4 h6 h7 (λb off e1=>(h.plz id b off e1).2.2.1 id);exact⟨q,cs',K',m',x',F',h3,h4,h5,f⟩
theorem rj {P:Program}{B:Base}{nt:Nat}{e:Env}{a:Act}{w:World}{g:Gh}(h:InvG P B nt e a w g){x:Operand}{id n:Nat}{p:bK}{o:Obj}
  (hv:e.view (e.opd x)=(.pt id n p,some o)) (hh:bM o=true) (hk:gC o n p=true):
  ∃b off cs' K' m' x' F',aS o.K o.m o.x p=some ⟨K',m',x'⟩/\ck w p o.K (g.pl id) (g.cs id)=some (some (b,off),cs')/\a.eval x= .pointer (some ⟨b,off,none⟩)/\
   Focus g.S w p o.K o.m o.x (g.cs id) (g.F id) (g.pl id) K' m' x' cs' (some (b,off)) F':=by
 have hr:=aI h hv;have ho:=gU hv;have hhl:o.hl=none:=by unfold bM at hh;split at hh<;>first|assumption|cases hh
 obtain⟨_,h2⟩:=hr;obtain⟨b,off,cs',K',m',x',h3,h4,h5⟩:=h2 o ho hk (.inl hhl);obtain⟨h6,h7⟩:=(h.objs id o ho).own hhl;obtain⟨F',f⟩:=nC p h3 h4 h6 h7 (λb off e1=>(h.plz id b off e1).2.2.1 id);exact⟨b,off,cs',K',m',x',F',h3,h4,h5,f⟩
theorem uK {P:Program}{B:Base}{nt:Nat}{e:Env}{a:Act}{w:World}{g:Gh}(h:InvG P B nt e a w g){x:Operand}{v:bF}{q:KV}
  (hv:e.view (e.opd x)=v) (hr:EG v=some q):∃cs,RO (λb=>b<w.heap.size) w q.1 q.2 cs/\VRep q.1 cs (a.eval x):=by
 unfold EG at hr
 split at hr
 ·rename_i K x' _
  simp only[JD]at hr;subst hr;obtain⟨cs,h1,h2⟩:=aI h hv;exact⟨cs,h1.mono (λb hb=>h.Ssz b hb) (λ_ _ _ _ h=>h),h2⟩
 ·rename_i id n p o
  split at hr
  ·rename_i hc
   rw[Jz]at hc;obtain⟨pl,cs',K',m',x',F',h1,h2,h3,f⟩:=jZ h hv hc.1 hc.2;rw[h1]at hr;simp only[JD]at hr;subst hr;exact⟨cs',Own.toRO (λb hb=>h.Ssz b hb) (λb hb=>h.Fsz id b (f.sub b hb)) f.own,h3⟩
  ·cases hr
 ·cases hr
section
variable {c:fX} {B:Base} {nt:Nat} {o:Oper} {Ω:Type} {k:bX->Option Ω} {out:Ω} {fr:Bool}
def cd (c:fX)(B:Base)(nt:Nat)(o:Oper)(vs:List bF)(fr:Bool)(k:bX->Option Ω)(out:Ω):Prop:=
 ∃d,k d=some out/\∀e:Env,(e.views o=vs/\fresh e o.dst=fr)->lC c.P B nt o e (e.apply d)
theorem qN {x:Operand}{v:bF}(ho:o.op= .move x\/o.op= .assign x)(h:cz nt o.dst v.1.unv k=some out):cd c B nt o [v] fr k out:=by
 refine bc h λe he a w g hg=>⟨a.eval x,?_,?_⟩
 ·rcases ho with ho|ho<;>simp only[execOp,ho]<;>rfl
 ·have h1:e.view (e.opd x)=v:=cj he.1 (by rcases ho with ho|ho<;>rw[ho]<;>rfl)
  exact aI hg (s:=v.1) (q:=v.2) h1
theorem EH {x y z:Operand}{b:Bool}{q:Option Obj}{v u:bF}(ho:o.op= .pick x y z)
  (h:(if b=true then cz nt o.dst v.1.unv k else cz nt o.dst u.1.unv k)=some out):cd c B nt o [(.v .bool b,q),v,u] fr k out:=by
 have hrun:∀(e:Env),e.views o=[(.v .bool b,q),v,u]->∀a w g,InvG c.P B nt e a w g->(execOp a.eval o).run c.P w= .ok (.value (if b then a.eval y else a.eval z)) w:=by
  intro e he a w g hg;obtain⟨h1,h2,h3⟩:=mI he (by rw[ho];rfl);obtain⟨cs,r1,r2⟩:=aI hg h1;rw[show cs=[.bool b]from r1]at r2;have r3:a.eval x= .bool b:=r2.1;simp only[execOp,ho,r3,asBool];cases b<;>rfl
 cases b with
 |true=>
  refine bc (s:=v.1.unv) h λe he a w g hg=>⟨_,hrun e he.1 a w g hg,?_⟩
  obtain⟨h1,h2,h3⟩:=mI he.1 (by rw[ho];rfl);exact aI hg (s:=v.1) (q:=v.2) h2
 |false=>
  refine bc (s:=u.1.unv) h λe he a w g hg=>⟨_,hrun e he.1 a w g hg,?_⟩
  obtain⟨h1,h2,h3⟩:=mI he.1 (by rw[ho];rfl);exact aI hg (s:=u.1) (q:=u.2) h3
theorem eO {P:Program}{g:Gh}{w:World}{ob:Nat->Option (Option Obj)}{i:IntKind}{n:Int}{v:Value}(h:SlotRep P g w ob (.v (.int i) n) v):v= .int i n:=by
 obtain⟨cs,r1,r2⟩:=h;rw[show cs=[.int i n]from r1]at r2;exact r2.1
theorem rk {P:Program}{g:Gh}{w:World}{ob:Nat->Option (Option Obj)}{b:Bool}{v:Value}(h:SlotRep P g w ob (.v .bool b) v):v= .bool b:=by
 obtain⟨cs,r1,r2⟩:=h;rw[show cs=[.bool b]from r1]at r2;exact r2.1
theorem uL {P:Program}{g:Gh}{w:World}{ob:Nat->Option (Option Obj)}{s:ByteArray}{v:Value}(h:SlotRep P g w ob (.v .str s) v):v= .string s:=by
 obtain⟨cs,r1,r2⟩:=h;rw[show cs=[.string s]from r1]at r2;exact r2.1
theorem jd (P:Program)(g:Gh)(w:World)(ob:Nat->Option (Option Obj))(i:IntKind)(n:Int):SlotRep P g w ob (.v (.int i) n) (.int i n):=⟨_,rfl,rfl,rfl⟩
theorem fL (P:Program)(g:Gh)(w:World)(ob:Nat->Option (Option Obj))(b:Bool):SlotRep P g w ob (.v .bool b) (.bool b):=⟨_,rfl,rfl,rfl⟩
theorem nT (P:Program)(g:Gh)(w:World)(ob:Nat->Option (Option Obj))(s:ByteArray):SlotRep P g w ob (.v .str s) (.string s):=⟨_,rfl,rfl,rfl⟩
theorem rl {P:Program}{w:World}(op:BinOp)(t:Nat)(x y:Operand){a b:Value}(ha:pj a=false)(hb:a≠ .nilIface):(eqGuard op t x y a b).run P w= .ok () w:=by
 cases op<;>first|rfl|(cases a<;>first|rfl|(exact bH rfl hb)|cases ha)
theorem EI {op:BinOp}{t t2:Nat}{x y:Operand}{i:IntKind}{m n:Int}{r:KV}{q1 q2:Option Obj}(ho:o.op= .binOp op t x y t2)(hr:H4 op i m n=some r)
  (h:cz nt o.dst (.v r.1 r.2) k=some out):cd c B nt o [(.v (.int i) m,q1),(.v (.int i) n,q2)] fr k out:=by
 refine bc h λe he a w g hg=>?_
 obtain⟨h1,h2⟩:=eN he.1 (by rw[ho];rfl);have e1:=eO (aI hg h1);have e2:=eO (aI hg h2);have hg0:(eqGuard op t x y (.int i m) (.int i n)).run c.P w= .ok () w:=rl op t x y rfl (by simp);have hrun:(execOp a.eval o).run c.P w=((binOp op t (.int i m) (.int i n)).run c.P w).andThen λv w'=>.ok (.value v) w':=by
  simp only[execOp,ho,e1,e2,JP,hg0,JF]
  rfl
 rw[hrun];cases op<;>simp only[H4,JD,reduceCtorEq]at hr<;>subst hr<;>simp only[binOp,ne_eq,not_true_eq_false,if_false,Op.intArith,Op.intCmp,Kc,JF]
 case add|sub|mul=>exact⟨_,rfl,jd _ _ _ _ _ _⟩
 case eql=>exact⟨_,rfl,fL _ _ _ _ _⟩
 case neq=>exact⟨_,rfl,fL _ _ _ _ _⟩
 all_goals exact⟨_,rfl,fL _ _ _ _ _⟩
end
section
variable {c:fX} {B:Base} {nt:Nat} {o:Oper} {Ω:Type} {k:bX->Option Ω} {out:Ω} {fr:Bool}
theorem oq {e:Env}{a:Act}{w:World}{P:Program}{op:BinOp}{t t2:Nat}{x y:Operand}{u v:Value}(ho:o.op= .binOp op t x y t2)(e1:a.eval x=u)(e2:a.eval y=v)
  (ha:pj u=false) (hb:u≠ .nilIface):(execOp a.eval o).run P w=((binOp op t u v).run P w).andThen λv w'=>.ok (.value v) w':=by
 have hg0:(eqGuard op t x y u v).run P w= .ok () w:=rl op t x y ha hb;simp only[execOp,ho,e1,e2,JP,hg0,JF]
 rfl
theorem A0 {op:BinOp}{t t2:Nat}{x y:Operand}{i:IntKind}{m n:Int}{q1 q2:Option Obj}(ho:o.op= .binOp op t x y t2)
  (h:yq op i m n (λr=>cz nt o.dst (.v r.1 r.2) k)=some out):cd c B nt o [(.v (.int i) m,q1),(.v (.int i) n,q2)] fr k out:=by
 have key:n≠0/\((op= .quo/\cz nt o.dst (.v (.int i) (i.wrap (m.tdiv n))) k=some out)\/(op= .rem/\cz nt o.dst (.v (.int i) (m.tmod n)) k=some out)):=by
  unfold yq at h
  cases op<;>first|(cases h;done)|skip
  all_goals
   dsimp only at h
   split at h
   ·cases h
   ·rename_i hn
    first|exact⟨hn,.inl ⟨rfl,h⟩⟩|exact⟨hn,.inr ⟨rfl,h⟩⟩
 obtain⟨hn,h1⟩:=key;rcases h1 with⟨rfl,h1⟩|⟨rfl,h1⟩<;>refine bc h1 λe he a w g hg=>?_<;>obtain⟨v1,v2⟩:=eN he.1 (by rw[ho];rfl)<;>
  rw[oq (e:=e) ho (eO (aI hg v1)) (eO (aI hg v2)) rfl (by simp)]<;>
  simp only[binOp,ne_eq,not_true_eq_false,if_false,Op.intDiv,ao hn,Kc,JF]<;>exact⟨_,rfl,jd _ _ _ _ _ _⟩
theorem Ha:((aT:Nat):Int)<Ju.max:=by decide
theorem EJ {op:BinOp}{t t2:Nat}{x y:Operand}{m n:ByteArray}{q1 q2:Option Obj}(ho:o.op= .binOp op t x y t2)
  (h:Bj op m n (λr=>cz nt o.dst (.v r.1 r.2) k)=some out):cd c B nt o [(.v .str m,q1),(.v .str n,q2)] fr k out:=by
 have run:∀(e:Env),e.views o=[(.v .str m,q1),(.v .str n,q2)]->∀a w g,InvG c.P B nt e a w g->(execOp a.eval o).run c.P w=((Op.stringOp op m n).run c.P w).andThen λv w'=>.ok (.value v) w':=by
  intro e he a w g hg;obtain⟨v1,v2⟩:=eN he (by rw[ho];rfl);rw[oq (e:=e) ho (uL (aI hg v1)) (uL (aI hg v2)) rfl (by simp)];cases op<;>rfl
 cases op<;>first|(cases h;done)|skip
 case add=>
  simp only[Bj]at h
  split at h
  ·rename_i hl
   refine bc h λe he a w g hg=>?_
   rw[run e he.1 a w g hg];have:¬(((m.size+n.size:Nat):Int)>Ju.max):=by have:=Ha;omega
   simp only[Op.stringOp,Ox,ao this,Kc,JF];exact⟨_,rfl,nT _ _ _ _ _⟩
  ·cases h
 all_goals
  refine bc h λe he a w g hg=>?_
  rw[run e he.1 a w g hg];exact⟨_,rfl,fL _ _ _ _ _⟩
theorem vX {op:BinOp}{t t2:Nat}{x y:Operand}{i j:IntKind}{m n:Int}{q1 q2:Option Obj}(ho:o.op= .binOp op t x y t2)
  (h:nQ op i m n (λr=>cz nt o.dst (.v r.1 r.2) k)=some out):cd c B nt o [(.v (.int i) m,q1),(.v (.int j) n,q2)] fr k out:=by
 unfold nQ at h
 split at h
 ·cases h
 ·rename_i hn
  cases op<;>first|(cases h;done)|skip
  all_goals
   refine bc h λe he a w g hg=>?_
   obtain⟨v1,v2⟩:=eN he.1 (by rw[ho];rfl);rw[oq (e:=e) ho (eO (aI hg v1)) (eO (aI hg v2)) rfl (by simp)];simp only[binOp,Op.shift,ao hn,Kc,JF];exact⟨_,rfl,jd _ _ _ _ _ _⟩
theorem uM {P:Program}{w:World}{t:Nat}{m n:Bool}(hu:P.underlying t=some .bool)(d:Nat):(MZ (d+1) t (.bool m) (.bool n)).run P w= .ok (m==n) w:=by
 simp only[MZ,JP,run_underlying hu,JF]
 rfl
theorem A5 {op:BinOp}{t t2:Nat}{x y:Operand}{m n:Bool}{r:Bool}{q1 q2:Option Obj}(hc:cg c)(ho:o.op= .binOp op t x y t2)(ht:au c.ty t=some .bool)
  (hr:(op= .eql/\r=(m==n))\/(op= .neq/\r= !(m==n))) (h:cz nt o.dst (.v .bool r) k=some out):cd c B nt o [(.v .bool m,q1),(.v .bool n,q2)] fr k out:=by
 have hu:c.P.underlying t=some .bool:=(hc.ty.get ht).bool rfl;refine bc h λe he a w g hg=>?_
 obtain⟨v1,v2⟩:=eN he.1 (by rw[ho];rfl);rw[oq (e:=e) ho (rk (aI hg v1)) (rk (aI hg v2)) rfl (by simp)];have heq:(Op.equal t (.bool m) (.bool n)).run c.P w= .ok (m==n) w:=uM hu 9999;rcases hr with⟨rfl,rfl⟩|⟨rfl,rfl⟩
 ·have:(binOp .eql t (.bool m) (.bool n)).run c.P w= .ok (.bool (m==n)) w:=by
   simp only[binOp,JP,heq,JF];rfl
  rw[this];exact⟨_,rfl,fL _ _ _ _ _⟩
 ·have:(binOp .neq t (.bool m) (.bool n)).run c.P w= .ok (.bool (!(m==n))) w:=by
   simp only[binOp,JP,heq,JF];rfl
  rw[this];exact⟨_,rfl,fL _ _ _ _ _⟩
theorem EK {P:Program}{w:World}{t:Nat}{ms:Array (String×TypeId)}{m n:Bool}{x y:Value}(hu:P.underlying t=some (.interface ms))(hx:vL m x)(hy:vL n y)(hz:(m&&n)=false)(d:Nat):(MZ (d+1) t x y).run P w= .ok (m==n) w:=by
 rcases hx with⟨rfl,rfl⟩|⟨rfl,a,b,rfl⟩<;>rcases hy with⟨rfl,rfl⟩|⟨rfl,c,d,rfl⟩
 ·simp only[MZ,JP,run_underlying hu,JF];rfl
 ·simp only[MZ,JP,run_underlying hu,JF];rfl
 ·simp only[MZ,JP,run_underlying hu,JF];rfl
 ·cases hz
theorem vY {P:Program}{w:World}{op:BinOp}{t:Nat}{x y:Operand}{m n:Bool}{a b:Value}(hx:vL m a)(hy:vL n b)(hc:(q5 x||q5 y)=true):(eqGuard op t x y a b).run P w= .ok () w:=by
 rcases hx with⟨rfl,rfl⟩|⟨rfl,_,_,rfl⟩<;>rcases hy with⟨rfl,rfl⟩|⟨rfl,_,_,rfl⟩<;>first|(cases op<;>rfl)|skip;rw[Lo]at hc;rcases hc with hc|hc
 ·cases x<;>first|(cases op<;>rfl)|cases hc
 ·cases y<;>first|(cases x<;>cases op<;>rfl)|cases hc
theorem A6 {op:BinOp}{t t2:Nat}{x y:Operand}{m n:Bool}{r:Bool}{q1 q2:Option Obj}(hc:cg c)(ho:o.op= .binOp op t x y t2)(ht:au c.ty t=some .err)(hz:(m&&n)=false)(hcs:(q5 x||q5 y)=true)
  (hr:(op= .eql/\r=(m==n))\/(op= .neq/\r= !(m==n))) (h:cz nt o.dst (.v .bool r) k=some out):cd c B nt o [(.v .err m,q1),(.v .err n,q2)] fr k out:=by
 obtain⟨ms,hu⟩:=(hc.ty.get ht).err rfl;refine bc h λe he a w g hg=>?_
 obtain⟨v1,v2⟩:=eN he.1 (by rw[ho];rfl);obtain⟨c1,⟨x1,rfl,hx⟩,hv1,_⟩:=aI hg v1;obtain⟨c2,⟨x2,rfl,hy⟩,hv2,_⟩:=aI hg v2;have hv1:a.eval x=x1:=hv1;have hv2:a.eval y=x2:=hv2;have hg0:(eqGuard op t x y x1 x2).run c.P w= .ok () w:=vY hx hy hcs;have hrun:(execOp a.eval o).run c.P w=((binOp op t x1 x2).run c.P w).andThen λv w'=>.ok (.value v) w':=by
  simp only[execOp,ho,hv1,hv2,JP,hg0,JF]
  rfl
 rw[hrun];have heq:(Op.equal t x1 x2).run c.P w= .ok (m==n) w:=EK (w:=w) hu hx hy hz 9999;rcases hr with⟨rfl,rfl⟩|⟨rfl,rfl⟩
 ·have:(binOp .eql t x1 x2).run c.P w= .ok (.bool (m==n)) w:=by
   rcases hx with⟨rfl,rfl⟩|⟨rfl,_,_,rfl⟩<;>simp only[binOp,JP,heq,JF]<;>rfl
  rw[this];exact⟨_,rfl,fL _ _ _ _ _⟩
 ·have:(binOp .neq t x1 x2).run c.P w= .ok (.bool (!(m==n))) w:=by
   rcases hx with⟨rfl,rfl⟩|⟨rfl,_,_,rfl⟩<;>simp only[binOp,JP,heq,JF]<;>rfl
  rw[this];exact⟨_,rfl,fL _ _ _ _ _⟩
theorem EL {op:BinOp}{t t2:Nat}{x y:Operand}{K L:Kd}{m:K.T}{n:L.T}{q1 q2:Option Obj}(hc:cg c)(ho:o.op= .binOp op t x y t2)
  (h:Bk c op t (q5 x||q5 y) ⟨K,m⟩ ⟨L,n⟩ (λr=>cz nt o.dst (.v r.1 r.2) k)=some out):cd c B nt o [(.v K m,q1),(.v L n,q2)] fr k out:=by
 unfold Bk at h
 split at h
 ·rename_i k1 m1 l1 n1 e1 e2
  cases e1;cases e2
  split at h
  ·rename_i hk
   have:=qK hk;subst this
   split at h
   ·exact A0 ho h
   ·exact A0 ho h
   ·split at h
    ·rename_i r hr
     exact EI ho hr h
    ·exact vX ho h
  ·exact vX ho h
 ·rename_i m1 n1 e1 e2
  cases e1;cases e2;exact EJ ho h
 ·rename_i m1 n1 e1 e2
  cases e1;cases e2
  split at h
  ·rename_i ht
   split at h
   ·exact A5 hc ho ht (.inl ⟨rfl,rfl⟩) h
   ·exact A5 hc ho ht (.inr ⟨rfl,rfl⟩) h
   ·cases h
  ·cases h
 ·rename_i m1 n1 e1 e2
  cases e1;cases e2
  split at h
  ·cases h
  ·rename_i hz
   have hz:=JV.2 hz
   split at h
   ·rename_i hcs ht
    split at h
    ·exact A6 hc ho ht hz hcs (.inl ⟨rfl,rfl⟩) h
    ·exact A6 hc ho ht hz hcs (.inr ⟨rfl,rfl⟩) h
    ·cases h
   ·cases h
 ·cases h
theorem Hb {x:Operand}{b:Bool}{t:Nat}{q:Option Obj}(ho:o.op= .unOp .not t x)(h:cz nt o.dst (.v .bool (!b)) k=some out):cd c B nt o [(.v .bool b,q)] fr k out:=by
 refine bc h λe he a w g hg=>⟨.bool (!b),?_,fL _ _ _ _ _⟩
 have e1:=rk (aI hg (cj he.1 (by rw[ho];rfl)));simp only[execOp,ho,e1];rfl
theorem Hc {x:Operand}{i:IntKind}{n:Int}{t:Nat}{q:Option Obj}(ho:o.op= .unOp .neg t x)(h:cz nt o.dst (.v (.int i) (i.wrap (0 - n))) k=some out):cd c B nt o [(.v (.int i) n,q)] fr k out:=by
 refine bc h λe he a w g hg=>⟨.int i (i.wrap (0 - n)),?_,jd _ _ _ _ _ _⟩
 have e1:=eO (aI hg (cj he.1 (by rw[ho];rfl)));simp only[execOp,ho,e1];rfl
theorem yD {x:Operand}{i j:IntKind}{n:Int}{s t:Nat}{q:Option Obj}(hc:cg c)(ho:o.op= .convert s t x)(hs:∃K,au c.ty s=some K)(ht:au c.ty t=some (.int i))(h:cz nt o.dst (.v (.int i) (i.wrap n)) k=some out):
  cd c B nt o [(.v (.int j) n,q)] fr k out:=by
 refine bc h λe he a w g hg=>⟨.int i (i.wrap n),?_,jd _ _ _ _ _ _⟩
 have e1:=eO (aI hg (cj he.1 (by rw[ho];rfl)));have hu:=(hc.ty.get ht).int i rfl;obtain⟨K,hK⟩:=hs;have hsd:∃d,c.P.underlying s=some d:=by
  have hT:=hc.ty.get hK;cases K with
  |int k=>exact⟨_,hT.int k rfl⟩
  |bool=>exact⟨_,hT.bool rfl⟩
  |str=>exact⟨_,hT.str rfl⟩
  |err=>obtain⟨ms,h1⟩:=hT.err rfl;exact⟨_,h1⟩
  |mp k e=>obtain⟨tk,te,h1,_⟩:=hT.mp k e rfl;exact⟨_,h1⟩
  |fcell f a b=>obtain⟨ps,rs,v,h1⟩:=hT.fcell f a b rfl;exact⟨_,h1⟩
  |sl e=>obtain⟨t',h1,_⟩:=hT.sl e rfl;exact⟨_,h1⟩
  |st k=>obtain⟨fs,h1,_⟩:=hT.st k rfl;exact⟨_,h1⟩
  |pair a b=>exact bH rfl (hT.np a b)
  |raw k=>obtain⟨fs,h1⟩:=hT.raw k rfl;exact⟨_,h1⟩
 obtain⟨d,hd⟩:=hsd;have:(convert s t (.int j n)).run c.P w= .ok (.int i (i.wrap n)) w:=by
  simp only[convert,JP,run_underlying hd,run_underlying hu,JF]
  rfl
 simp only[execOp,ho,e1,JP,this,JF]
 rfl
theorem pn {x:Operand}{v:bF}{xs:List Int}{s t:Nat}(hc:cg c)(ho:o.op= .convert s t x)(hv:EG v=some ⟨.sl (.int .u8),xs⟩)(hs:au c.ty s=some (.sl (.int .u8)))(ht:au c.ty t=some .str)(h:cz nt o.dst (.v .str (rc xs)) k=some out):
  cd c B nt o [v] fr k out:=by
 refine bc h λe he a w g hg=>⟨.string (rc xs),?_,nT _ _ _ _ _⟩
 obtain⟨cs,r1,r2⟩:=uK hg (cj he.1 (x:=x) (by rw[ho];rfl)) hv;have hu:=(hc.ty.get ht).str rfl;obtain⟨t',hd,he'⟩:=(hc.ty.get hs).sl _ rfl;have hu8:=(hc.ty.get he').int _ rfl;obtain⟨A,cap,rfl,hl,hx⟩:=r1;have e1:a.eval x= .slice A (Jr xs) cap:=r2.1;have key:(convert s t (.slice A (Jr xs) cap)).run c.P w= .ok (.string (rc xs)) w:=by
  rw[run_convert_bytes_string w s t t' A _ _ hd hu8 hu];cases A with
  |none=>
   cases xs with
   |nil=>rfl
   |cons y ys=>
    obtain⟨b,o',vs,hA,_⟩:=hx 0 (by simp);cases hA
  |some ad=>
   refine run_bytesToString w ad _ cap xs ?_;have:=run_loadCells_list (P:=c.P) w ad (xs.map (Value.int .u8)) (λj v hj=>by
    rw[List.getElem?_map,Option.map_eq_some_iff]at hj;obtain⟨n,hn,rfl⟩:=hj;obtain⟨hlt,hn⟩:=Kg.1 hn;obtain⟨b,o',vs,hA,_,hcells,hro⟩:=hx j hlt;cases hA;rw[fZ];have hro:vs=[.int .u8 xs[j]]:=hro;subst hro;have:=hcells 0 (by simp);simp only[Kd.size,Nat.mul_one,KY,N2]at this;rw[this,hn])
   rw[List.length_map]at this;exact this
 simp only[execOp,ho,e1,JP,key,JF]
 rfl
theorem RO.part {S:Nat->Prop}{w:World}:∀(p:bK) {K:Kd} {x:K.T} {cs:List Value} {K':Kd} {m':Md} {x':K'.T},aS K .ro x p=some ⟨K',m',x'⟩->RO S w K x cs->
  ∃off cs',off+K'.size<=K.size/\cs'=(cs.drop off).take K'.size/\RO S w K' x' cs'/\∀pl,ck w p K pl cs=some (pl.up off,cs')
 |[],K,x,cs,K',m',x',hg,h=>by
  simp only[aS,JD]at hg;cases hg;exact⟨0,cs,by omega,by rw[List.drop_zero,← h.length,List.take_length],h,λpl=>by simp only[ck];cases pl<;>rfl⟩
 | .inn::p,.st k,x,cs,K',m',x',hg,h=>RO.part p (K:=k) hg h
 | .fst::p,.pair a b,x,cs,K',m',x',hg,h=>by
  obtain⟨c1,c2,rfl,h1,h2⟩:=h;obtain⟨off,cs',r1,r2,r3,r4⟩:=RO.part p (K:=a) hg h1;have l1:=h1.length;refine⟨off,cs',by simp only[Kd.size];omega,?_,r3,λpl=>?_⟩
  ·rw[r2,List.drop_append_of_le_length (by omega),List.take_append_of_le_length (by rw[List.length_drop];omega)]
  ·simp only[ck]
   rw[← l1,Lf];exact r4 pl
 | .snd::p,.pair a b,x,cs,K',m',x',hg,h=>by
  obtain⟨c1,c2,rfl,h1,h2⟩:=h;obtain⟨off,cs',r1,r2,r3,r4⟩:=RO.part p (K:=b) hg h2;have l1:=h1.length;refine⟨a.size+off,cs',by simp only[Kd.size];omega,?_,r3,λpl=>?_⟩
  ·rw[r2,← l1,show(c1++c2).drop (c1.length+off)=c2.drop off by rw[← List.drop_drop,KL]]
  ·simp only[ck]
   rw[← l1,KL,l1,r4];cases pl<;>simp[Place.up,Mk]
 | .inn::_,.int _,_,_,_,_,_,hg,_| .inn::_,.bool,_,_,_,_,_,hg,_| .inn::_,.str,_,_,_,_,_,hg,_| .inn::_,.err,_,_,_,_,_,hg,_| .inn::_,.mp _ _,_,_,_,_,_,hg,_| .inn::_,.fcell _ _ _,_,_,_,_,_,hg,_| .inn::_,.raw _,_,_,_,_,_,hg,_| .inn::_,.sl _,_,_,_,_,_,hg,_| .inn::_,.pair _ _,_,_,_,_,_,hg,_=>by simp[aS]at hg
 | .fst::_,.int _,_,_,_,_,_,hg,_| .fst::_,.bool,_,_,_,_,_,hg,_| .fst::_,.str,_,_,_,_,_,hg,_| .fst::_,.err,_,_,_,_,_,hg,_| .fst::_,.mp _ _,_,_,_,_,_,hg,_| .fst::_,.fcell _ _ _,_,_,_,_,_,hg,_| .fst::_,.raw _,_,_,_,_,_,hg,_| .fst::_,.sl _,_,_,_,_,_,hg,_| .fst::_,.st _,_,_,_,_,_,hg,_=>by simp[aS]at hg
 | .snd::_,.int _,_,_,_,_,_,hg,_| .snd::_,.bool,_,_,_,_,_,hg,_| .snd::_,.str,_,_,_,_,_,hg,_| .snd::_,.err,_,_,_,_,_,hg,_| .snd::_,.mp _ _,_,_,_,_,_,hg,_| .snd::_,.fcell _ _ _,_,_,_,_,_,hg,_| .snd::_,.raw _,_,_,_,_,_,hg,_| .snd::_,.sl _,_,_,_,_,_,hg,_| .snd::_,.st _,_,_,_,_,_,hg,_=>by simp[aS]at hg
 | .idx _::_,.int _,_,_,_,_,_,hg,_| .idx _::_,.bool,_,_,_,_,_,hg,_| .idx _::_,.str,_,_,_,_,_,hg,_| .idx _::_,.err,_,_,_,_,_,hg,_| .idx _::_,.mp _ _,_,_,_,_,_,hg,_| .idx _::_,.fcell _ _ _,_,_,_,_,_,hg,_| .idx _::_,.raw _,_,_,_,_,_,hg,_| .idx _::_,.sl _,_,_,_,_,_,hg,_| .idx _::_,.st _,_,_,_,_,_,hg,_| .idx _::_,.pair _ _,_,_,_,_,_,hg,_=>by simp[aS]at hg
theorem CellsAt.sub {w:World}{b o:Nat}{cs:List Value}(h:CellsAt w b o cs)(off n:Nat):CellsAt w b (o+off) ((cs.drop off).take n):=by
 intro j hj;have hj':off+j<cs.length:=by simp at hj;omega
 have:=h (off+j) hj';rw[List.getElem_take,List.getElem_drop]
 rwa [Mk]
theorem cn (K:Kd)(m:Md)(x:K.T):aS K m x []=some ⟨K,m,x⟩:=by simp only[aS]
theorem po {ty:List (Nat×Kd)}:∀(fs:List Field) (off:Nat) (k:Kd) (f:Nat),cB ty fs off k=true->f<k.nf->
  ∃(fd:Field) (K':Kd),fs[f]? =some fd/\au ty fd.type=some K'/\off<=fd.offset/\(∀a b,K'≠ .pair a b)/\∀(m:Md) (x:k.T),(∃m' x',aS k m x (fJ k f)=some ⟨K',m',x'⟩)/\
   ∀(w:World) (pl:Place) (cs:List Value),∃cs',ck w (fJ k f) k pl cs=some (pl.up (fd.offset - off),cs')
 |[],_,_,_,h,_=>by simp[cB]at h
 |[fd],off,k,f,h,hf=>by
  simp only[cB,Jz]at h;obtain⟨⟨h1,h2⟩,h3⟩:=h;have hnp:=Kd.np_ok h3;have hnf:k.nf=1:=by cases k<;>first|rfl|exact bH rfl (hnp _ _)
  have hf0:f=0:=by omega
  subst hf0;have e1:=JZ h1;have hp:fJ k 0=[]:=by cases k<;>first|rfl|exact bH rfl (hnp _ _)
  refine⟨fd,k,rfl,fo h2,by omega,hnp,λm x=>⟨⟨m,x,by rw[hp];exact cn k m x⟩,λw pl cs=>⟨cs,?_⟩⟩⟩;rw[hp,e1,Nat.sub_self];simp only[ck];cases pl<;>rfl
 |fd::g::r,off,k,f,h,hf=>by
  cases k with
  |pair a b=>
   simp only[cB,Jz]at h;obtain⟨⟨⟨h1,h2⟩,h3⟩,h4⟩:=h;have e1:=JZ h1;have hnp:=Kd.np_ok h3;cases f with
   |zero=>
    refine⟨fd,a,rfl,fo h2,by omega,hnp,λm x=>⟨⟨m.fst,x.1,by simp only[fJ,aS]⟩,λw pl cs=>⟨cs.take a.size,?_⟩⟩⟩;rw[e1,Nat.sub_self];simp only[fJ,ck];cases pl<;>rfl
   |succ n=>
    obtain⟨fd',K',r1,r2,r3,r4,r5⟩:=po (g::r) (off+a.size) b n h4 (by simp only[Kd.nf]at hf;omega);refine⟨fd',K',by simpa using r1,r2,by omega,r4,λm x=>?_⟩;obtain⟨⟨m',x',r6⟩,r7⟩:=r5 m.snd x.2;refine⟨⟨m',x',by simp only[fJ,aS];exact r6⟩,λw pl cs=>?_⟩;obtain⟨cs',r8⟩:=r7 w (pl.up a.size) (cs.drop a.size);refine⟨cs',?_⟩;simp only[fJ,ck];rw[r8];have:pl.up (fd'.offset - off)=(pl.up a.size).up (fd'.offset - (off+a.size)):=by
     cases pl
     ·rfl
     ·simp only[Place.up,Lk,JD,JW,true_and];omega
    rw[this]
  |_=>simp[cB]at h
theorem lq {P:Program}{ty:List (Nat×Kd)}{t:Nat}{k:Kd}{f:Nat}(hty:TysOk P ty)(ht:au ty t=some (.st k))(hf:f<k.nf)(w:World)(b o:Nat):
  ∃(fd:Field) (K':Kd),au ty fd.type=some K'/\(∀a b,K'≠ .pair a b)/\(Instr.fieldAt t (.pointer (some ⟨b,o,none⟩)) f).run P w= .ok (.pointer (some ⟨b,o+fd.offset,none⟩)) w/\
   ∀(m:Md) (x:k.T),(∃m' x',aS (.st k) m x (.inn::fJ k f)=some ⟨K',m',x'⟩)/\∀(w:World) (pl:Place) (cs:List Value),∃cs',ck w (.inn::fJ k f) (.st k) pl cs=some (pl.up fd.offset,cs'):=by
 obtain⟨fs,hu,hfs⟩:=(hty.get ht).st k rfl;obtain⟨fd,K',r1,r2,r3,r4,r5⟩:=po fs.toList 0 k f hfs hf;refine⟨fd,K',r2,r4,?_,r5⟩;have hfd:fs[f]? =some fd:=by simpa using r1
 have hs:=(hty.get r2).size w;have hpos:=K'.size_pos;have e1:(Instr.sureAddr (.pointer (some ⟨b,o,none⟩))).run P w= .ok ⟨b,o,none⟩ w:=rfl;simp only[Instr.fieldAt,JP,run_underlying hu,JF,hfd,e1,fieldPlace,hs,fZ];rw[ao (by omega)]
 rfl
theorem qG {x:Operand}{t f:Nat}{k2 K K':Kd}{m':Md}{z:K.T}{y:K'.T}{q:Option Obj}(hc:cg c)(ho:o.op= .fieldAddr t x f)(ht:au c.ty t=some (.st k2))
  (hK:(Kd.st k2).beq K=true) (hf:f<k2.nf) (hg:aS K .ro z (.inn::fJ k2 f)=some ⟨K',m',y⟩) (h:cz nt o.dst (.rp K' y) k=some out):cd c B nt o [(.rp K z,q)] fr k out:=by
 have:=Kd.eq_of_beq hK;subst this;refine bc h λe he a w g hg2=>?_
 obtain⟨b,off,cs,e1,hb,hcs,hro⟩:=aI hg2 (cj he.1 (by rw[ho];rfl));obtain⟨fd,K2,r1,r2,r3,r4⟩:=lq hc.ty ht hf w b off;obtain⟨⟨m2,x2,r5⟩,r6⟩:=r4 .ro z;rw[r5]at hg;cases hg;obtain⟨cs',r7⟩:=r6 w (some (b,off)) cs;obtain⟨o2,cs2,s1,s2,s3,s4⟩:=RO.part _ r5 hro;rw[s4 (some (b,off))]at r7;simp only[JD,JW,Place.up,Lk,true_and]at r7;obtain⟨e2,e3⟩:=r7;refine⟨.pointer (some ⟨b,off+fd.offset,none⟩),?_,b,off+fd.offset,cs2,rfl,hb,?_,s3⟩
 ·simp only[execOp,ho,e1,JP,r3,JF];rfl
 ·rw[← e2,s2];exact hcs.sub o2 _
end
section
variable {c:fX} {B:Base} {nt:Nat} {o:Oper} {Ω:Type} {k:bX->Option Ω} {out:Ω} {fr:Bool}
theorem mJ (P:Program)(w:World)(ad:Addr):(Instr.sureAddr (.pointer (some ad))).run P w= .ok ad w:=rfl
theorem yE {x:Operand}{t:Nat}{K:Kd}{z:K.T}{q:Option Obj}(hc:cg c)(ho:o.op= .load t x)(ht:eV c t K=true)(h:cz nt o.dst (.v K z) k=some out):
  cd c B nt o [(.rp K z,q)] fr k out:=by
 obtain⟨hT,_⟩:=eA hc.ty ht;refine bc h λe he a w g hg=>?_
 obtain⟨b,off,cs,e1,hb,hcs,hro⟩:=aI hg (cj he.1 (by rw[ho];rfl));refine⟨K.val cs,?_,cs,hro,hro.vrep hT.np⟩;simp only[execOp,ho,e1,On,JP,mJ,JF,iA hT hro.length hcs]
 rfl
theorem ot {P:Program}{B:Base}{nt:Nat}{e:Env}{a:Act}{w:World}{g:Gh}(hg:InvG P B nt e a w g){id:Nat}{ob:Obj}{p:bK}{K:Kd}{s:Slot}{v:Value}
  {K':Kd} {m':Md} {x':K'.T} {pl':Place} {cs':List Value} {F':Nat->Prop} (hob:e.obj id=some (some ob)) (hs:kP id ob p=some (K,s))
  (h1:aS ob.K ob.m ob.x p=some ⟨K',m',x'⟩) (h2:ck w p ob.K (g.pl id) (g.cs id)=some (pl',cs')) (f:Focus g.S w p ob.K ob.m ob.x (g.cs id) (g.F id) (g.pl id) K' m' x' cs' pl' F')
  (hv:VRep K' cs' v):K=K'/\SlotRep P g w e.obj s v:=by
 unfold kP at hs;rw[h1]at hs;simp only[JD,JW]at hs;obtain⟨rfl,hs⟩:=hs;refine⟨rfl,?_⟩;subst hs;cases m' with
 |ro=>exact⟨cs',Own.ro.1 f.own,hv⟩
 |own m=>exact⟨LogOk.now hob,λo2 ho2 _ _=>by rw[hob]at ho2;cases ho2;exact⟨pl',cs',K',_,x',h1,h2,hv⟩⟩
 |pr m n=>exact⟨LogOk.now hob,λo2 ho2 _ _=>by rw[hob]at ho2;cases ho2;exact⟨pl',cs',K',_,x',h1,h2,hv⟩⟩
theorem yF {x:Operand}{t id n:Nat}{p:bK}{ob:Obj}{K:Kd}{s:Slot}(hc:cg c)(ho:o.op= .load t x)(hk:(bM ob&&gC ob n p)=true)
  (hs:kP id ob p=some (K,s)) (ht:eV c t K=true) (h:cz nt o.dst s k=some out):cd c B nt o [(.pt id n p,some ob)] fr k out:=by
 obtain⟨hT,_⟩:=eA hc.ty ht;rw[Jz]at hk;refine bc h λe he a w g hg=>?_
 have hv:=cj he.1 (x:=x) (by rw[ho];rfl);obtain⟨b,off,cs',K',m',x',F',h1,h2,h3,f⟩:=rj hg hv hk.1 hk.2;have hval:VRep K' cs' (K'.val cs')\/True:=.inr trivial;have hK:K=K':=by
  unfold kP at hs;rw[h1]at hs;simp only[JD,JW]at hs;exact hs.1.symm
 subst hK;have hvr:VRep K cs' (K.val cs'):=f.own.vrep hT.np;refine⟨K.val cs',?_,(ot hg (gU hv) hs h1 h2 f hvr).2⟩;simp only[execOp,ho,h3,On,JP,mJ,JF,iA hT f.own.length (f.ok b off rfl).1]
 rfl
theorem bU {ob:Obj}(h:bM ob=true):ob.hl=none:=by
 unfold bM at h
 split at h
 ·assumption
 ·cases h
theorem qH {x:Operand}{t f id n:Nat}{p:bK}{ob:Obj}{k2 K:Kd}{m:Md}{z:K.T}(hc:cg c)(ho:o.op= .fieldAddr t x f)(ht:au c.ty t=some (.st k2))
  (hgp:aS ob.K ob.m ob.x p=some ⟨K,m,z⟩) (hK:(Kd.st k2).beq K=true) (hf:f<k2.nf) (hk:gC ob n p=true) (hh:(bM ob||nP p)=true)
  (h:cz nt o.dst (.pt id ob.log.length (p++ .inn::fJ k2 f)) k=some out):cd c B nt o [(.pt id n p,some ob)] fr k out:=by
 have:=Kd.eq_of_beq hK;subst this;refine bc h λe he a w g hg=>?_
 have hv:=cj he.1 (x:=x) (by rw[ho];rfl);have hob:=gU hv;have hr:=aI hg hv;have hh':ob.hl=none\/nP p=true:=by
  rw[Lo]at hh;rcases hh with hh|hh
  ·exact .inl (bU hh)
  ·exact .inr hh
 obtain⟨b,off,cs',K',m',x',h3,h4,h5⟩:=hr.2 ob hob hk (hh'.imp (λh=>h) .inl);rw[h3]at hgp;cases hgp;obtain⟨fd,K2,r1,r2,r3,r4⟩:=lq hc.ty ht hf w b off;obtain⟨⟨m2,x2,r5⟩,r6⟩:=r4 m z;obtain⟨cs2,r7⟩:=r6 w (some (b,off)) cs';refine⟨.pointer (some ⟨b,off+fd.offset,none⟩),?_,?_⟩
 ·simp only[execOp,ho,h5,JP,r3,JF];rfl
 ·refine⟨LogOk.now hob,λo2 ho2 _ _=>?_⟩
  rw[hob]at ho2;cases ho2;refine⟨b,off+fd.offset,cs2,K2,m2,x2,?_,?_,rfl⟩
  ·rw[jr p _ h3];exact r5
  ·rw[jX p _ h3 h4];exact r7
theorem tF {c:fX}{t f:Nat}{k2:Kd}{S:Nat->Prop}{w:World}{z:k2.T}{cs:List Value}(hc:cg c)(ht:au c.ty t=some (.st k2))(hf:f<k2.nf)(hro:RO S w k2 z cs):
  ∃(K2:Kd) (x2:K2.T) (off:Nat) (cs2:List Value) (m2:Md),(Instr.field t (.agg cs.toArray) f).run c.P w= .ok (K2.val cs2) w/\RO S w K2 x2 cs2/\VRep K2 cs2 (K2.val cs2)/\aS k2 .ro z (fJ k2 f)=some ⟨K2,m2,x2⟩/\
   (∀(m:Md) (x:k2.T),∃m' x',aS k2 m x (fJ k2 f)=some ⟨K2,m',x'⟩)/\∀(pl:Place),ck w (fJ k2 f) k2 pl cs=some (pl.up off,cs2):=by
 obtain⟨fs,hu,hfs⟩:=(hc.ty.get ht).st k2 rfl;obtain⟨fd,K2,r1,r2,r3,r4,r5⟩:=po fs.toList 0 k2 f hfs hf;obtain⟨⟨m2,x2,r6⟩,r7⟩:=r5 .ro z;obtain⟨o2,cs2,s1,s2,s3,s4⟩:=RO.part _ r6 hro;have hT:=hc.ty.get r2;have ho:o2=fd.offset:=by
  obtain⟨cs',r8⟩:=r7 w (some (0,0)) cs;rw[s4 (some (0,0))]at r8;simp only[JD,JW,Place.up,Lk,true_and,Nat.zero_add,Nat.sub_zero]at r8;exact r8.1
 subst ho;have hfd:fs[f]? =some fd:=by simpa using r1
 refine⟨K2,x2,fd.offset,cs2,m2,?_,s3,s3.vrep hT.np,r6,λm x=>(r5 m x).1,s4⟩;have hpart:(part fd.type cs.toArray fd.offset).run c.P w= .ok (K2.val cs2) w:=by
  unfold part;rw[JP,hT.isAgg,JF];unfold Kd.val;cases hA:K2.agg with
  |true=>
   simp only[if_true,JP,hT.size,JF,Kc]
   congr 2
   rw[s2];apply M0
   simp[List.take_drop]
  |false=>
   have l2:cs2.length=1:=by
    rw[s3.length];cases K2 with
    |st k=>cases hA
    |raw k=>cases hA
    |pair a b=>exact bH rfl (hT.np a b)
    |_=>rfl
   obtain⟨v,rfl⟩:=MO.1 l2;have hcs:cs[fd.offset]? =some v:=by
    have h9:=congrArg (λl=>l[0]?) s2;simp only[KH]at h9;rw[List.getElem?_take_of_lt (Kd.size_pos K2),List.getElem?_drop,KY]at h9;exact h9.symm
   simp only[if_false,JI];have:cs.toArray[fd.offset]? =some v:=by simpa using hcs
   rw[this]
   rfl
 simp only[Instr.field,JP,run_underlying hu,JF,hfd,asAgg,Kc,hpart]
theorem yG {x:Operand}{t f:Nat}{k2 K K':Kd}{m':Md}{z:K.T}{y:K'.T}{q:Option Obj}(hc:cg c)(ho:o.op= .field t x f)(ht:au c.ty t=some (.st k2))
  (hK:(Kd.st k2).beq K=true) (hf:f<k2.nf) (hg:aS K .ro z (.inn::fJ k2 f)=some ⟨K',m',y⟩) (h:cz nt o.dst (.v K' y) k=some out):cd c B nt o [(.v K z,q)] fr k out:=by
 have:=Kd.eq_of_beq hK;subst this;refine bc h λe he a w g hg2=>?_
 obtain⟨cs,hro,hv⟩:=aI hg2 (cj he.1 (by rw[ho];rfl));obtain⟨K2,x2,off,cs2,m2,h1,h2,h3,h4,_⟩:=tF hc ht hf (show RO g.S w k2 z cs from hro);have h4':aS (.st k2) .ro z (.inn::fJ k2 f)=some ⟨K2,m2,x2⟩:=h4;rw[h4']at hg;cases hg;have e1:a.eval x= .agg cs.toArray:=hv.1;refine⟨_,?_,cs2,h2,h3⟩;simp only[execOp,ho,e1,JP,h1,JF]
 rfl
theorem vZ {x:Operand}{t f id n:Nat}{p:bK}{ob:Obj}{k2 K K':Kd}{m:Md}{z:K.T}{s:Slot}(hc:cg c)(ho:o.op= .field t x f)(ht:au c.ty t=some (.st k2))
  (hgp:aS ob.K ob.m ob.x p=some ⟨K,m,z⟩) (hcond:((Kd.st k2).beq K&&LA f k2.nf&&bM ob&&fB ob n p)=true) (hs:kP id ob (p++ .inn::fJ k2 f)=some (K',s))
  (h:cz nt o.dst s k=some out):cd c B nt o [(.al id n p,some ob)] fr k out:=by
 simp only[Jz]at hcond;obtain⟨⟨⟨hK,hf⟩,hh⟩,hok⟩:=hcond;have:=Kd.eq_of_beq hK;subst this;refine bc h λe he a w g hg=>?_
 have hv:=cj he.1 (x:=x) (by rw[ho];rfl);obtain⟨q,cs',K1,m1,x1,F',h1,h2,h3,f1⟩:=jZ hg hv hh hok;rw[h1]at hgp;cases hgp;have hro:RO (λb=>g.S b\/F' b) w k2 z cs':=Own.toRO (K:=.st k2) (λb hb=>.inl hb) (λb hb=>.inr hb) f1.own;obtain⟨K2,x2,off,cs2,m2,r1,r2,r3,r4,r5,r6⟩:=tF hc ht (Kh hf) hro;obtain⟨m3,x3,r7⟩:=r5 m z;have g1:aS ob.K ob.m ob.x (p++ .inn::fJ k2 f)=some ⟨K2,m3,x3⟩:=by rw[jr p _ h1];exact r7
 have n1:ck w (p++ .inn::fJ k2 f) ob.K (g.pl id) (g.cs id)=some (q.up off,cs2):=by rw[jX p _ h1 h2];exact r6 q
 have hhl:=bU hh;obtain⟨k6,k7⟩:=(hg.objs id ob (jv hv)).own hhl;obtain⟨F2,f2⟩:=nC _ g1 n1 k6 k7 (λb off e1=>(hg.plz id b off e1).2.2.1 id);have e1:a.eval x= .agg cs'.toArray:=h3.1;refine⟨K2.val cs2,?_,(ot hg (jv hv) hs g1 n1 f2 r3).2⟩;simp only[execOp,ho,e1,JP,r1,JF]
 rfl
theorem jw {P:Program}{ty:List (Nat×Kd)}{t:Nat}{e:Kd}(hty:TysOk P ty)(ht:TyOk P ty t (.sl e))(w:World)(b off len cap:Nat)(i:Int)(ik:IntKind)(h0:0<=i)(h1:i<(len:Int)):
  (Instr.indexAt t (.slice (some ⟨b,off,none⟩) len cap) (.int ik i)).run P w= .ok (.pointer (some ⟨b,off+i.toNat*e.size,none⟩)) w:=by
 obtain⟨t',hu,hl⟩:=ht.sl e rfl;have hs:=(hty.get hl).size w;have e1:(asIntOf (.int ik i)).run P w= .ok (ik,i) w:=rfl;simp only[Instr.indexAt,JP,e1,run_underlying hu,JF,Kc];rw[Ox,ab ⟨h0,h1⟩];simp only[JP,hs,JF,Kc,fZ]
theorem rm {x y:Operand}{t:Nat}{ik:IntKind}{e:Kd}{xs:List e.T}{i:Int}{q1 q2:Option Obj}(hc:cg c)(ho:o.op= .indexAddr t x y)(ht:eV c t (.sl e)=true)
  (hi:0<=i/\i<(xs.length:Int)) (h:cz nt o.dst (.rp e (Jv xs i.toNat e.zero)) k=some out):cd c B nt o [(.v (.sl e) xs,q1),(.v (.int ik) i,q2)] fr k out:=by
 obtain⟨hT,_⟩:=eA hc.ty ht;refine bc h λe0 he a w g hg=>?_
 obtain⟨v1,v2⟩:=eN he.1 (x:=x) (y:=y) (by rw[ho];rfl);obtain⟨cs,hro,hv⟩:=aI hg v1;have e2:=eO (aI hg v2);obtain⟨A,cap,rfl,hl,hel⟩:=hro;have hlt:i.toNat<xs.length:=by omega
 obtain⟨b,off,vs,rfl,hb,hcs,hro2⟩:=hel i.toNat hlt;have e1:a.eval x= .slice (some ⟨b,off,none⟩) xs.length cap:=hv.1;refine⟨.pointer (some ⟨b,off+i.toNat*e.size,none⟩),?_,b,_,vs,rfl,hb,hcs,?_⟩
 ·simp only[execOp,ho,e1,e2,JP,jw hc.ty hT w b off xs.length cap i ik hi.1 hi.2,JF]
  rfl
 ·have:Jv xs i.toNat e.zero=xs[i.toNat]:=by simp[Jv,hlt]
  rw[this];exact hro2
theorem qI {x y:Operand}{t id n:Nat}{p:bK}{ob:Obj}{ik:IntKind}{e:Kd}{m:Md}{xs:List e.T}{i:Int}{q2:Option Obj}(hc:cg c)(ho:o.op= .indexAddr t x y)
  (hk:(bM ob&&fB ob n p)=true) (hgp:aS ob.K ob.m ob.x p=some ⟨.sl e,.own m,xs⟩) (ht:eV c t (.sl e)=true)
  (hi:0<=i/\i<(xs.length:Int)) (h:cz nt o.dst (.pt id ob.log.length (p++[.idx i])) k=some out):cd c B nt o [(.al id n p,some ob),(.v (.int ik) i,q2)] fr k out:=by
 obtain⟨hT,_⟩:=eA hc.ty ht;rw[Jz]at hk;refine bc h λe0 he a w g hg=>?_
 obtain⟨v1,v2⟩:=eN he.1 (x:=x) (y:=y) (by rw[ho];rfl);have e2:=eO (aI hg v2);obtain⟨q,cs',K',m',x',F',h1,h2,h3,f⟩:=jZ hg v1 hk.1 hk.2;rw[h1]at hgp;cases hgp;obtain⟨A,cap,rfl,hl,hnil,hr,G,hG,hG1,hG2,hel⟩:=f.own;have hlt:i.toNat<xs.length:=by omega
 obtain⟨b,off,vs,rfl,hcs,hov⟩:=hel i.toNat hlt;have e1:a.eval x= .slice (some ⟨b,off,none⟩) xs.length cap:=h3.1;refine⟨.pointer (some ⟨b,off+i.toNat*e.size,none⟩),?_,?_⟩
 ·simp only[execOp,ho,e1,e2,JP,jw hc.ty hT w b off xs.length cap i ik hi.1 hi.2,JF]
  rfl
 ·have hob:=jv v1
  refine⟨LogOk.now hob,λo2 ho2 _ _=>?_⟩;rw[hob]at ho2;cases ho2;have hget:Jv xs i.toNat e.zero=xs[i.toNat]:=by simp[Jv,hlt]
  refine⟨b,off+i.toNat*e.size,vs,e,m,xs[i.toNat],?_,?_,rfl⟩
  ·rw[jr p _ h1,← hget];simp only[aS]
  ·rw[jX p _ h1 h2]
   simp only[ck];rw[ab hi,eW hcs hov.length]
theorem Cz {x y:Operand}{t:Nat}{ik:IntKind}{s:ByteArray}{i:Int}{q1 q2:Option Obj}(hc:cg c)(ho:o.op= .index t x y)(ht:eV c t .str=true)
  (hi:0<=i/\i<(s.size:Int)) (h:cz nt o.dst (.v (.int .u8) (aP s i)) k=some out):cd c B nt o [(.v .str s,q1),(.v (.int ik) i,q2)] fr k out:=by
 obtain⟨hT,_⟩:=eA hc.ty ht;have hu:=hT.str rfl;refine bc h λe0 he a w g hg=>⟨.int .u8 (aP s i),?_,jd _ _ _ _ _ _⟩
 obtain⟨v1,v2⟩:=eN he.1 (x:=x) (y:=y) (by rw[ho];rfl);have e1:=uL (aI hg v1);have e2:=eO (aI hg v2);have e3:(asIntOf (.int ik i)).run c.P w= .ok (ik,i) w:=rfl;have hlt:i.toNat<s.size:=by omega
 have hget:s[i.toNat]? =some s[i.toNat]:=by simp[hlt]
 have hby:aP s i=(s[i.toNat].toNat:Int):=by
  unfold aP;have:s.data.getD i.toNat 0=s[i.toNat]:=by
   have hlt':i.toNat<s.data.size:=hlt;simp only[Array.getD];rw[dif_pos hlt']
   rfl
  rw[this]
 simp only[execOp,ho,e1,e2,Instr.index,JP,e3,run_underlying hu,JF,ab hi.1,hget,Kc,hby]
theorem CA {x:Operand}{ts:Array Nat}{t:Nat}{v:bF}{q:KV}{n:Nat}(hc:cg c)(ho:∃as,o.op= .call {callee:=.builtin .len,args:=as,argTypes:=ts}) (hv:EG v=some q) (hts:ts.toList=[t])
  (hq:(∃e xs,q=⟨.sl e,xs⟩/\eV c t (.sl e)=true/\n=Jr xs)\/(∃s,q=⟨.str,s⟩/\eV c t .str=true/\n=s.size))
  (h:cz nt o.dst (.v (.int .i64) (n:Int)) k=some out):cd c B nt o [v] fr k out:=by
 obtain⟨as,ho⟩:=ho;refine bc h λe0 he a w g hg=>⟨.int .i64 n,?_,jd _ _ _ _ _ _⟩
 have hvs:=he.1;have hops:o.op.operands=as:=by rw[ho];simp[Op.operands,Call.operands]
 obtain⟨x,has⟩:∃x,as= #[x]:=by
  simp only[Env.views,Oper.opds,hops]at hvs;have hl:as.toList.length=1:=by have:=congrArg Jr hvs;simpa using this
  obtain⟨x,hx⟩:=MO.1 hl;exact⟨x,by apply M0;simpa using hx⟩
 subst has;have v1:=cj hvs (x:=x) hops;obtain⟨cs,r1,r2⟩:=uK hg v1 hv;have hts':ts= #[t]:=by apply M0;simpa using hts
 have key:(NM ts o.type #[a.eval x]).run c.P w= .ok (.int .i64 n) w:=by
  rcases hq with⟨e,xs,rfl,ht,rfl⟩|⟨s,rfl,ht,rfl⟩
  ·obtain⟨hT,_⟩:=eA hc.ty ht
   obtain⟨t',hu,_⟩:=hT.sl e rfl;obtain⟨A,cap,rfl,_⟩:=r1;have e1:a.eval x= .slice A (Jr xs) cap:=r2.1;rw[hts',e1];simp only[NM,JP,run_underlying hu,JF,M7,KH]
   rfl
  ·obtain⟨hT,_⟩:=eA hc.ty ht
   have hu:=hT.str rfl;rw[show cs=[.string s]from r1]at r2;have e1:a.eval x= .string s:=r2.1;rw[hts',e1];simp only[NM,JP,run_underlying hu,JF,M7,KH]
   rfl
 have e4:(#[x]:Array Operand).map a.eval= #[a.eval x]:=by simp
 simp only[execOp,ho,resolve,e4,JP,Kc,JF,invoke,builtin,key]
theorem A7 {P:Program}{g:Gh}{w:World}{ob:Nat->Option (Option Obj)}:∀{l:List Slot} {vs:List Value} {i:Nat} {s:Slot},TupRep P g w ob l vs->l[i]? =some s->∃v,vs[i]? =some v/\SlotRep0 P g w ob s v
 |[],_,_,_,_,h=>by simp at h
 |s::l,_,0,s',⟨v,r,rfl,h1,h2⟩,h=>by simp at h;subst h;exact⟨v,rfl,h1⟩
 |s::l,_,i+1,s',⟨v,r,rfl,h1,h2⟩,h=>by simpa using A7 h2 (i:=i) (by simpa using h)
theorem yH {x:Operand}{i:Nat}{l:List Slot}{s:Slot}{q:Option Obj}(ho:o.op= .extract x i)(hl:l[i]? =some s)(hs:s.isTup=false)(h:cz nt o.dst s k=some out):cd c B nt o [(.tup l,q)] fr k out:=by
 refine bc h λe0 he a w g hg=>?_
 obtain⟨vs,e1,h1⟩:=aI hg (cj he.1 (x:=x) (by rw[ho];rfl));obtain⟨v,h2,h3⟩:=A7 h1 hl;refine⟨v,?_,(SlotRep.iff0 hs).2 h3⟩;have h2':vs[i]? =some v:=by simpa using h2
 simp only[execOp,ho,e1,Instr.extract,h2',JP,Kc,JF]
theorem q9 {x:Operand}{s:Slot}{q:Option Obj}(ho:o.op= .nilCheck x)(hs:(∃K z,s= .rp K z)\/(∃id n p ob,s= .pt id n p/\q=some ob/\(gC ob n p&&(bM ob||nP p))=true))(h:cz nt o.dst s k=some out):
  cd c B nt o [(s,q)] fr k out:=by
 refine bc h λe0 he a w g hg=>?_
 have v1:=cj he.1 (x:=x) (by rw[ho];rfl);have hr:=aI hg v1;rw[show s.unv=s by rcases hs with⟨K,z,rfl⟩|⟨_,_,_,_,rfl,_⟩<;>rfl]at hr;refine⟨a.eval x,?_,hr⟩;rcases hs with⟨K,z,rfl⟩|⟨id,n,p,ob,rfl,rfl,hk⟩
 ·obtain⟨b,off,cs,e1,_⟩:=hr
  simp only[execOp,ho,e1];rfl
 ·rw[Jz,Lo]at hk
  obtain⟨b,off,cs',K',m',x',h3,h4,h5⟩:=hr.2 ob (gU v1) hk.1 (by
   rcases hk.2 with hh|hh
   ·exact .inl (bU hh)
   ·exact .inr (.inl hh))
  simp only[execOp,ho,h5];rfl
theorem rn {P:Program}{w:World}(isSlice:Bool)(len cap:Nat)(lo hi:Option Value)(l h:Int)(hl:lo=none/\l=0\/∃ik,lo=some (.int ik l))(hh:hi=none/\h=(len:Int)\/∃ik,hi=some (.int ik h))
  (h0:0<=l) (h1:l<=h) (h2:h<=(len:Int)) (h3:len<=cap):(OC isSlice len cap lo hi none).run P w= .ok (l.toNat,h.toNat,cap) w:=by
 have bd:∀(ik:IntKind) (i:Int) (y:Nat) (code:BoundsCode),0<=i->i<=(y:Int)->(OW (.int ik i) y code).run P w= .ok i.toNat w:=by
  intro ik i y code a1 a2;have e3:(asIntOf (.int ik i)).run P w= .ok (ik,i) w:=rfl;simp only[OW,JP,e3,JF,Ox,ab (And.intro a1 a2),Kc]
 unfold OC;rcases hh with⟨rfl,rfl⟩|⟨ik,rfl⟩<;>rcases hl with⟨rfl,rfl⟩|⟨ik2,rfl⟩<;>simp only[JP,Kc,JF]<;>
  (try rw[bd _ h cap _ (by omega) (by omega)])<;>(try simp only[JF,Kc])<;>(try rw[bd _ l _ _ h0 (by omega)])<;>(try simp only[JF,Kc])<;>simp
end
end Go.Abs
