/- Names that are always the same: both sides. Conditions: none. -/
import Derived.Lib.Join
import Derived.Test.YtkelpajcfmghiaaGreatDoorT7
open Bool renaming and_eq_true → Jx,decide_and → NF,false_and → LD,not_eq_true' → LY,or_eq_true → Lm,true_and → KB
open ByteArray renaming empty → Jo,size → Jq
open Go.IntKind renaming i64 → Js
open Go.Lib renaming itoa → KT,join → KE
open Int renaming eq_ofNat_of_zero_le → Mh,toNat → Jr,toNat_natCast → JQ
open List renaming all_cons → Kz,all_eq_true → Kc,any_cons → MN,any_eq_false → Mm,append_assoc → JY,append_nil → Ky,dropLast_concat_getLast → NE,drop_eq_getElem_cons → JF,drop_of_length_le → JH,drop_succ_cons → Oz,drop_zero → JW,exists_cons_of_ne_nil → NJ,findIdx_lt_length_of_exists → Nk,flatMap_cons → LA,foldl_append → L4,getD → Jt,getD_eq_getElem?_getD → Lk,getElem?_replicate → NY,getElem?_set → Pe,getElem_mem → JI,length → Jp,length_append → Jv,length_cons → Ju,length_map → Km,length_nil → Jz,length_pos_iff → Lw,length_set → Mv,length_take → Lg,map_append → Kx,map_congr_left → My,map_cons → JK,map_map → Lo,map_nil → KG,mem_cons → JV,mem_cons_of_mem → JP,mem_cons_self → JL,mem_flatMap → Mn,mem_iff_getElem → LC,mem_map → Lh,nil_append → Kv,replicate → Ko,sum_cons → Kl,sum_nil → MP,take_append_drop → KP,take_of_length_le → JR,take_succ_eq_append_getElem → JE,take_zero → KD
open Nat renaming add_mul → KH,le_of_lt → No,le_refl → JS,le_trans → Mb,mul_le_mul_right → Kg,not_lt_zero → JJ,one_mul → Lf,zero_add → Lj,zero_le → JO
open Option renaming bind_some → Jn
namespace Go.Abs
def dB (f:Nat->Nat):Nat->Nat
 |0=>0
 |n+1=>dB f n+f n
theorem ki {f g:Nat->Nat}:∀{n:Nat},(∀j,j<n->f j=g j)->dB f n=dB g n
 |0,_=>rfl
 |n+1,h=>by simp only[dB];rw[ki (n:=n) λj hj=>h j (by omega),h n (by omega)]
theorem pT (f g:Nat->Nat):∀n,dB (λj=>f j+g j) n=dB f n+dB g n
 |0=>rfl
 |n+1=>by simp only[dB];rw[pT f g n];omega
theorem o8:∀n,dB (λ_=>0) n=0
 |0=>rfl
 |n+1=>by simp only[dB];rw[o8 n]
theorem uu (a:Nat)(x:Nat):∀n,a<n->dB (λj=>if j=a then x else 0) n=x
 |0,h=>bH h (JJ _)
 |n+1,h=>by
  simp only[dB]
  by_cases e:n=a
  ·subst e
   rw[ab rfl,ki (g:=λ_=>0) λj hj=>by rw[ao (by omega)],o8];omega
  ·rw[ao e,uu a x n (by omega)]
   omega
theorem E9 {f:Nat->Nat}{n j:Nat}(h:j<n):f j<=dB f n:=by
 induction n with
 |zero=>omega
 |succ n ih=>
  simp only[dB]
  by_cases e:j=n
  ·subst e;omega
  ·have:=ih (by omega);omega
theorem nj (f:Nat->Nat)(n:Nat):∀(l:List Nat),(∀a∈l,a<n)->dB (λj=>l.count j*f j) n=(l.map f).sum
 |[],_=>by simp only[List.count_nil,Nat.zero_mul];exact o8 n
 |a::l,h=>by
  have ih:=nj f n l λx hx=>h x (JP _ hx)
  have e:dB (λj=>(a::l).count j*f j) n=dB (λj=>l.count j*f j+(if j=a then f a else 0)) n:=ki λj _=>by
   rw[List.count_cons]
   by_cases ha:j=a
   ·subst ha
    simp[KH]
   ·have:¬a=j:=λe=>ha e.symm
    simp[ha,this]
  rw[e,pT,ih,uu a (f a) n (h a JL),JK,Kl];omega
structure Once (n:Nat) (kids:Nat->List Nat) (args:List Nat) (len own:Nat->Nat):Prop where
 low:∀i,i<n->∀k∈kids i,k<i
 arg:∀a∈args,a<n
 once:∀j,j<n->args.count j+dB (λk=>(kids k).count j) n=1
 len:∀i,i<n->len i=own i+((kids i).map len).sum
section
variable {n:Nat} {kids:Nat->List Nat} {args:List Nat} {len own:Nat->Nat} (h:Once n kids args len own)
def mw (n:Nat)(kids:Nat->List Nat)(args:List Nat)(i j:Nat):Nat:=args.count j+(dB (λk=>(kids k).count j) n - dB (λk=>(kids k).count j) i)
theorem sQ (f:Nat->Nat){i n:Nat}(hi:i<=n):dB f i<=dB f n:=by
 induction n with
 |zero=>
  have:i=0:=by omega
  subst this;exact JS _
 |succ n ih=>
  by_cases e:i=n+1
  ·subst e;exact JS _
  ·have:=ih (by omega)
   simp only[dB];omega
include h in
theorem Once.low0 {i j:Nat}(hj:j<n)(hi:i<=j+1):dB (λk=>(kids k).count j) i=0:=by
 induction i with
 |zero=>rfl
 |succ i ih=>
  simp only[dB];rw[ih (by omega)];have:(kids i).count j=0:=List.count_eq_zero.2 λhm=>by
   have:=h.low i (by omega) j hm;omega
  rw[this]
include h in
theorem Once.step {i:Nat}(hi:i<n):dB (λj=>mw n kids args (i+1) j*len j) (i+1)=dB (λj=>mw n kids args i j*len j) i+own i:=by
 have h1:mw n kids args (i+1) i=1:=by
  unfold mw;rw[h.low0 hi (JS _),Nat.sub_zero];exact h.once i hi
 simp only[dB];rw[h1,Lf,h.len i hi,← nj len i (kids i) (h.low i hi)];have e:dB (λj=>mw n kids args i j*len j) i=dB (λj=>mw n kids args (i+1) j*len j+(kids i).count j*len j) i:=ki λj hj=>by
  rw[← KH]
  congr 1
  unfold mw;have hm:=sQ (λk=>(kids k).count j) (i:=i+1) (n:=n) hi;simp only[dB]at hm⊢;omega
 rw[e,pT];omega
include h in
theorem Once.part:∀i,i<=n->dB (λj=>mw n kids args i j*len j) i=dB own i
 |0,_=>rfl
 |i+1,hi=>by
  rw[h.step (by omega),Once.part i (by omega)]
  rfl
include h in
theorem Once.total:(args.map len).sum=dB own n:=by
 rw[← h.part n (JS _),← nj len n args h.arg];refine ki λj hj=>?_
 unfold mw;rw[Nat.sub_self,Nat.add_zero]
include h in
theorem Once.each {i:Nat}(hi:i<n):len i<=dB own n:=by
 have h1:mw n kids args (i+1) i=1:=by
  unfold mw;rw[h.low0 hi (JS _),Nat.sub_zero];exact h.once i hi
 have h2:=h.part (i+1) hi;have h3:=E9 (f:=λj=>mw n kids args (i+1) j*len j) (n:=i+1) (j:=i) (Nat.lt_succ_self _);rw[h1,Lf]at h3;have h4:=sQ own (i:=i+1) (n:=n) hi;omega
end
abbrev By:Type:=List UInt8
abbrev Ex:Type:=Int×ByteArray×List Int
abbrev Ru:Type:=List Ex×Ex×List Ex
abbrev kX:Ex:=(0,Jo,[])
def aO (e:Ex):List Nat:=e.2.2.map Jr
def GW (k:Int):By:=if k=5 then [32,43,32]else if k=6 then [32,45,32]else [32,42,32]
def gW (k:Int):Bool:=decide (5<=k)&&decide (k<=7)
def mx (k:Int)(t:By):By:=if gW k=true then [40]++t++[41]else t
def mC (kd:Nat->Int)(tb:Nat->By)(e:Ex):By:=
 if e.1=2 then [95]
 else if e.1=4/\e.2.2≠[]then e.2.1.data.toList++[40]++KE ((aO e).map tb) [44,32]++[41]
 else if gW e.1=true then match aO e with
  |[a,b]=>mx (kd a) (tb a)++GW e.1++mx (kd b) (tb b)
  |_=>[]
 else e.2.1.data.toList
def ey (E:List Ex)(i:Nat):Int:=(E.getD i kX).1
def B2 (E:List Ex):Nat->Nat->By
 |0,_=>[]
 |f+1,i=>mC (ey E) (B2 E f) (E.getD i kX)
def bf (E:List Ex)(i:Nat):By:=B2 E (i+1) i
theorem nA {kd:Nat->Int}{t1 t2:Nat->By}{e:Ex}(h:∀k∈aO e,t1 k=t2 k):mC kd t1 e=mC kd t2 e:=by
 unfold mC
 split
 ·rfl
 ·split
  ·rw[My h]
  ·split
   ·split
    ·rename_i a b hk
     rw[h a (by rw[hk];simp),h b (by rw[hk];simp)]
    ·rfl
   ·rfl
def G1 (E:List Ex):Prop:=∀i,i<E.length->∀k∈aO (E.getD i kX),k<i
theorem sR {E:List Ex}(h:G1 E):∀(f i:Nat),i<f->i<E.length->B2 E f i=bf E i
 |0,i,hi,_=>bH hi (JJ _)
 |f+1,i,hi,hE=>by
  show mC _ _ _=mC _ _ _;refine nA λk hk=>?_
  have:=h i hE k hk;rw[sR h f k (by omega) (by omega),sR h i k this (by omega)]
termination_by f i=>f+i
theorem uv {E:List Ex}(h:G1 E){i:Nat}(hi:i<E.length):bf E i=mC (ey E) (bf E) (E.getD i kX):=by
 show mC _ _ _=mC _ _ _;refine nA λk hk=>?_
 have:=h i hi k hk;exact sR h i k this (by omega)
theorem kj (sep:By):∀(l:List By),(KE l sep).length=(l.map Jp).sum+sep.length*(l.length - 1)
 |[]=>rfl
 |[x]=>by rw[Lib.join_one];simp
 |x::y::r=>by
  have h:=Lib.join_length x (y::r) sep;rw[h,show(x::y::r).length - 1=(y::r).length from rfl];unfold Lib.lens;exact Nat.add_comm _ _
def vF (E:List Ex)(e:Ex):Nat:=
 if e.1=2 then 1
 else if e.1=4/\e.2.2≠[]then e.2.1.data.toList.length+2+2*(e.2.2.length - 1)
 else if gW e.1=true then 3+((aO e).map λk=>if gW (ey E k)=true then 2 else 0).sum
 else e.2.1.data.toList.length
theorem xV (E:List Ex)(t:Nat->By):∀l:List Nat,(l.map λk=>(mx (ey E k) (t k)).length).sum=(l.map λk=>if gW (ey E k)=true then 2 else 0).sum+(l.map λk=>(t k).length).sum
 |[]=>rfl
 |k::l=>by
  have h:=xV E t l;simp only[JK,Kl,h];unfold mx
  split<;>simp<;>omega
structure GX (E:List Ex):Prop where
 low:G1 E
 leaf:∀i,i<E.length->(E.getD i kX).1≠4->gW (E.getD i kX).1=false->(E.getD i kX).2.2=[]
 two:∀i,i<E.length->gW (E.getD i kX).1=true->(E.getD i kX).2.2.length=2
theorem Ea {E:List Ex}(h:GX E){i:Nat}(hi:i<E.length):(bf E i).length=vF E (E.getD i kX)+((aO (E.getD i kX)).map λk=>(bf E k).length).sum:=by
 rw[uv h.low hi];have h1:=h.leaf i hi;have h2:=h.two i hi;generalize E.getD i kX=e at h1 h2⊢;unfold mC vF
 by_cases c2:e.1=2
 ·rw[ab c2,ab c2]
  have:e.2.2=[]:=h1 (by omega) (by rw[c2];rfl)
  simp[aO,this]
 ·rw[ao c2,ao c2]
  by_cases c4:e.1=4/\e.2.2≠[]
  ·rw[ab c4,ab c4]
   simp only[Jv,Ju,Jz,kj,Lo];have:(aO e).length=e.2.2.length:=Km ..;simp only[Km,this];show _+_+(((aO e).map (λk=>(bf E k).length)).sum+_)+_=_;omega
  ·rw[ao c4,ao c4]
   by_cases cs:gW e.1=true
   ·rw[ab cs,ab cs]
    have hk:(aO e).length=2:=by unfold aO;rw[Km];exact h2 cs
    match hq:aO e,hk with
    |[a,b],_=>
     have:=xV E (bf E) [a,b];simp only[JK,KG,Kl,MP,Jv]at this⊢;have ho:(GW e.1).length=3:=by
      unfold GW
      split
      ·rfl
      ·split<;>rfl
     omega
   ·rw[ao cs,ao cs]
    by_cases hk:e.2.2=[]
    ·simp[aO,hk]
    ·have:e.1≠4:=λe4=>c4 ⟨e4,hk⟩
     exact bH (h1 this (by simpa using cs)) hk
def ez (E:List Ex)(l:Ex):By:=
 if l.1=3 then(match aO l with|[a,b]=>bf E a++[32]++l.2.1.data.toList++[32]++bf E b|_=>[])
 else(if l.1=2 then [33]else [])++l.2.1.data.toList++[40]++KE ((aO l).map (bf E)) [44,32]++[41]
def jK (r:Ru):By:=ez r.1 r.2.1++(if r.2.2=[]then []else [32,58,45,32]++KE (r.2.2.map (ez r.1)) [44,32])++[46]
def dV (r:Ru):List Ex:=r.2.1::r.2.2
def kI (r:Ru):List Nat:=(dV r).flatMap aO
structure Eb (m:Nat) (l:Ex):Prop where
 kind:1<=l.1/\l.1<=3
 two:l.1=3->l.2.2.length=2
 arg:∀a∈l.2.2,0<=a/\a<(m:Int)
structure FormR (r:Ru):Prop where
 few:r.1.length<=60
 kind:∀e∈r.1,1<=e.1/\e.1<=7
 nn:∀e∈r.1,∀k∈e.2.2,0<=k
 exps:GX r.1
 head:r.2.1.1=1
 lits:∀l∈dV r,Eb r.1.length l
 once:∀j,j<r.1.length->(kI r).count j+dB (λk=>(aO (r.1.getD k kX)).count j) r.1.length=1
theorem FormR.tree {r:Ru}(h:FormR r):Once r.1.length (λk=>aO (r.1.getD k kX)) (kI r) (λi=>(bf r.1 i).length) (λi=>vF r.1 (r.1.getD i kX)) where
 low:=h.exps.low
 arg:=by
  intro a ha;obtain⟨l,hl,ha⟩:=Mn.1 ha;obtain⟨k,hk,rfl⟩:=Lh.1 ha;have:=(h.lits l hl).arg k hk;omega
 once:=h.once
 len:=λi hi=>Ea h.exps hi
theorem HV {E:List Ex}{l:Ex}(h:Eb E.length l):1+((aO l).map λa=>(bf E a).length).sum<=(ez E l).length:=by
 unfold ez
 by_cases c:l.1=3
 ·rw[ab c]
  have hk:(aO l).length=2:=by unfold aO;rw[Km];exact h.two c
  match hq:aO l,hk with
  |[a,b],_=>
   simp only[JK,KG,Kl,MP,Jv,Ju,Jz];omega
 ·rw[ao c]
  simp only[Jv,Ju,Jz,kj,Lo];show _<=_+_+_+(((aO l).map (λa=>(bf E a).length)).sum+_)+_;omega
theorem B3 {E:List Ex}:∀{ls:List Ex},(∀l∈ls,Eb E.length l)->ls.length+((ls.flatMap aO).map λa=>(bf E a).length).sum<=((ls.map (ez E)).map Jp).sum
 |[],_=>JO _
 |l::ls,h=>by
  have h1:=HV (h l JL);have h2:=B3 (ls:=ls) λx hx=>h x (JP _ hx)
  simp only[LA,Kx,List.sum_append,JK,Kl,Ju];omega
theorem B4 {r:Ru}(h:FormR r):r.2.2.length+((kI r).map λa=>(bf r.1 a).length).sum<=(jK r).length:=by
 have h1:=B3 h.lits;unfold dV at h1;unfold kI dV jK;simp only[JK,Kl,Ju]at h1;simp only[Jv,Ju,Jz]
 by_cases hb:r.2.2=[]
 ·rw[ab hb]
  rw[hb]at h1⊢;simp only[KG,MP,Jz]at h1⊢;omega
 ·rw[ao hb]
  simp only[Jv,kj];omega
theorem Ec {r:Ru}(h:FormR r){i:Nat}(hi:i<r.1.length):(bf r.1 i).length<=(jK r).length:=by
 have h1:=h.tree.each hi;have h2:=h.tree.total;have h3:=B4 h;omega
def bump (u:List Int)(k:Nat):List Int:=u.set k (u.getD k 0+1)
def bumps (u:List Int)(ks:List Nat):List Int:=ks.foldl bump u
theorem sS (u:List Int)(k:Nat):(bump u k).length=u.length:=Mv ..
theorem jU:∀(ks:List Nat) (u:List Int),(bumps u ks).length=u.length
 |[],_=>rfl
 |k::ks,u=>(jU ks (bump u k)).trans (sS u k)
theorem kJ (u:List Int)(a b:List Nat):bumps u (a++b)=bumps (bumps u a) b:=L4
theorem xW {u:List Int}{k:Nat}(hk:k<u.length)(j:Nat):(bump u k).getD j 0=u.getD j 0+(if j=k then 1 else 0):=by
 unfold bump;simp only[Lk,Pe]
 by_cases e:k=j
 ·subst e
  simp[hk]
 ·have:¬j=k:=λh=>e h.symm
  simp[e,this]
theorem pU:∀(ks:List Nat) (u:List Int),(∀k∈ks,k<u.length)->∀j,(bumps u ks).getD j 0=u.getD j 0+(ks.count j:Int)
 |[],u,_,j=>by simp[bumps]
 |k::ks,u,h,j=>by
  have hk:=h k JL;have ih:=pU ks (bump u k) (λx hx=>by rw[sS];exact h x (JP _ hx)) j;show(bumps (bump u k) ks).getD j 0=_;rw[ih,xW hk,List.count_cons]
  by_cases e:j=k
  ·subst e
   simp
   omega
  ·have:¬k=j:=λh=>e h.symm
   simp[e,this]
def Ch (e:Ex):Bool:=decide (1<=e.1)&&decide (e.1<=7)&&(if gW e.1=true then decide (e.2.2.length=2)else decide (e.1=4)||e.2.2.isEmpty)
def IY (i:Nat)(e:Ex):Bool:=e.2.2.all λk=>decide (0<=k)&&decide (k<(i:Int))
def ym (m:Nat)(l:Ex):Bool:=l.2.2.all λa=>decide (0<=a)&&decide (a<(m:Int))
def vG (l:Ex):Bool:=decide (1<=l.1)&&decide (l.1<=3)&&(!decide (l.1=3)||decide (l.2.2.length=2))
def nN (r:Ru):List Int:=bumps (bumps (Ko r.1.length 0) (r.1.flatMap aO)) (kI r)
structure FormB (r:Ru):Prop where
 few:r.1.length<=60
 exps:∀i (h:i<r.1.length),IY i r.1[i]=true/\Ch r.1[i]=true
 head:r.2.1.1=1
 lits:∀l∈dV r,vG l=true/\ym r.1.length l=true
 once:∀x∈nN r,x=1
theorem zL (E:List Ex)(j:Nat):(E.flatMap aO).count j=dB (λk=>(aO (E.getD k kX)).count j) E.length:=by
 have key:∀(pre post:List Ex),((pre++post).take pre.length |>.flatMap aO).count j=dB (λk=>(aO ((pre++post).getD k kX)).count j) pre.length:=by
  intro pre
  induction hn:pre.length generalizing pre with
  |zero=>intro post;rfl
  |succ n ih=>
   intro post;obtain⟨a,x,rfl⟩:∃a x,pre=a++[x]:=⟨pre.dropLast,pre.getLast (by intro e;rw[e]at hn;cases hn),(NE _).symm⟩
   have ha:a.length=n:=by simpa using hn
   have:=ih a ha ([x]++post);rw[JY];simp only[dB];rw[← this,JE (by simp[ha]),List.flatMap_append,List.count_append]
   congr 1
   have hg:(a++([x]++post)).getD n kX=x:=by simp[ha]
   rw[hg]
   simp[ha]
 have:=key E [];simpa using this
theorem FormB.low {r:Ru}(h:FormB r):G1 r.1:=by
 intro i hi k hk;have e:r.1.getD i kX=r.1[i]:=by simp[hi]
 rw[e]at hk;obtain⟨a,ha,rfl⟩:=Lh.1 hk;have:=Kc.1 (h.exps i hi).1 a ha;simp only[Jx,dg]at this;omega
theorem zM {e:Ex}(h:Ch e=true):1<=e.1/\e.1<=7/\(gW e.1=true->e.2.2.length=2)/\(e.1≠4->gW e.1=false->e.2.2=[]):=by
 unfold Ch at h;simp only[Jx,dg]at h;refine⟨h.1.1,h.1.2,λhs=>?_,λh4 hs=>?_⟩
 ·have h2:=h.2
  rw[ab hs]at h2;exact of_decide_eq_true h2
 ·have h2:=h.2
  rw[ao (by simp[hs])]at h2;simpa[h4]using h2
theorem FormB.args {r:Ru}(h:FormB r):∀a∈kI r,a<r.1.length:=by
 intro a ha;obtain⟨l,hl,ha⟩:=Mn.1 ha;obtain⟨k,hk,rfl⟩:=Lh.1 ha;have:=Kc.1 (h.lits l hl).2 k hk;simp only[Jx,dg]at this;omega
theorem FormB.form {r:Ru}(h:FormB r):FormR r:=by
 have hget:∀i (hi:i<r.1.length),r.1.getD i kX=r.1[i]:=λi hi=>by simp[hi]
 refine⟨h.few,λe he=>?_,λe he k hk=>?_,⟨h.low,λi hi=>?_,λi hi=>?_⟩,h.head,λl hl=>?_,λj hj=>?_⟩
 ·obtain⟨i,hi,rfl⟩:=LC.1 he
  have:=zM (h.exps i hi).2;exact⟨this.1,this.2.1⟩
 ·obtain⟨i,hi,rfl⟩:=LC.1 he
  have:=Kc.1 (h.exps i hi).1 k hk;simp only[Jx,dg]at this;exact this.1
 ·rw[hget i hi]
  exact(zM (h.exps i hi).2).2.2.2
 ·rw[hget i hi]
  exact(zM (h.exps i hi).2).2.2.1
 ·obtain⟨h1,h2⟩:=h.lits l hl
  unfold vG at h1;simp only[Jx,dg,Lm,LY,vJ]at h1;refine⟨h1.1,λe=>h1.2.resolve_left (λh=>h e),λa ha=>?_⟩;have:=Kc.1 h2 a ha;simpa only[Jx,dg]using this
 ·have hk:∀k∈r.1.flatMap aO,k<(Ko r.1.length (0:Int)).length:=by
   intro k hk;obtain⟨e,he,hk⟩:=Mn.1 hk;obtain⟨i,hi,rfl⟩:=LC.1 he;have:=h.low i hi k (by rw[hget i hi];exact hk)
   simp
   omega
  have hlen:(bumps (Ko r.1.length (0:Int)) (r.1.flatMap aO)).length=r.1.length:=by rw[jU];simp
  have e1:=pU (kI r) (bumps (Ko r.1.length 0) (r.1.flatMap aO)) (λk hk=>by rw[hlen];exact h.args k hk) j;rw[pU _ _ hk j]at e1;have hj':j<(nN r).length:=by unfold nN;rw[jU,hlen];exact hj
  have h1:=h.once _ (JI hj');have e2:(nN r).getD j 0=(nN r)[j]:=by simp[hj']
  have e0:(Ko r.1.length (0:Int)).getD j 0=0:=by simp[hj]
  show(kI r).count j+dB (λk=>(aO (r.1.getD k kX)).count j) r.1.length=1;rw[← zL];have e3:(nN r).getD j 0=_:=e1;rw[e2,h1,e0]at e3;omega
def bx (e:Ex):Nat:=3+e.2.1.size+e.2.2.length
def zN (r:Ru):Nat:=(r.1.map bx).sum+bx r.2.1+(r.2.2.map bx).sum
theorem oS (s:ByteArray):s.data.toList.length=s.size:=rfl
theorem B5 (E:List Ex):∀l:List Nat,(l.map λk=>if gW (ey E k)=true then 2 else 0).sum<=2*l.length
 |[]=>JO _
 |k::l=>by
  have:=B5 E l;simp only[JK,Kl,Ju]
  split<;>omega
theorem HW (E:List Ex)(e:Ex):vF E e<=3*bx e:=by
 unfold vF bx
 split
 ·omega
 ·split
  ·rw[oS];omega
  ·split
   ·have:=B5 E (aO e)
    have hk:(aO e).length=e.2.2.length:=Km ..;omega
   ·rw[oS];omega
theorem Ci (f:Ex->Nat)(E:List Ex):dB (λi=>f (E.getD i kX)) E.length=(E.map f).sum:=by
 have key:∀(pre post:List Ex),dB (λi=>f ((pre++post).getD i kX)) pre.length=(pre.map f).sum:=by
  intro pre
  induction hn:pre.length generalizing pre with
  |zero=>intro post;rw[List.length_eq_zero_iff.1 hn];rfl
  |succ n ih=>
   intro post;obtain⟨a,x,rfl⟩:∃a x,pre=a++[x]:=⟨pre.dropLast,pre.getLast (by intro e;rw[e]at hn;cases hn),(NE _).symm⟩
   have ha:a.length=n:=by simpa using hn
   have:=ih a ha ([x]++post);rw[JY];simp only[dB];have hg:(a++([x]++post)).getD n kX=x:=by simp[ha]
   rw[this,hg]
   simp
 have:=key E [];simpa using this
theorem B6 (E:List Ex):∀l:List Ex,(l.map (vF E)).sum<=3*(l.map bx).sum
 |[]=>JS _
 |e::l=>by
  have h1:=HW E e;have h2:=B6 E l;simp only[JK,Kl];omega
theorem HX (E:List Ex)(l:Ex):(ez E l).length<=3*bx l+((aO l).map λa=>(bf E a).length).sum:=by
 unfold ez
 split
 ·split
  ·rename_i a b hk
   simp only[JK,KG,Kl,MP,Jv,Ju,Jz,hk,oS,bx];omega
  ·exact JO _
 ·have hk:(aO l).length=l.2.2.length:=Km ..
  simp only[Jv,Ju,Jz,kj,Lo,oS,bx];show _+_+_+(((aO l).map (λa=>(bf E a).length)).sum+_)+_<=_;have h1:(if l.1=2 then [33]else([]:By)).length<=1:=by split<;>simp
  rw[Km,hk];omega
theorem B7 (E:List Ex):∀ls:List Ex,((ls.map (ez E)).map Jp).sum<=3*(ls.map bx).sum+((ls.flatMap aO).map λa=>(bf E a).length).sum
 |[]=>JO _
 |l::ls=>by
  have h1:=HX E l;have h2:=B7 E ls;simp only[LA,Kx,List.sum_append,JK,Kl];omega
theorem B8:∀l:List Ex,3*l.length<=(l.map bx).sum
 |[]=>JO _
 |e::l=>by
  have:=B8 l;simp only[JK,Kl,Ju,bx]at this⊢;omega
theorem G2 {r:Ru}(h:FormR r):(jK r).length<=7*zN r+10:=by
 have h1:=B7 r.1 (dV r);have h2:=h.tree.total;have h3:dB (λi=>vF r.1 (r.1.getD i kX)) r.1.length=(r.1.map (vF r.1)).sum:=Ci (vF r.1) r.1;have h4:=B6 r.1 r.1;have h5:=B8 r.2.2;unfold kI dV at h2;unfold dV at h1;unfold jK zN;simp only[JK,Kl]at h1;simp only[Jv,Ju,Jz]
 by_cases hb:r.2.2=[]
 ·rw[ab hb]
  rw[hb]at h1 h2⊢;simp only[KG,MP,Jz]at h1 h2⊢;omega
 ·rw[ao hb]
  simp only[Jv,kj,Ju,Jz,Km];omega
def pV (l:List ByteArray)(s:ByteArray):Bool:=l.any λx=>decide (x=s)
theorem jC {l:List ByteArray}{s:ByteArray}:pV l s=true↔s∈l:=by
 unfold pV;rw[List.any_eq_true];exact⟨λ⟨x,h1,h2⟩=>of_decide_eq_true h2▸h1,λh=>⟨s,h,iW rfl⟩⟩
def jm (acc:List ByteArray)(e:Ex):List ByteArray:=if e.1=1 then(if pV acc e.2.1=true then acc else acc++[e.2.1])else acc
def bL (acc:List ByteArray)(E:List Ex):List ByteArray:=E.foldl jm acc
def kE (l:List ByteArray)(s:ByteArray):Nat:=l.findIdx λx=>decide (x=s)
theorem Cj (acc:List ByteArray)(e:Ex):∃t,jm acc e=acc++t:=by
 unfold jm
 split
 ·split
  ·exact⟨[],(Ky _).symm⟩
  ·exact⟨_,rfl⟩
 ·exact⟨[],(Ky _).symm⟩
theorem pW:∀(E:List Ex) (acc:List ByteArray),∃t,bL acc E=acc++t
 |[],acc=>⟨[],(Ky _).symm⟩
 |e::E,acc=>by
  obtain⟨t,ht⟩:=Cj acc e;obtain⟨u,hu⟩:=pW E (jm acc e);exact⟨t++u,by show bL (jm acc e) E=_;rw[hu,ht,JY]⟩
theorem Ck (acc:List ByteArray)(e:Ex)(h:e.1=1):e.2.1∈jm acc e:=by
 unfold jm;rw[ab h]
 split
 ·exact jC.1 ‹_›
 ·simp
theorem qr {acc:List ByteArray}(h:acc.Nodup)(e:Ex):(jm acc e).Nodup:=by
 unfold jm
 split
 ·split
  ·exact h
  ·rename_i hn
   exact List.nodup_append.2 ⟨h,by simp,λa ha b hb e=>hn (jC.2 (by rw[List.mem_singleton.1 hb]at e;exact e▸ha))⟩
 ·exact h
theorem qs:∀(E:List Ex) {acc:List ByteArray},acc.Nodup->(bL acc E).Nodup
 |[],_,h=>h
 |e::E,_,h=>qs E (qr h e)
theorem uw (acc:List ByteArray)(e:Ex):(jm acc e).length<=acc.length+1:=by
 unfold jm
 split
 ·split<;>simp
 ·omega
theorem lS:∀(E:List Ex) (acc:List ByteArray),(bL acc E).length<=acc.length+E.length
 |[],_=>JS _
 |e::E,acc=>by
  have h1:=lS E (jm acc e);have h2:=uw acc e;show(bL (jm acc e) E).length<=_;rw[Ju];omega
theorem G4 {l t:List ByteArray}{s:ByteArray}(h:s∈l):kE (l++t) s=kE l s:=by
 unfold kE;rw[List.findIdx_append,ab];exact Nk ⟨s,h,by simp⟩
theorem sT {l:List ByteArray}{s:ByteArray}(h:s∈l):kE l s<l.length:=Nk ⟨s,h,by simp⟩
theorem B9 {l:List ByteArray}{s:ByteArray}(h:s∈l):l[kE l s]'(sT h)=s:=by
 have:=List.findIdx_getElem (xs:=l) (p:=λx=>decide (x=s)) (w:=sT h);exact of_decide_eq_true this
theorem Ed {l:List ByteArray}(hn:l.Nodup){s:ByteArray}{k:Nat}(hk:k<l.length)(h:l[k]=s):k=kE l s:=by
 have hm:s∈l:=h▸JI hk;have hg:=B9 hm;have hlt:=sT hm;have hp:=List.pairwise_iff_getElem.1 hn;rcases Nat.lt_trichotomy k (kE l s)with h1|h1|h1
 ·exact bH (h.trans hg.symm) (hp k _ hk hlt h1)
 ·exact h1
 ·exact bH (hg.trans h.symm) (hp _ k hlt hk h1)
theorem xX {E:List Ex}{i:Nat}(hi:i<E.length)(h1:E[i].1=1)(acc:List ByteArray):E[i].2.1∈bL acc (E.take (i+1))/\kE (bL acc E) E[i].2.1=kE (bL acc (E.take (i+1))) E[i].2.1:=by
 have hm:E[i].2.1∈bL acc (E.take (i+1)):=by
  rw[JE hi];unfold bL;rw[L4];exact Ck _ _ h1
 refine⟨hm,?_⟩;obtain⟨t,ht⟩:=pW (E.drop (i+1)) (bL acc (E.take (i+1)));have:bL acc E=bL acc (E.take (i+1))++t:=by
  rw[← ht];unfold bL;rw[← L4,KP]
 rw[this,G4 hm]
theorem sU {E:List Ex}{i:Nat}(hi:i<E.length)(acc:List ByteArray):bL acc (E.take (i+1))=jm (bL acc (E.take i)) E[i]:=by
 rw[JE hi];unfold bL;rw[L4]
 rfl
section
variable {α:Type}
theorem jq {l:List α}{i:Nat}(h:i<l.length):decide ((i:Int)<(l.length:Int))=true:=by simp[h]
theorem kl {l:List α}{i:Nat}(h:¬i<l.length):¬decide ((i:Int)<(l.length:Int))=true:=by simp;omega
theorem inl' {l:List α}{i:Nat}(h:i<l.length):(0:Int)<=(i:Int)/\(i:Int)<(l.length:Int):=by omega
theorem aE {l:List α}{i:Nat}(d:α)(h:i<l.length):Jt l (Jr (i:Int)) d=l[i]:=by simp[h]
end
theorem iX {i:Nat}(h:i<=4294967296):Js.wrap ((i:Int)+1)=((i+1:Nat):Int):=by rw[aK _ (by omega) (by omega)];omega
def Cnt (u:List Int)(m:Nat)(C:Int):Prop:=u.length=m/\∀q,0<=u.getD q 0/\u.getD q 0<=C
theorem Cnt.bump {u:List Int}{m:Nat}{C:Int}(h:Cnt u m C){k:Nat}(hk:k<m):Cnt (bump u k) m (C+1):=by
 refine⟨(sS u k).trans h.1,λq=>?_⟩;rw[xW (by rw[h.1];exact hk)];have:=h.2 q
 split<;>omega
theorem Cnt.mono {u:List Int}{m:Nat}{C D:Int}(h:Cnt u m C)(hc:C<=D):Cnt u m D:=⟨h.1,λq=>⟨(h.2 q).1,Int.le_trans (h.2 q).2 hc⟩⟩
def lz (m:Nat)(k:Int):Bool:=decide (0<=k)&&decide (k<(m:Int))
theorem oT {β:Type}(f:Nat->Int->List Int->Option β)(kids:List Int)(m i:Nat)(R:Option β)(K:List Int->Option β)(hi:i<=m)
  (hs:∀k j u (h:j<kids.length),u.length=m->(∀q,0<=u.getD q 0/\u.getD q 0<=4000000000000000000)->f (k+1) (j:Int) u=if lz i kids[j]=true then f k ((j+1:Nat):Int) (bump u kids[j].toNat)else R)
  (he:∀k u,f (k+1) (kids.length:Int) u=K u):∀(k j:Nat) (u:List Int) (C:Int),j<=kids.length->kids.length - j<k->Cnt u m C->C+(kids.length:Int)<=4000000000000000000+j->
  f k (j:Int) u=if(kids.drop j).all (lz i)=true then K (bumps u ((kids.drop j).map Jr))else R
 |0,j,u,C,_,hk,_,_=>bH hk (JJ _)
 |k+1,j,u,C,hj,hk,hu,hC=>by
  by_cases h:j<kids.length
  ·rw[hs k j u h hu.1 (λq=>⟨(hu.2 q).1,by have:=(hu.2 q).2;omega⟩),JF h]
   by_cases hin:lz i kids[j]=true
   ·have hlt:kids[j].toNat<m:=by
     unfold lz at hin;simp only[Jx,dg]at hin;omega
    rw[ab hin,oT f kids m i R K hi hs he k (j+1) _ (C+1) (by omega) (by omega) (hu.bump hlt) (by omega)];simp only[Kz,hin,KB,JK]
    rfl
   ·rw[ao hin,ao (λh'=>by
     rw[Kz,Jx]at h';exact hin h'.1)]
  ·obtain rfl:j=kids.length:=by omega
   rw[he,JH (JS _)]
   rfl
theorem in_eq (n:Nat)(a b c:Int):eD.F n a b c=some (decide (b<=a/\a<=c)):=by
 unfold eD.F
 by_cases h1:b<=a<;>by_cases h2:a<=c<;>simp[h1,h2]
theorem vH {i:Nat}{k:Int}:decide ((0:Int)<=k/\k<=(i:Int) - 1)=lz i k:=by
 unfold lz
 by_cases h1:(0:Int)<=k<;>by_cases h2:k<(i:Int)
 ·simp[h1,h2];omega
 ·simp[h1,h2];omega
 ·simp[h1]
 ·simp[h1]
def mo:List Ex->Nat->Bool
 |[],_=>true
 |e::l,i=>IY i e&&Ch e&&mo l (i+1)
def oU (m:Nat):List Ex->Nat->Bool
 |[],_=>true
 |l::ls,i=>(if i=0 then decide (l.1=1)else true)&&vG l&&ym m l&&oU m ls (i+1)
theorem zO (i:Nat)(e:Ex):IY i e=e.2.2.all (lz i):=rfl
theorem oV {u:List Int}{k:Int}{m i:Nat}(hm:u.length=m)(hi:i<=m)(hk:lz i k=true)(hu:∀q,0<=u.getD q 0/\u.getD q 0<=4000000000000000000):
  ((0:Int)<=k/\k<(u.length:Int))/\List.set u (Jr k) (Js.wrap (Jt u (Jr k) 0+1))=bump u k.toNat:=by
 unfold lz at hk;simp only[Jx,dg]at hk;refine⟨by omega,?_⟩;have:=hu k.toNat;rw[aK _ (by omega) (by omega)]
 rfl
section
variable (n:Nat) (hn:1100000<=n) (r:Ru) (hE:r.1.length<=1048576) (hkids:∀e∈r.1,e.2.2.length<=1048576)
theorem HY (i:Nat)(t8:List Ex)(t9 t10:Int)(kids:List Int)(hk:kids.length<=1048576)(t16:Ex)(K:List Int->Option Bool)(m:Nat)(hi:i<=m)(him:i<=4294967296){C:Int}{u:List Int}(hu:Cnt u m C)(hC:C<=4000000000000)(hn:1100000<=n):
  bI.l1 n (i:Int) t8 t9 t10 kids (kids.length:Int) r t16 K n 0 u=if kids.all (lz i)=true then K (bumps u (kids.map Jr))else some false:=by
 have:=oT (λk j u=>bI.l1 n (i:Int) t8 t9 t10 kids (kids.length:Int) r t16 K k j u) kids m i (some false) K hi (λk j u h hm hq=>by
   conv=>lhs;unfold bI.l1
   rw[ab (jq h),ab (inl' h),aE _ h,aK _ (by omega) (by omega),in_eq,vH,Jn,iX (by omega)]
   by_cases hin:lz i kids[j]=true
   ·obtain⟨h1,h2⟩:=oV hm hi hin hq
    rw[ao (by simp[hin]),ab h1,ab h1,h2,ab hin]
   ·rw[ab (by simpa using hin),ao hin]) (λk u=>by
   conv=>lhs;unfold bI.l1
   rw[ao (by simp)]) n 0 u C (JO _) (by omega) hu (by omega)
 rw[JW]at this;exact this
theorem HZ (t38:List Ex)(t39 t40:Int)(kids:List Int)(hk:kids.length<=1048576)(K:List Int->Option Bool)(hE:r.1.length<=1048576){C:Int}{u:List Int}(hu:Cnt u r.1.length C)(hC:C<=4000000000000)(hn:1100000<=n):
  bI.l4 n t38 t39 t40 kids (kids.length:Int) r K n 0 u=if kids.all (lz r.1.length)=true then K (bumps u (kids.map Jr))else some false:=by
 have:=oT (λk j u=>bI.l4 n t38 t39 t40 kids (kids.length:Int) r K k j u) kids r.1.length r.1.length (some false) K (JS _) (λk j u h hm hq=>by
   conv=>lhs;unfold bI.l4
   rw[ab (jq h),ab (inl' h),aE _ h,aK _ (by omega) (by omega),in_eq,vH,Jn,iX (by omega)]
   by_cases hin:lz r.1.length kids[j]=true
   ·obtain⟨h1,h2⟩:=oV hm (JS _) hin hq
    rw[ao (by simp[hin]),ab h1,ab h1,h2,ab hin]
   ·rw[ab (by simpa using hin),ao hin]) (λk u=>by
   conv=>lhs;unfold bI.l4
   rw[ao (by simp)]) n 0 u C (JO _) (by omega) hu (by omega)
 rw[JW]at this;exact this
theorem Cnt.bumps {u:List Int}{m:Nat}{C:Int}(h:Cnt u m C):∀(ks:List Nat),(∀k∈ks,k<m)->Cnt (bumps u ks) m (C+(ks.length:Int)):=by
 intro ks
 induction ks generalizing u C with
 |nil=>intro _;exact h.mono (by simp)
 |cons k ks ih=>
  intro hk;have:=ih (h.bump (hk k JL)) λx hx=>hk x (JP _ hx)
  exact this.mono (by simp;omega)
theorem pX {m:Nat}{ks:List Int}(h:ks.all (lz m)=true):∀k∈ks.map Jr,k<m:=by
 intro k hk;obtain⟨a,ha,rfl⟩:=Lh.1 hk;have:=Kc.1 h a ha;unfold lz at this;simp only[Jx,dg]at this;omega
theorem all_lt' {m i:Nat}(hi:i<=m){ks:List Int}(h:ks.all (lz i)=true):∀k∈ks.map Jr,k<m:=λk hk=>Nat.lt_of_lt_of_le (pX h k hk) hi
theorem Ee (hn:1100000<=n)(hE:r.1.length<=1048576)(hkids:∀e∈r.1,e.2.2.length<=1048576)(K:List Int->Option Bool):∀(k i:Nat) (u:List Int),i<=r.1.length->r.1.length - i<k->Cnt u r.1.length ((i:Int)*1048576)->
  bI.l0 n r.1 (r.1.length:Int) r K k (i:Int) u=if mo (r.1.drop i) i=true then K (bumps u ((r.1.drop i).flatMap aO))else some false
 |0,i,u,_,hk,_=>bH hk (JJ _)
 |k+1,i,u,hi,hk,hu=>by
  by_cases h:i<r.1.length
  ·have hke:=hkids _ (JI h)
   conv=>lhs;unfold bI.l0
   rw[ab (jq h),ab (inl' h)];simp only[aE _ h];rw[HY n r i r.1 _ _ _ hke _ _ r.1.length (by omega) (by omega) hu (by omega) hn,JF h];generalize r.1[i]=e at hke⊢
   by_cases hK:e.2.2.all (lz i)=true
   ·rw[ab hK]
    have hu2:=(hu.bumps _ (all_lt' (No h) hK)).mono (D:=((i+1:Nat):Int)*1048576) (by rw[Km];omega);have ih:=Ee hn hE hkids K k (i+1) _ (by omega) (by omega) hu2;have hc:mo (e::r.1.drop (i+1)) i=(Ch e&&mo (r.1.drop (i+1)) (i+1)):=by simp[mo,zO,hK]
    have hfl:bumps u ((e::r.1.drop (i+1)).flatMap aO)=bumps (bumps u (e.2.2.map Jr)) ((r.1.drop (i+1)).flatMap aO):=by
     rw[LA,kJ];rfl
    rw[hc,hfl,iX (by omega),ih];unfold gX.F;simp only[in_eq,Jn];unfold Ch gW
    by_cases h1:1<=e.1/\e.1<=7
    ·by_cases h5:5<=e.1
     ·by_cases hl:e.2.2.length=2
      ·simp[h1,h5,hl,show¬e.1<=3 by omega]
      ·have:¬(e.2.2.length:Int)=2:=by omega
       simp[h1,h5,hl,this]
     ·by_cases h4:e.1=4
      ·simp[h4]
      ·have h3:e.1<=3:=by omega
       cases hq:e.2.2 with
       |nil=>simp[h1,h5,h3,h4]
       |cons a l=>simp[h1,h5,h3,h4]
    ·have hd:decide (1<=e.1/\e.1<=7)=false:=by simpa using h1
     have hd2:(decide (1<=e.1)&&decide (e.1<=7))=false:=by
      cases ha:decide (1<=e.1)<;>cases hb:decide (e.1<=7)<;>simp_all
     simp[hd,hd2]
   ·rw[ao hK,ao (by simp[mo,zO,hK])]
  ·obtain rfl:i=r.1.length:=by omega
   conv=>lhs;unfold bI.l0
   rw[ao (by simp),JH (JS _)]
   rfl
theorem I0 (hn:1100000<=n)(hE:r.1.length<=1048576)(t32:List Ex)(t33 t34:Int)(l:Ex)(hl:l.2.2.length<=1048576)(K:List Int->Option Bool){C:Int}{u:List Int}(hu:Cnt u r.1.length C)(hC:C<=4000000000000):
  bI.j3 n t32 t33 t34 r u l K=if ym r.1.length l=true then K (bumps u (aO l))else some false:=by
 unfold bI.j3;rw[HZ n r t32 t33 t34 _ hl _ hE hu hC hn]
 rfl
theorem Ef (hn:1100000<=n)(hE:r.1.length<=1048576)(ts:List Ex)(hts:ts.length<=1048577)(hargs:∀l∈ts,l.2.2.length<=1048576)(K:List Int->Option Bool):∀(k i:Nat) (u:List Int),i<=ts.length->ts.length - i<k->Cnt u r.1.length (1048576*1048576+(i:Int)*1048576)->
  bI.l2 n ts (ts.length:Int) r K k (i:Int) u=if oU r.1.length (ts.drop i) i=true then K (bumps u ((ts.drop i).flatMap aO))else some false
 |0,i,u,_,hk,_=>bH hk (JJ _)
 |k+1,i,u,hi,hk,hu=>by
  by_cases h:i<ts.length
  ·have hle:=hargs _ (JI h)
   conv=>lhs;unfold bI.l2
   rw[ab (jq h),ab (inl' h)];simp only[aE _ h];rw[JF h];generalize ts[i]=l at hle⊢;have hj:=λK'=>I0 n r hn hE ts (ts.length:Int) (i:Int) l hle K' hu (by omega)
   simp only[hj,in_eq,Jn];have hfl:bumps u ((l::ts.drop (i+1)).flatMap aO)=bumps (bumps u (aO l)) ((ts.drop (i+1)).flatMap aO):=by
    rw[LA,kJ]
   have hc:oU r.1.length (l::ts.drop (i+1)) i=((if i=0 then decide (l.1=1)else true)&&(vG l&&(ym r.1.length l&&oU r.1.length (ts.drop (i+1)) (i+1)))):=by
    simp only[oU,Bool.and_assoc]
   rw[hfl,hc,iX (by omega)];have main:(if ym r.1.length l=true then bI.l2 n ts (ts.length:Int) r K k ((i+1:Nat):Int) (bumps u (aO l))else some false)=
     if(ym r.1.length l&&oU r.1.length (ts.drop (i+1)) (i+1))=true then K (bumps (bumps u (aO l)) ((ts.drop (i+1)).flatMap aO))else some false:=by
    by_cases hA:ym r.1.length l=true
    ·have hu2:=(hu.bumps _ (pX (show l.2.2.all (lz r.1.length)=true from hA))).mono (D:=1048576*1048576+((i+1:Nat):Int)*1048576) (by rw[Km];omega)
     have ih:=Ef hn hE ts hts hargs K k (i+1) _ (by omega) (by omega) hu2;rw[ab hA,hA,KB];exact ih
    ·rw[ao hA,ao (by simp[hA])]
   rw[main];generalize(ym r.1.length l&&oU r.1.length (ts.drop (i+1)) (i+1))=b;generalize K (bumps (bumps u (aO l)) ((ts.drop (i+1)).flatMap aO))=y;have hi0:decide ((i:Int)=0)=decide (i=0):=by simp
   have hl2:decide ((l.2.2.length:Int)=2)=decide (l.2.2.length=2):=by
    by_cases hl:l.2.2.length=2
    ·simp[hl]
    ·have:¬(l.2.2.length:Int)=2:=by omega
     simp[hl,this]
   have hk3:vG l=(decide (1<=l.1/\l.1<=3)&&(!decide (l.1=3)||decide (l.2.2.length=2))):=by
    unfold vG;rw[NF]
   rw[hi0,hl2,hk3]
   by_cases c0:i=0
   ·simp only[c0,decide_true,if_true]
    cases decide (l.1=1)<;>cases decide (1<=l.1/\l.1<=3)<;>cases decide (l.1=3)<;>cases decide (l.2.2.length=2)<;>cases b<;>rfl
   ·simp only[c0,decide_false,if_false]
    cases decide (1<=l.1/\l.1<=3)<;>cases decide (l.1=3)<;>cases decide (l.2.2.length=2)<;>cases b<;>rfl
  ·obtain rfl:i=ts.length:=by omega
   conv=>lhs;unfold bI.l2
   rw[ao (by simp),JH (JS _)]
   rfl
end
theorem xY (n:Nat)(u:List Int)(hu:u.length<=1048576)(hn:1100000<=n):df.F n u (λa55=>(fF.F n a55.1).bind some)=some (u.any λx=>!decide (x=1)):=by
 have key:∀(k i:Nat),i<=u.length->u.length - i<k->∃z:Int,cL.l0 n u (λa55=>(fF.F n a55.1).bind some) (u.length:Int) (λ_=>some (-1)) k (i:Int)=some z/\decide (z>=0)=(u.drop i).any λx=>!decide (x=1):=by
  intro k
  induction k with
  |zero=>intro i _ h;exact bH h (JJ _)
  |succ k ih=>
   intro i hi hk
   by_cases h:i<u.length
   ·conv=>enter [1,z,1,1];unfold cL.l0
    simp only[ab (jq h),ab (inl' h),aE _ h,fF.F,Jn];rw[JF h]
    by_cases e:u[i]=1
    ·obtain⟨z,z1,z2⟩:=ih (i+1) (by omega) (by omega)
     refine⟨z,?_,?_⟩
     ·rw[ao (by simp[e]),iX (by omega)]
      exact z1
     ·rw[z2,MN]
      simp[e]
    ·exact⟨(i:Int),by rw[ab (by simp[e])],by rw[MN];simp[e]⟩
   ·refine⟨-1,?_,?_⟩
    ·conv=>lhs;unfold cL.l0
     rw[ao (kl h)]
    ·rw[JH (by omega)]
     rfl
 obtain⟨z,z1,z2⟩:=key n 0 (JO _) (by omega);unfold df.F cL.F;rw[show(0:Int)=((0:Nat):Int)from rfl,z1,Jn];rw[JW]at z2;show some (decide (z>=0))=_;rw[z2]
theorem lT:∀{l:List Ex} {i:Nat},mo l i=true↔∀j (h:j<l.length),IY (i+j) l[j]=true/\Ch l[j]=true
 |[],i=>⟨λ_ j h=>bH h (JJ _),λ_=>rfl⟩
 |e::l,i=>by
  have ih:=lT (l:=l) (i:=i+1);simp only[mo,Jx];rw[ih]
  constructor
  ·rintro⟨h1,h2⟩ j hj
   cases j with
   |zero=>exact h1
   |succ j=>
    have:=h2 j (by simpa using hj);rw[show i+(j+1)=i+1+j by omega];exact this
  ·intro h
   refine⟨h 0 (by simp),λj hj=>?_⟩;have:=h (j+1) (by simpa using hj);rw[show i+(j+1)=i+1+j by omega]at this;exact this
theorem xZ {m:Nat}:∀{l:List Ex} {i:Nat},oU m l (i+1)=true↔∀x∈l,vG x=true/\ym m x=true
 |[],i=>⟨λ_ _ h=>by(cases h),λ_=>rfl⟩
 |e::l,i=>by
  have ih:=xZ (m:=m) (l:=l) (i:=i+1);simp only[oU,Nat.add_eq_zero_iff,Nat.one_ne_zero,and_false,if_false,KB,Jx];rw[ih]
  constructor
  ·rintro⟨h1,h2⟩ x hx
   rcases JV.1 hx with rfl|hx
   ·exact h1
   ·exact h2 x hx
  ·intro h
   exact⟨h e JL,λx hx=>h x (JP _ hx)⟩
def qt (r:Ru):Bool:=mo r.1 0&&oU r.1.length (dV r) 0&&decide (r.1.length<=60)&& !((nN r).any λx=>!decide (x=1))
theorem jV {r:Ru}:qt r=true↔FormB r:=by
 unfold qt;simp only[Jx,dg,LY,Mm,Bool.not_eq_false',Bool.not_eq_true];rw[lT];have hl:oU r.1.length (dV r) 0=true↔r.2.1.1=1/\∀l∈dV r,vG l=true/\ym r.1.length l=true:=by
  unfold dV;simp only[oU,if_true,Jx,dg];rw[xZ]
  constructor
  ·rintro⟨⟨⟨h1,h2⟩,h3⟩,h4⟩
   refine⟨h1,λx hx=>?_⟩;rcases JV.1 hx with rfl|hx
   ·exact⟨h2,h3⟩
   ·exact h4 x hx
  ·rintro⟨h1,h2⟩
   exact⟨⟨⟨h1,(h2 _ JL).1⟩,(h2 _ JL).2⟩,λx hx=>h2 x (JP _ hx)⟩
 rw[hl]
 constructor
 ·rintro⟨⟨⟨h1,h2,h3⟩,h4⟩,h5⟩
  exact⟨h4,λi h=>by have:=h1 i h;rwa [Lj]at this,h2,h3,λx hx=>by simpa using h5 x hx⟩
 ·intro h
  exact⟨⟨⟨λi hi=>by have:=h.exps i hi;rwa [Lj],h.head,h.lits⟩,h.few⟩,λx hx=>by simpa using h.once x hx⟩
structure pb (r:Ru):Prop where
 exps:r.1.length<=1048576
 body:r.2.2.length<=1048576
 kids:∀e∈r.1,e.2.2.length<=1048576
 args:∀l∈dV r,l.2.2.length<=1048576
 all:zN r<=8000000
theorem y5 (n:Nat)(hn:1100000<=n)(r:Ru)(S:pb r):bI.F n r=some (qt r):=by
 have hE:=S.exps;have hB:=S.body;have hlen:(dV r).length=r.2.2.length+1:=rfl;unfold bI.F;rw[ab (by refine⟨by omega,Int.le_refl _,?_⟩;simp[aT];omega),JQ];have h0:Cnt (Ko r.1.length (0:Int)) r.1.length (((0:Nat):Int)*1048576):=⟨by simp,λq=>by
  rw[Lk,NY]
  split<;>simp⟩
 have e0:=λK=>Ee n r hn hE S.kids K n 0 _ (JO _) (by omega) h0
 simp only[show((0:Nat):Int)=0 from rfl,JW]at e0;rw[e0];unfold qt
 by_cases c1:mo r.1 0=true
 ·rw[ab c1,c1,KB]
  have hk:∀k∈r.1.flatMap aO,k<r.1.length:=by
   intro k hk;obtain⟨e,he,hk⟩:=Mn.1 hk;obtain⟨i,hi,rfl⟩:=LC.1 he;have:=pX (show r.1[i].2.2.all (lz i)=true by have:=(lT.1 c1 i hi).1;rwa [Lj]at this) k hk;omega
  have hC:((r.1.flatMap aO).length:Int)<=1048576*1048576:=by
   have:∀l:List Ex,(∀e∈l,e.2.2.length<=1048576)->(l.flatMap aO).length<=l.length*1048576:=by
    intro l
    induction l with
    |nil=>intro _;simp
    |cons e l ih=>
     intro h;have h1:=ih λx hx=>h x (JP _ hx)
     have h2:=h e JL;rw[LA,Jv,Ju];have:(aO e).length=e.2.2.length:=Km ..;omega
   have h1:=this r.1 S.kids;have:r.1.length*1048576<=1048576*1048576:=Kg _ hE;omega
  have hu:=(Cnt.bumps h0 _ hk).mono (D:=1048576*1048576+((0:Nat):Int)*1048576) (by omega);unfold jG.F;rw[ab (by simp[aT];omega),Jn];have e2:=λK=>Ef n r hn hE ([r.2.1]++r.2.2) (by simp;omega) S.args K n 0 _ (JO _) (by simp;omega) hu
  simp only[show((0:Nat):Int)=0 from rfl,JW]at e2;rw[e2,show [r.2.1]++r.2.2=dV r from rfl]
  by_cases c2:oU r.1.length (dV r) 0=true
  ·rw[ab c2,c2,KB]
   by_cases c3:r.1.length<=60
   ·rw[ab (by simp;omega),iW c3,KB]
    have hul:(bumps (bumps (Ko r.1.length 0) (r.1.flatMap aO)) ((dV r).flatMap aO)).length<=1048576:=by rw[jU,jU];simp;omega
    rw[xY n _ hul hn,Jn]
    rfl
   ·rw[ao (by simp;omega),dq c3]
    rfl
  ·rw[ao c2]
   have:oU r.1.length (dV r) 0=false:=by simpa using c2
   rw[this]
   rfl
 ·rw[ao c1]
  have:mo r.1 0=false:=by simpa using c1
  rw[this]
  rfl
theorem Eg (n:Nat)(k:Int):gX.F n k=some (gW k):=by
 unfold gX.F;rw[in_eq,Jn];unfold gW;rw[NF]
section
variable {r:Ru} (h:FormB r) (S:pb r)
theorem FormB.total (h:FormB r)(S:pb r):(jK r).length<=56000010:=by
 have h1:=G2 h.form;have h2:=S.all;omega
theorem FormB.tlen (h:FormB r)(S:pb r){i:Nat}(hi:i<r.1.length):(bf r.1 i).length<=56000010:=Mb (Ec h.form hi) (h.total S)
abbrev Tx (r:Ru)(k:Int):ByteArray:=bt (bf r.1 k.toNat)
theorem y6 (g:Nat)(s75:Ru->Int->Option ByteArray)(s76:Ru->List Int->Option ByteArray)(s82:Int->Ru->Option ByteArray)(kids:List Int)(hk:kids.length<=1048576)(hself:∀k∈kids,s75 r k=some (Tx r k))(K:List ByteArray->Option ByteArray):∀(k j:Nat),j<=kids.length->kids.length - j<k->
  ar.l0 g s75 s76 s82 kids (kids.length:Int) r K k (j:Int) ((kids.take j).map (Tx r))=K (kids.map (Tx r))
 |0,j,_,hj=>bH hj (JJ _)
 |k+1,j,hj,hk1=>by
  by_cases h:j<kids.length
  ·conv=>lhs;unfold ar.l0
   rw[ab (jq h),ab (inl' h),aE _ h,hself _ (JI h),Jn,ab (by simp[aT];omega),iX (by omega)];have:=y6 g s75 s76 s82 kids hk hself K k (j+1) (by omega) (by omega);rw[JE h,Kx]at this;exact this
  ·conv=>lhs;unfold ar.l0
   rw[ao (kl h),JR (by omega)]
theorem Ba (n:Nat)(l:List By)(hl:l.length<=4294967296)(hj:(KE l [44,32]).length<=4294967296):cI.F n (l.map bt) ⟨#[44,32]⟩=some (bt (KE l [44,32])):=by
 unfold cI.F;have e:(l.map bt).map (λx=>x.data.toList)=l:=by
  rw[Lo]
  conv=>rhs;rw[← List.map_id l]
  exact My λa _=>ek a
 have e2:((⟨#[44,32]⟩:ByteArray).data.toList)=[44,32]:=rfl;rw[e,e2,ab ⟨by rw[Km];exact hl,hj⟩]
 rfl
theorem y7 (g:Nat)(s75:Ru->Int->Option ByteArray)(s76:Ru->List Int->Option ByteArray)(s82:Int->Ru->Option ByteArray)(kids:List Int)(hk:kids.length<=1048576)(hg:1048577<=g)(hself:∀k∈kids,s75 r k=some (Tx r k))
  (hj:(KE ((kids.map Jr).map (bf r.1)) [44,32]).length<=4294967296):ar.G g s75 s76 s82 r kids=some (bt (KE ((kids.map Jr).map (bf r.1)) [44,32])):=by
 unfold ar.G;have:=y6 g s75 s76 s82 kids hk hself (λout9=>(cI.F g out9 ⟨#[44,32]⟩).bind λr10=>some r10) g 0 (JO _) (by omega);rw[show((0:Nat):Int)=0 from rfl]at this;rw[KD]at this;refine this.trans ?_;have e:kids.map (Tx r)=((kids.map Jr).map (bf r.1)).map bt:=by simp[Lo,Function.comp_def]
 rw[e,Ba g _ (by simp;omega) hj,Jn]
theorem Bb (g:Nat)(s75:Ru->Int->Option ByteArray)(s76:Ru->List Int->Option ByteArray)(s82:Int->Ru->Option ByteArray){k:Nat}(hk:k<r.1.length)(hself:s75 r (k:Int)=some (bt (bf r.1 k)))(ht:(bf r.1 k).length<=56000010):
  aM.G g s75 s76 s82 (k:Int) r=some (bt (mx (ey r.1 k) (bf r.1 k))):=by
 unfold aM.G;have e0:Jt r.1 (Jr (k:Int)) (0,(Jo,[]))=r.1.getD k kX:=by rw[JQ]
 rw[ab (inl' hk),e0,Eg,Jn,hself];unfold mx ey
 by_cases c:gW (r.1.getD k kX).1=true
 ·rw[ab c,ab c,Jn]
  rw[show(⟨#[40]⟩:ByteArray)=bt [40]from rfl,show(⟨#[41]⟩:ByteArray)=bt [41]from rfl];simp only[ap,ah,Jv,Ju,Jz];rw[ab (by simp only[aT];omega),ab (by simp only[aT];omega)]
 ·rw[ao c,ao c,Jn]
theorem I1 (g:Nat)(s75:Ru->Int->Option ByteArray)(s76:Ru->List Int->Option ByteArray)(s82:Int->Ru->Option ByteArray)(e:Ex)(hs:gW e.1=true){a b:Int}(hab:e.2.2=[a,b]){A B:By}(hA:s82 a r=some (bt A))(hB:s82 b r=some (bt B))
  (hl:A.length+B.length<=60000000) (Kn:Unit->Option ByteArray):ax.j0 g s75 s76 s82 true r e Kn=some (bt (A++GW e.1++B)):=by
 have hop:∃c:UInt8,((0:Int)<=Js.wrap (e.1 - 5)/\Js.wrap (e.1 - 5)<(Jp ([⟨#[43]⟩,⟨#[45]⟩,⟨#[42]⟩]:List ByteArray):Int))/\Jt ([⟨#[43]⟩,⟨#[45]⟩,⟨#[42]⟩]:List ByteArray) (Jr (Js.wrap (e.1 - 5))) Jo=bt [c]/\GW e.1=[32,c,32]:=by
  unfold gW at hs;simp only[Jx,dg]at hs;have:e.1=5\/e.1=6\/e.1=7:=by omega
  rcases this with h|h|h<;>rw[h]
  ·exact⟨43,by decide,rfl,rfl⟩
  ·exact⟨45,by decide,rfl,rfl⟩
  ·exact⟨42,by decide,rfl,rfl⟩
 obtain⟨c,h1,h2,h3⟩:=hop;unfold ax.j0;rw[hab,show(⟨#[32]⟩:ByteArray)=bt [32]from rfl,ab rfl,ab (by simp),show Jt [a,b] 0 0=a from rfl,hA,Jn,ab (by simp only[ah,Ju,Jz,aT];omega),ab h1,h2,
  ab (by simp only[ap,ah,Jv,Ju,Jz,aT];omega),ab (by simp only[ap,ah,Jv,Ju,Jz,aT];omega),ab (by simp),
  show Jt [a,b] 1 0=b from rfl,hB,Jn,ab (by simp only[ap,ah,Jv,Ju,Jz,aT];omega),h3]
 simp only[ap]
 congr 2
 simp
theorem IK (h:FormB r)(S:pb r):∀(i f:Nat),i<r.1.length->1048600+3*i<=f->(eQ f).1 r (i:Int)=some (bt (bf r.1 i)):=by
 intro i
 induction i using Nat.strongRecOn with
 |ind i ih=>
  intro f hi hf;obtain⟨g,rfl⟩:∃g,f=g+2:=⟨f - 2,by omega⟩
  show ax.G (g+1) (eQ (g+1)).1 (eQ (g+1)).2.1 (eQ (g+1)).2.2 r (i:Int)=_;have hlow:=h.low i hi;have hT:=h.tlen S hi;have hF:=h.form.exps;rw[uv h.low hi]at hT⊢;have e0:Jt r.1 (Jr (i:Int)) (0,(Jo,[]))=r.1.getD i kX:=by rw[JQ]
  have hmem:r.1.getD i kX∈r.1:=by
   have:r.1.getD i kX=r.1[i]:=by simp[hi]
   rw[this];exact JI hi
  have hkn:=h.form.nn _ hmem;have hkl:=S.kids _ hmem;have htwo:=hF.two i hi;unfold ax.G;rw[ab (inl' hi),e0];generalize r.1.getD i kX=e at*;have hkid:∀k∈e.2.2,∃q:Nat,k=(q:Int)/\q<i/\q<r.1.length/\q∈aO e:=λk hk=>by
   obtain⟨q,rfl⟩:=Mh (hkn k hk);have hq:q∈aO e:=Lh.2 ⟨_,hk,JQ q⟩;have:=hlow q hq;exact⟨q,rfl,this,by omega,hq⟩
  by_cases c2:e.1=2
  ·rw[ab (by simp[c2])]
   unfold mC;rw[ab c2]
   rfl
  rw[ao (by simpa using c2)]
  by_cases c4:e.1=4
  ·rw[ab (by simp[c4])]
   have hs4:¬gW e.1=true:=by rw[c4];decide
   by_cases hk:e.2.2=[]
   ·rw[ao (by simp[hk])]
    unfold mC;rw[ao c2,ao (λhh=>hh.2 hk),ao hs4,← jl]
   ·have hpos:0<e.2.2.length:=Lw.2 hk
    have hT':=hT;unfold mC at hT'⊢;rw[ao c2,ab (show e.1=4/\e.2.2≠[]from⟨c4,hk⟩)]at hT'⊢;simp only[Jv,Ju,Jz]at hT';have hte:=y7 g (eQ g).1 (eQ g).2.1 (eQ g).2.2 e.2.2 hkl (by omega) (λk hk'=>by
     obtain⟨q,rfl,h1,h2,_⟩:=hkid k hk';rw[ih q h1 g h2 (by omega)]
     rfl) (by
     show(KE ((aO e).map (bf r.1)) [44,32]).length<=_
     omega)
    have hte2:(eQ (g+1)).2.1 r e.2.2=some (bt (KE ((aO e).map (bf r.1)) [44,32])):=hte;rw[ab (by simp;omega),hte2];have e1:e.2.1=bt e.2.1.data.toList:=jl _;rw[e1,show(⟨#[40]⟩:ByteArray)=bt [40]from rfl,show(⟨#[41]⟩:ByteArray)=bt [41]from rfl];simp only[ek,ap,ah,Jv,Ju,Jz,Jn];rw[ab (by simp only[aT];omega),ab (by simp only[aT];omega),ab (by simp only[aT];omega)]
  rw[ao (by simpa using c4)]
  by_cases hs:gW e.1=true
  ·have hlen:=htwo hs
   match hab:e.2.2,hlen with
   |[a,b],_=>
    obtain⟨p,rfl,p1,p2,p3⟩:=hkid a (by rw[hab];simp);obtain⟨q,rfl,q1,q2,q3⟩:=hkid b (by rw[hab];simp);have hA:=Bb g (eQ g).1 (eQ g).2.1 (eQ g).2.2 p2 (ih p p1 g p2 (by omega)) (h.tlen S p2);have hB:=Bb g (eQ g).1 (eQ g).2.1 (eQ g).2.2 q2 (ih q q1 g q2 (by omega)) (h.tlen S q2);have hN:aO e=[p,q]:=by unfold aO;rw[hab];simp
    have hx:mC (ey r.1) (bf r.1) e=mx (ey r.1 p) (bf r.1 p)++GW e.1++mx (ey r.1 q) (bf r.1 q):=by
     unfold mC;rw[ao c2,ao (λhh=>c4 hh.1),ab hs,hN]
    rw[hx]at hT⊢;simp only[Jv]at hT;have key:=λKn=>I1 (r:=r) (g+1) (eQ (g+1)).1 (eQ (g+1)).2.1 (eQ (g+1)).2.2 e hs hab (show(eQ (g+1)).2.2 (p:Int) r=_ from hA) (show(eQ (g+1)).2.2 (q:Int) r=_ from hB) (by omega) Kn
    by_cases c5:e.1=5
    ·rw[ab (by simp[c5]),show decide (e.1=5)=true by simp[c5],key]
    ·rw[ao (by simpa using c5)]
     by_cases c6:e.1=6
     ·rw[ab (by simp[c6]),show decide (e.1=6)=true by simp[c6],key]
     ·rw[ao (by simpa using c6)]
      have c7:e.1=7:=by
       unfold gW at hs;simp only[Jx,dg]at hs;omega
      rw[show decide (e.1=7)=true by simp[c7],key]
  ·have hns:¬(5<=e.1/\e.1<=7):=by
    unfold gW at hs;simpa using hs
   have hx:mC (ey r.1) (bf r.1) e=e.2.1.data.toList:=by
    unfold mC;rw[ao c2,ao (λhh=>c4 hh.1),ao hs]
   rw[hx,ao (by simp;omega),ao (by simp;omega),show decide (e.1=7)=false by simp;omega];unfold ax.j0;rw[ao (by simp),← jl]
theorem sV (h:FormB r)(S:pb r){n:Nat}(hn:1100000<=n){i:Nat}(hi:i<r.1.length):ax.F n r (i:Int)=some (bt (bf r.1 i)):=
 IK h S i n hi (by have:=h.few;omega)
theorem y8 (h:FormB r)(S:pb r){n:Nat}(hn:1100000<=n)(kids:List Int)(hk:kids.length<=1048576)(hin:kids.all (lz r.1.length)=true)
  (hj:(KE ((kids.map Jr).map (bf r.1)) [44,32]).length<=4294967296):ar.F n r kids=some (bt (KE ((kids.map Jr).map (bf r.1)) [44,32])):=by
 obtain⟨g,rfl⟩:∃g,n=g+1:=⟨n - 1,by omega⟩
 show ar.G g (eQ g).1 (eQ g).2.1 (eQ g).2.2 r kids=_;refine y7 g _ _ _ kids hk (by omega) (λk hk'=>?_) hj;have:=Kc.1 hin k hk';unfold lz at this;simp only[Jx,dg]at this;obtain⟨q,rfl⟩:=Mh this.1;have hq:q<r.1.length:=by omega
 rw[IK h S q g hq (by have:=h.few;omega)]
 rfl
end
theorem ra {α:Type}(f:α->Nat):∀{l:List α} {x:α},x∈l->f x<=(l.map f).sum
 |y::l,x,h=>by
  simp only[JK,Kl];rcases JV.1 h with rfl|h
  ·omega
  ·have:=ra f h
   omega
theorem Eh {r:Ru}{l:Ex}(hl:l∈dV r):(ez r.1 l).length<=(jK r).length:=by
 unfold jK;simp only[Jv];rcases JV.1 hl with rfl|hl
 ·omega
 ·have hne:r.2.2≠[]:=λe=>by rw[e]at hl;cases hl
  rw[ao hne];simp only[Jv,kj,Lo];have:=ra (Jp∘ez r.1) hl;have e:(Jp∘ez r.1) l=(ez r.1 l).length:=rfl;omega
section
variable {r:Ru}
theorem sW (h:FormB r)(S:pb r){n:Nat}(hn:1100000<=n){l:Ex}(hl:l∈dV r):eS.F n r l=some (bt (ez r.1 l)):=by
 have hlen:=Mb (Eh hl) (h.total S);obtain⟨hok,hA⟩:=h.lits l hl;have hF:=h.form.lits l hl;have hargs:=S.args l hl;have e1:l.2.1=bt l.2.1.data.toList:=jl _;unfold eS.F;unfold ez at hlen⊢
 by_cases c3:l.1=3
 ·rw[ab c3]at hlen⊢
  rw[ab (by simp[c3])]
  match hab:l.2.2,hF.two c3 with
  |[a,b],_=>
   have ha:=hF.arg a (by rw[hab];simp);have hb:=hF.arg b (by rw[hab];simp);obtain⟨p,rfl⟩:=Mh ha.1;obtain⟨q,rfl⟩:=Mh hb.1;have hN:aO l=[p,q]:=by unfold aO;rw[hab];simp
   rw[hN]at hlen⊢;simp only[Jv,Ju,Jz]at hlen;rw[ab (by simp),show Jt [(p:Int),(q:Int)] 0 0=(p:Int)from rfl,sV h S hn (by omega),Jn,e1,show(⟨#[32]⟩:ByteArray)=bt [32]from rfl,
    ab (by simp only[ah,Ju,Jz,aT];omega),ab (by simp only[ap,ah,Jv,Ju,Jz,aT];omega),
    ab (by simp only[ap,ah,Jv,Ju,Jz,aT];omega),ab (by simp),show Jt [(p:Int),(q:Int)] 1 0=(q:Int)from rfl,sV h S hn (by omega),Jn,
    ab (by simp only[ap,ah,Jv,Ju,Jz,aT];omega)]
   simp only[ap,ek]
 ·rw[ao c3]at hlen⊢
  rw[ao (by simpa using c3)];simp only[Jv,Ju,Jz]at hlen;have ht:=y8 h S hn l.2.2 hargs hA (by
   show(KE ((aO l).map (bf r.1)) [44,32]).length<=_
   omega)
  have ht:ar.F n r l.2.2=some (bt (KE ((aO l).map (bf r.1)) [44,32])):=ht
  by_cases c2:l.1=2
  ·rw[ab c2]at hlen⊢
   simp only[Ju,Jz]at hlen;rw[ab (by simp[c2]),ht,e1,show(⟨#[33]⟩:ByteArray)=bt [33]from rfl,show(⟨#[40]⟩:ByteArray)=bt [40]from rfl,show(⟨#[41]⟩:ByteArray)=bt [41]from rfl,
    ab (by simp only[ap,ah,Jv,Ju,Jz,aT];omega),ab (by simp only[ap,ah,Jv,Ju,Jz,aT];omega),Jn,
    ab (by simp only[ap,ah,Jv,Ju,Jz,aT];omega),ab (by simp only[ap,ah,Jv,Ju,Jz,aT];omega)]
   simp only[ap,ek]
  ·rw[ao c2]at hlen⊢
   simp only[Jz,Lj]at hlen;rw[ao (by simpa using c2),ht,e1,show(⟨#[40]⟩:ByteArray)=bt [40]from rfl,show(⟨#[41]⟩:ByteArray)=bt [41]from rfl,
    ab (by simp only[ap,ah,Jv,Ju,Jz,aT];omega),Jn,
    ab (by simp only[ap,ah,Jv,Ju,Jz,aT];omega),ab (by simp only[ap,ah,Jv,Ju,Jz,aT];omega)]
   simp only[ap,ek,Kv]
theorem qv (h:FormB r)(S:pb r){n:Nat}(hn:1100000<=n)(out4:ByteArray)(K:List ByteArray->Option ByteArray):∀(k j:Nat),j<=r.2.2.length->r.2.2.length - j<k->
  fe.l0 n out4 r.2.2 (r.2.2.length:Int) r K k (j:Int) (((r.2.2.take j).map (ez r.1)).map bt)=K ((r.2.2.map (ez r.1)).map bt)
 |0,j,_,hj=>bH hj (JJ _)
 |k+1,j,hj,hk1=>by
  have hB:=S.body
  by_cases hlt:j<r.2.2.length
  ·conv=>lhs;unfold fe.l0
   rw[ab (jq hlt),ab (inl' hlt),aE _ hlt,sW h S hn (JP _ (JI hlt)),Jn,ab (by simp[aT];omega),iX (by omega)];have:=qv h S hn out4 K k (j+1) (by omega) (by omega);rw[JE hlt,Kx,Kx]at this;exact this
  ·conv=>lhs;unfold fe.l0
   rw[ao (kl hlt),JR (by omega)]
noncomputable def fP (r:Ru):ByteArray:=if qt r=true/\(jK r).length<=3000 then bt (jK r)else Jo
theorem y9 (n:Nat)(hn:1100000<=n)(r:Ru)(S:pb r):fe.F n r=some (fP r):=by
 have hB:=S.body;unfold fe.F fP;rw[y5 n hn r S,Jn]
 by_cases hf:qt r=true
 ·have h:=jV.1 hf
  have hT:=h.total S;have hH:ez r.1 r.2.1=ez r.1 r.2.1:=rfl;rw[ao (by simp[hf]),sW h S hn JL,Jn];have hl:=λK=>qv h S hn (bt (ez r.1 r.2.1)) K n 0 (JO _) (by omega)
  simp only[show((0:Nat):Int)=0 from rfl,KD,KG]at hl;rw[hl]
  by_cases hb:r.2.2=[]
  ·have hr:jK r=ez r.1 r.2.1++[46]:=by unfold jK;rw[ab hb,Ky]
   rw[hr]at hT⊢;simp only[Jv,Ju,Jz]at hT;rw[ao (by simp[hb]),show(⟨#[46]⟩:ByteArray)=bt [46]from rfl,ab (by simp only[ah,Ju,Jz,aT];omega),ap,ah]
   by_cases hs:(ez r.1 r.2.1++[46]).length<=3000
   ·rw[ao (by simp at hs⊢;omega),ab ⟨hf,hs⟩]
   ·rw[ab (by simp at hs⊢;omega),ao (λhh=>hs hh.2)]
  ·have hr:jK r=ez r.1 r.2.1++([32,58,45,32]++KE (r.2.2.map (ez r.1)) [44,32])++[46]:=by unfold jK;rw[ao hb]
   have hpos:0<r.2.2.length:=Lw.2 hb;rw[hr]at hT⊢;have hT':=hT;simp only[Jv,Ju,Jz]at hT';rw[ab (by simp;omega),Ba n _ (by simp;omega) (by omega),Jn,show(⟨#[46]⟩:ByteArray)=bt [46]from rfl,show(⟨#[32,58,45,32]⟩:ByteArray)=bt [32,58,45,32]from rfl,
    ab (by simp only[ap,ah,Jv,Ju,Jz,aT];omega),ab (by simp only[ap,ah,Jv,Ju,Jz,aT];omega),
    ab (by simp only[ap,ah,Jv,Ju,Jz,aT];omega)]
   simp only[ap,ah]
   by_cases hs:(ez r.1 r.2.1++([32,58,45,32]++KE (r.2.2.map (ez r.1)) [44,32])++[46]).length<=3000
   ·rw[ao (by rw[dg];omega),ab ⟨hf,hs⟩]
   ·rw[ab (by rw[dg];omega),ao (λhh=>hs hh.2)]
 ·rw[ab (by simp[hf]),ao (λhh=>hf hh.1)]
end
theorem pY {E:List Ex}{b:Nat}(h:∀i,i<b->∀k∈aO (E.getD i kX),k<i):∀(f i:Nat),i<f->i<b->B2 E f i=bf E i
 |0,i,hi,_=>bH hi (JJ _)
 |f+1,i,hi,hb=>by
  show mC _ _ _=mC _ _ _;refine nA λk hk=>?_
  have:=h i hb k hk;rw[pY h f k (by omega) (by omega),pY h i k this (by omega)]
termination_by f i=>f+i
theorem zP {E:List Ex}{i:Nat}(h:∀j,j<=i->∀k∈aO (E.getD j kX),k<j):bf E i=mC (ey E) (bf E) (E.getD i kX):=by
 show mC _ _ _=mC _ _ _;refine nA λk hk=>?_
 have:=h i (JS _) k hk;exact pY (b:=i+1) (λj hj=>h j (by omega)) i k this (by omega)
def oW (E:List Ex)(o:List ByteArray)(i:Nat):Prop:=o.length=E.length/\∀j,j<i->o.getD j Jo=bt (bf E j)/\(bf E j).length<=3000
section
variable (n:Nat) (hn:1100000<=n) (r:Ru)
theorem I2 (i:Nat)(o:List ByteArray)(e:Ex)(hk:e.2.2.length<=1048576)(K:List Int->Option (List ByteArray×Bool))(m:Nat)(hi:i<=m)(him:i<=4294967296){C:Int}{u:List Int}(hu:Cnt u m C)(hC:C<=4000000000000)(hn:1100000<=n):
  aw.l1 n (i:Int) r o e K n 0 u=if e.2.2.all (lz i)=true then K (bumps u (aO e))else some (o,false):=by
 have:=oT (λk j u=>aw.l1 n (i:Int) r o e K k j u) e.2.2 m i (some (o,false)) K hi (λk j u h hm hq=>by
   conv=>lhs;unfold aw.l1
   simp only[aE _ h];rw[ab (jq h),ab (inl' h),aK _ (by omega) (by omega),dW,vH,Jn,iX (by omega)]
   by_cases hin:lz i e.2.2[j]=true
   ·obtain⟨h1,h2⟩:=oV hm hi hin hq
    rw[ao (by simp[hin]),ab (inl' h),ab h1,ab h1,h2,ab hin]
   ·rw[ab (by simpa using hin),ao hin]) (λk u=>by
   conv=>lhs;unfold aw.l1
   rw[ao (by simp)]) n 0 u C (JO _) (by omega) hu (by omega)
 rw[JW]at this;exact this
theorem jD {o:List ByteArray}{i:Nat}(ho:oW r.1 o i){k:Int}(hk:lz i k=true)(hi:i<=r.1.length):((0:Int)<=k/\k<(o.length:Int))/\Jt o (Jr k) Jo=bt (bf r.1 k.toNat)/\(bf r.1 k.toNat).length<=3000:=by
 unfold lz at hk;simp only[Jx,dg]at hk;have h1:=ho.1;exact⟨by omega,ho.2 k.toNat (by omega)⟩
def jE (sep:By)(l:List By):By:=(l.map (sep++·)).flatten
theorem mq (sep x:By)(l:List By):jE sep (x::l)=sep++x++jE sep l:=by simp[jE]
theorem kN (sep x:By)(l:List By):KE (x::l) sep=x++jE sep l:=Lib.join_cons x l sep
theorem Ei (t22:Int)(u:List Int){o:List ByteArray}{i:Nat}(ho:oW r.1 o i)(hi:i<=r.1.length)(e:Ex)(hk:e.2.2.length<=1048576)(hin:e.2.2.all (lz i)=true)(K:ByteArray->Option (List ByteArray×Bool)):∀(k j:Nat) (s:By),j<=e.2.2.length->e.2.2.length - j<k->1<=j->
  s.length+(e.2.2.length - j)*3002<=4000000000->aw.l3 n t22 r u o e K k (bt s) (j:Int)=K (bt (s++jE [44,32] (((aO e).drop j).map (bf r.1))))
 |0,j,s,_,hj,_,_=>bH hj (JJ _)
 |k+1,j,s,hj,hk1,h1,hs=>by
  have hkn:(aO e).length=e.2.2.length:=Km ..
  by_cases h:j<e.2.2.length
  ·have hm:=Kc.1 hin _ (JI h)
   obtain⟨g1,g2,g3⟩:=jD r ho hm hi;have hkj:(aO e).drop j=e.2.2[j].toNat::(aO e).drop (j+1):=by
    rw[JF (by omega)]
    simp[aO]
   have hb:s.length+3002<=4000000000:=by
    have:1*3002<=(e.2.2.length - j)*3002:=Kg _ (by omega);omega
   conv=>lhs;unfold aw.l3
   simp only[aE _ h];rw[ab (jq h),ao (by simp;omega),show(⟨#[44,32]⟩:ByteArray)=bt [44,32]from rfl,ab (by simp only[ah,Ju,Jz,aT];omega),ab (inl' h),ab g1,g2,
    ab (by simp only[ap,ah,Jv,Ju,Jz,aT];omega),ap,ap,iX (by omega),
    Ei t22 u ho hi e hk hin K k (j+1) _ (by omega) (by omega) (by omega) (by
     simp only[Jv,Ju,Jz];have:(e.2.2.length - j)*3002=(e.2.2.length - (j+1))*3002+3002:=by
      rw[show e.2.2.length - j=(e.2.2.length - (j+1))+1 by omega,KH,Lf]
     omega),hkj,JK,mq]
   simp only[JY]
  ·conv=>lhs;unfold aw.l3
   rw[ao (kl h),JH (by omega)]
   simp[jE]
theorem ux {o:List ByteArray}{i:Nat}(ho:oW r.1 o i)(hi:i<=r.1.length){k:Int}(hk:lz i k=true):iO.F n r o k=some (bt (mx (ey r.1 k.toNat) (bf r.1 k.toNat))):=by
 obtain⟨g1,g2,g3⟩:=jD r ho hk hi;have h1:=ho.1;unfold iO.F;rw[ab (by omega),dW,Jn];unfold mx ey gW;have e0:Jt r.1 (Jr k) (0,(Jo,[]))=r.1.getD k.toNat kX:=rfl;rw[e0,NF,ab g1,g2]
 by_cases c:(decide (5<=(r.1.getD k.toNat kX).1)&&decide ((r.1.getD k.toNat kX).1<=7))=true
 ·rw[ab c,ab c,show(⟨#[40]⟩:ByteArray)=bt [40]from rfl,show(⟨#[41]⟩:ByteArray)=bt [41]from rfl,ab (by simp only[ap,ah,Jv,Ju,Jz,aT];omega),
   ab (by simp only[ap,ah,Jv,Ju,Jz,aT];omega)]
  simp only[ap]
 ·rw[ao c,ao c,ab g1]
theorem ya {k:Int}{t:By}(h:t.length<=3000):(mx k t).length<=3002:=by
 unfold mx
 split
 ·simp;omega
 ·omega
theorem I3 (t30:Int)(u:List Int){o:List ByteArray}{i:Nat}(ho:oW r.1 o i)(hi:i<=r.1.length)(e:Ex)(hin:e.2.2.all (lz i)=true)(hs:gW e.1=true)(h2:e.1≠4)(h3:e.1≠2)(Kn:ByteArray->Option (List ByteArray×Bool)):
  aw.j4 n t30 true r u o e Kn=if e.2.2.length=2 then Kn (bt (mC (ey r.1) (bf r.1) e))else some (o,false):=by
 unfold aw.j4;rw[ab rfl]
 by_cases hl:e.2.2.length=2
 ·rw[ao (by simp[hl]),ab hl]
  match hab:e.2.2,hl with
  |[a,b],_=>
   have ha:=Kc.1 hin a (by rw[hab];simp);have hb:=Kc.1 hin b (by rw[hab];simp);have la:=(jD r ho ha hi).2.2;have lb:=(jD r ho hb hi).2.2;have sa:=ya (k:=ey r.1 a.toNat) la;have sb:=ya (k:=ey r.1 b.toNat) lb;have hop:((0:Int)<=Js.wrap (e.1 - 5)/\Js.wrap (e.1 - 5)<(Jp ([⟨#[32,43,32]⟩,⟨#[32,45,32]⟩,⟨#[32,42,32]⟩]:List ByteArray):Int))/\Jt ([⟨#[32,43,32]⟩,⟨#[32,45,32]⟩,⟨#[32,42,32]⟩]:List ByteArray) (Jr (Js.wrap (e.1 - 5))) Jo=bt (GW e.1)/\(GW e.1).length=3:=by
    unfold gW at hs;simp only[Jx,dg]at hs;have:e.1=5\/e.1=6\/e.1=7:=by omega
    rcases this with h|h|h<;>rw[h]
    ·exact⟨by decide,rfl,rfl⟩
    ·exact⟨by decide,rfl,rfl⟩
    ·exact⟨by decide,rfl,rfl⟩
   obtain⟨o1,o2,o3⟩:=hop;rw[ab o1,ab (by simp),show Jt [a,b] 0 0=a from rfl,ux n r ho hi ha,Jn,o2,ab (by simp only[ap,ah,Jv,aT];omega),ab (by simp),show Jt [a,b] 1 0=b from rfl,ux n r ho hi hb,
    Jn,ab (by simp only[ap,ah,Jv,aT];omega)]
   simp only[ap]
   congr 2
   unfold mC;rw[ao h3,ao (λhh=>h2 hh.1),ab hs];have hN:aO e=[a.toNat,b.toNat]:=by unfold aO;rw[hab];rfl
   rw[hN]
 ·have:¬(e.2.2.length:Int)=2:=by omega
  rw[ab (by simp[this]),ao hl]
theorem I4 (hn:1100000<=n)(u:List Int){o:List ByteArray}{i:Nat}(ho:oW r.1 o i)(hi:i<=r.1.length)(e:Ex)(he:e.2.1.size<=8000000)(hk:e.2.2.length<=1048576)(hin:e.2.2.all (lz i)=true)(b:Bool)(hb:b=true↔e.1=1\/e.1=3)(Kn:ByteArray->Option (List ByteArray×Bool)):
  aw.j2 n (i:Int) e.1 b r u o e Kn=if(1<=e.1/\e.1<=7)/\(gW e.1=true->e.2.2.length=2)then Kn (bt (mC (ey r.1) (bf r.1) e))else some (o,false):=by
 have e1:e.2.1=bt e.2.1.data.toList:=jl _;have es:e.2.1.data.toList.length<=8000000:=he;unfold aw.j2
 by_cases c1:e.1=1\/e.1=3
 ·rw[ab (hb.2 c1)]
  have hs:¬gW e.1=true:=by rcases c1 with h|h<;>rw[h]<;>decide
  rw[ab ⟨by omega,λh=>bH h hs⟩];unfold mC;rw[ao (by omega),ao (by omega),ao hs,← e1]
 rw[ao (λh=>c1 (hb.1 h))]
 by_cases c2:e.1=2
 ·have hs:¬gW e.1=true:=by rw[c2];decide
  rw[ab (by simp[c2]),ab ⟨by omega,λh=>bH h hs⟩];unfold mC;rw[ab c2]
  rfl
 rw[ao (by simpa using c2)]
 by_cases c4:e.1=4
 ·have hs:¬gW e.1=true:=by rw[c4];decide
  rw[ab (by simp[c4]),ab (show(1<=e.1/\e.1<=7)/\(gW e.1=true->e.2.2.length=2)from⟨by omega,λh=>bH h hs⟩)];unfold mC;rw[ao c2]
  by_cases hne:e.2.2=[]
  ·rw[ao (λh=>h.2 hne),ao hs]
   obtain⟨n',rfl⟩:∃n',n=n'+1:=⟨n - 1,by omega⟩
   unfold aw.l3;rw[ao (by simp[hne]),ao (by simp[hne]),← e1]
  ·obtain⟨a,l,hq⟩:=NJ hne
   have h0:0<e.2.2.length:=Lw.2 hne;have ha:=Kc.1 hin a (by rw[hq];simp);obtain⟨g1,g2,g3⟩:=jD r ho ha hi;have hN:aO e=a.toNat::l.map Jr:=by unfold aO;rw[hq];rfl
   rw[ab (show e.1=4/\e.2.2≠[]from⟨c4,hne⟩)];obtain⟨n',rfl⟩:∃n',n=n'+1:=⟨n - 1,by omega⟩
   unfold aw.l3;have hll:l.length+1=e.2.2.length:=by rw[hq];rfl
   have ga:Jt e.2.2 (Jr 0) 0=a:=by rw[hq];rfl
   rw[ga];rw[ab (by simp;omega),ab (by simp),show(⟨#[40]⟩:ByteArray)=bt [40]from rfl];rw[e1,ab (by simp only[ah,Ju,Jz,aT];omega),ab (by omega),ab g1,g2,ab (by simp only[ap,ah,Jv,Ju,Jz,aT];omega),ap,ap];rw[show Js.wrap ((0:Int)+1)=((1:Nat):Int)from rfl];have:=Ei (n'+1) r (i:Int) u ho hi e hk hin (λt29=>
    if decide ((Jp e.2.2:Int)>0)=true then
    if Jq t29+Jq ⟨#[41]⟩<=aT then
    Kn (t29++⟨#[41]⟩)
    else
    none
    else
    Kn t29) n' 1 (e.2.1.data.toList++[40]++bf r.1 a.toNat) (by omega) (by omega) (JS _) (by
     simp only[Jv,Ju,Jz];have:(e.2.2.length - 1)*3002<=1048576*3002:=Kg _ (by omega)
     omega)
   refine this.trans ?_;rw[ab (by simp;omega),show(⟨#[41]⟩:ByteArray)=bt [41]from rfl];have hlen:((e.2.1.data.toList++[40]++bf r.1 a.toNat)++jE [44,32] (((aO e).drop 1).map (bf r.1))).length<=4000000000:=by
    have hl:∀ks:List Nat,(∀k∈ks,(bf r.1 k).length<=3000)->(jE [44,32] (ks.map (bf r.1))).length<=ks.length*3002:=by
     intro ks
     induction ks with
     |nil=>intro _;exact JO _
     |cons k ks ih=>
      intro h;have h1:=ih λx hx=>h x (JP _ hx)
      have h2:=h k JL;rw[JK,mq];simp only[Jv,Ju,Jz,KH,Lf];omega
    have h1:=hl ((aO e).drop 1) (λk hk=>by
     have hk:=List.mem_of_mem_drop hk;obtain⟨x,hx,rfl⟩:=Lh.1 hk;exact(jD r ho (Kc.1 hin x hx) hi).2.2)
    have h2:((aO e).drop 1).length*3002<=1048576*3002:=Kg _ (by
     rw[List.length_drop];have:(aO e).length=e.2.2.length:=Km ..
     omega)
    simp only[Jv,Ju,Jz];omega
   rw[ab (by simp only[ah,Ju,Jz,aT];omega),ap]
   congr 2
   rw[hN];simp only[Oz,JW,JK,kN,ek,JY]
 rw[ao (by simpa using c4)]
 by_cases hs:gW e.1=true
 ·have hk7:5<=e.1/\e.1<=7:=by
   unfold gW at hs;simpa using hs
  have key:=λKn=>I3 n r (i:Int) u ho hi e hin hs c4 c2 Kn
  have hR:(if(1<=e.1/\e.1<=7)/\(gW e.1=true->e.2.2.length=2)then Kn (bt (mC (ey r.1) (bf r.1) e))else some (o,false))=if e.2.2.length=2 then Kn (bt (mC (ey r.1) (bf r.1) e))else some (o,false):=by
   by_cases hl:e.2.2.length=2
   ·rw[ab hl,ab ⟨by omega,λ_=>hl⟩]
   ·rw[ao hl,ao (λh=>hl (h.2 hs))]
  rw[hR]
  by_cases c5:e.1=5
  ·rw[ab (by simp[c5]),show decide (e.1=5)=true by simp[c5],key]
  ·rw[ao (by simpa using c5)]
   by_cases c6:e.1=6
   ·rw[ab (by simp[c6]),show decide (e.1=6)=true by simp[c6],key]
   ·rw[ao (by simpa using c6),show decide (e.1=7)=true by simp;omega,key]
 ·have hns:¬(5<=e.1/\e.1<=7):=by
   unfold gW at hs;simpa using hs
  rw[ao (by simp;omega),ao (by simp;omega),show decide (e.1=7)=false by simp;omega,ao (by omega)];unfold aw.j4;rw[ao (by simp)]
theorem I5 {o:List ByteArray}{i:Nat}(ho:o.length=r.1.length)(hi:i<r.1.length)(u:List Int)(e:Ex)(t:By)(Kn:List ByteArray->Option (List ByteArray×Bool)):
  aw.j5 n (i:Int) (bt t) r u o e Kn=if(e.1<=3->e.2.2=[])/\t.length<=3000 then Kn (o.set i (bt t))else some (o,false):=by
 unfold aw.j5 aw.j6;have hin:(0:Int)<=(i:Int)/\(i:Int)<(o.length:Int):=by omega
 simp only[ab hin,JQ,ah]
 by_cases c3:e.1<=3
 ·rw[ab (by simpa using c3)]
  by_cases hk:e.2.2=[]
  ·rw[ab (by simp[hk])]
   by_cases ht:t.length<=3000
   ·rw[ao (by simp;omega),ab ⟨λ_=>hk,ht⟩]
   ·rw[ab (by simp;omega),ao (λh=>ht h.2)]
  ·have:=Lw.2 hk
   rw[ao (by simp;omega),ao (λh=>hk (h.1 c3))]
 ·rw[ao (by simpa using c3)]
  by_cases ht:t.length<=3000
  ·rw[ao (by simp;omega),ab ⟨λh=>bH h c3,ht⟩]
  ·rw[ab (by simp;omega),ao (λh=>ht h.2)]
end
def jL (E:List Ex):List ByteArray:=(List.range E.length).map λj=>bt (bf E j)
theorem Ej {E:List Ex}{o:List ByteArray}(h:oW E o E.length):o=jL E:=by
 apply List.ext_getElem
 ·simp[jL,h.1]
 ·intro j h1 h2
  have hj:j<E.length:=by rw[← h.1];exact h1
  have:=(h.2 j hj).1;rw[Lk,List.getElem?_eq_getElem h1]at this;simp only[jL,List.getElem_map,List.getElem_range];exact this
theorem vI {e:Ex}:Ch e=true↔((1<=e.1/\e.1<=7)/\(gW e.1=true->e.2.2.length=2))/\(e.1<=3->e.2.2=[]):=by
 unfold Ch
 by_cases hs:gW e.1=true
 ·have h5:5<=e.1/\e.1<=7:=by unfold gW at hs;simpa using hs
  rw[ab hs];simp only[Jx,dg]
  constructor
  ·rintro⟨h1,h2⟩
   exact⟨⟨h1,λ_=>h2⟩,λh=>by omega⟩
  ·rintro⟨⟨h1,h2⟩,_⟩
   exact⟨h1,h2 hs⟩
 ·have h5:¬(5<=e.1/\e.1<=7):=by unfold gW at hs;simpa using hs
  rw[ao hs];simp only[Jx,dg,Lm,List.isEmpty_iff]
  constructor
  ·rintro⟨h1,h2⟩
   exact⟨⟨h1,λh=>bH h hs⟩,λh=>h2.resolve_left (by omega)⟩
  ·rintro⟨⟨h1,h2⟩,h3⟩
   refine⟨h1,?_⟩
   by_cases h4:e.1=4
   ·exact .inl h4
   ·exact .inr (h3 (by omega))
structure I6 (r:Ru):Prop extends pb r where
 text:∀e∈r.1,e.2.1.size<=8000000
 name:∀l∈dV r,l.2.1.size<=8000000
section
variable (n:Nat) (hn:1100000<=n) (r:Ru) (S:I6 r)
theorem Ek (hn:1100000<=n){i:Nat}(hi:i<r.1.length){o:List ByteArray}(ho:oW r.1 o i)(S:I6 r){u:List Int}(hin:(r.1[i]).2.2.all (lz i)=true)(X:List ByteArray->Option (List ByteArray×Bool)):
  (if decide ((r.1[i]).1=1)=true then
   aw.j2 n (i:Int) (r.1[i]).1 (decide ((r.1[i]).1=1)) r u o r.1[i] (λt41=>aw.j5 n (i:Int) t41 r u o r.1[i] (λt55=>X t55))
   else aw.j2 n (i:Int) (r.1[i]).1 (decide ((r.1[i]).1=3)) r u o r.1[i] (λt56=>aw.j5 n (i:Int) t56 r u o r.1[i] (λt57=>X t57)))=
   if Ch r.1[i]=true/\(mC (ey r.1) (bf r.1) r.1[i]).length<=3000 then X (o.set i (bt (mC (ey r.1) (bf r.1) r.1[i])))else some (o,false):=by
 have hm:=JI hi;have he:=S.text _ hm;have hk:=S.kids _ hm;generalize r.1[i]=e at*;have key:∀(b:Bool),(b=true↔e.1=1\/e.1=3)->aw.j2 n (i:Int) e.1 b r u o e (λt41=>aw.j5 n (i:Int) t41 r u o e (λt55=>X t55))=
   if Ch e=true/\(mC (ey r.1) (bf r.1) e).length<=3000 then X (o.set i (bt (mC (ey r.1) (bf r.1) e)))else some (o,false):=by
  intro b hb;rw[I4 n r hn u ho (No hi) e he hk hin b hb]
  by_cases c1:(1<=e.1/\e.1<=7)/\(gW e.1=true->e.2.2.length=2)
  ·rw[ab c1,I5 n r ho.1 hi u e]
   by_cases c2:(e.1<=3->e.2.2=[])/\(mC (ey r.1) (bf r.1) e).length<=3000
   ·rw[ab c2,ab ⟨vI.2 ⟨c1,c2.1⟩,c2.2⟩]
   ·rw[ao c2,ao (λh=>c2 ⟨(vI.1 h.1).2,h.2⟩)]
  ·rw[ao c1,ao (λh=>c1 (vI.1 h.1).1)]
 by_cases c1:e.1=1
 ·rw[ab (by simp[c1])]
  exact key _ (by simp[c1])
 ·rw[ao (by simpa using c1)]
  exact key _ (by simp[c1])
theorem El (hn:1100000<=n)(S:I6 r)(K:List Int->List ByteArray->Option (List ByteArray×Bool)):∀(k i:Nat) (u:List Int) (o:List ByteArray),i<=r.1.length->r.1.length - i<k->(∀j,j<i->∀q∈aO (r.1.getD j kX),q<j)->oW r.1 o i->Cnt u r.1.length ((i:Int)*1048576)->
  (mo (r.1.drop i) i=true/\(∀j,i<=j->j<r.1.length->(bf r.1 j).length<=3000)->aw.l0 n r K k (i:Int) u o=K (bumps u ((r.1.drop i).flatMap aO)) (jL r.1))/\
  (¬(mo (r.1.drop i) i=true/\(∀j,i<=j->j<r.1.length->(bf r.1 j).length<=3000))->∃o',aw.l0 n r K k (i:Int) u o=some (o',false))
 |0,i,u,o,_,hk,_,_,_=>bH hk (JJ _)
 |k+1,i,u,o,hi,hk,hlow,ho,hu=>by
  have hE:=S.exps
  by_cases h:i<r.1.length
  ·have hke:=S.kids _ (JI h)
   have eg:r.1.getD i kX=r.1[i]:=by simp[h]
   have hl1:=λK'=>I2 n r i o r.1[i] hke K' r.1.length (by omega) (by omega) hu (by omega) hn
   have hfull:aw.l0 n r K (k+1) (i:Int) u o=if(r.1[i]).2.2.all (lz i)=true then
     (if decide ((r.1[i]).1=1)=true then
      aw.j2 n (i:Int) (r.1[i]).1 (decide ((r.1[i]).1=1)) r (bumps u (aO r.1[i])) o r.1[i] (λt41=>aw.j5 n (i:Int) t41 r (bumps u (aO r.1[i])) o r.1[i] (λt55=>aw.l0 n r K k (Js.wrap ((i:Int)+1)) (bumps u (aO r.1[i])) t55))
      else aw.j2 n (i:Int) (r.1[i]).1 (decide ((r.1[i]).1=3)) r (bumps u (aO r.1[i])) o r.1[i] (λt56=>aw.j5 n (i:Int) t56 r (bumps u (aO r.1[i])) o r.1[i] (λt57=>aw.l0 n r K k (Js.wrap ((i:Int)+1)) (bumps u (aO r.1[i])) t57)))
     else some (o,false):=by
    conv=>lhs;unfold aw.l0
    simp only[aE _ h];rw[ab (jq h),ab (inl' h),hl1]
   rw[hfull,JF h]
   by_cases hK:(r.1[i]).2.2.all (lz i)=true
   ·rw[ab hK]
    have hst:=Ek n r hn h ho S (u:=bumps u (aO r.1[i])) hK (λo'=>aw.l0 n r K k (Js.wrap ((i:Int)+1)) (bumps u (aO r.1[i])) o');rw[hst];have hlow':∀j,j<i+1->∀q∈aO (r.1.getD j kX),q<j:=by
     intro j hj q hq
     by_cases e:j=i
     ·subst e
      rw[eg]at hq;exact pX hK q hq
     ·exact hlow j (by omega) q hq
    have htx:bf r.1 i=mC (ey r.1) (bf r.1) r.1[i]:=by
     rw[← eg];exact zP λj hj=>hlow' j (by omega)
    rw[← htx];have hc:mo (r.1[i]::r.1.drop (i+1)) i=(Ch r.1[i]&&mo (r.1.drop (i+1)) (i+1)):=by simp[mo,zO,hK]
    have hfl:bumps u ((r.1[i]::r.1.drop (i+1)).flatMap aO)=bumps (bumps u (aO r.1[i])) ((r.1.drop (i+1)).flatMap aO):=by
     rw[LA,kJ]
    rw[hc,hfl,iX (by omega)]
    by_cases cE:Ch r.1[i]=true/\(bf r.1 i).length<=3000
    ·rw[ab cE]
     have hu2:=(hu.bumps _ (all_lt' (No h) hK)).mono (D:=((i+1:Nat):Int)*1048576) (by rw[Km];omega);have ho2:oW r.1 (o.set i (bt (bf r.1 i))) (i+1):=by
      refine⟨by rw[Mv];exact ho.1,λj hj=>?_⟩
      by_cases e:j=i
      ·subst e
       refine⟨?_,cE.2⟩;have:j<o.length:=by rw[ho.1];exact h
       simp[this]
      ·obtain⟨h1,h2⟩:=ho.2 j (by omega)
       refine⟨?_,h2⟩;rw[← h1];have:¬i=j:=λh=>e h.symm
       simp[Lk,Pe,this]
     obtain⟨p,q⟩:=El hn S K k (i+1) (bumps u (aO r.1[i])) _ (by omega) (by omega) hlow' ho2 hu2
     constructor
     ·rintro⟨h1,h2⟩
      rw[cE.1,KB]at h1;exact p ⟨h1,λj hj=>h2 j (by omega)⟩
     ·intro hn'
      refine q λ⟨h1,h2⟩=>hn' ⟨by rw[cE.1,KB];exact h1,λj hj hj2=>?_⟩
      by_cases e:j=i
      ·subst e;exact cE.2
      ·exact h2 j (by omega) hj2
    ·rw[ao cE]
     refine⟨λ⟨h1,h2⟩=>bH ⟨by rw[Jx]at h1;exact h1.1,h2 i (JS _) h⟩ cE,λ_=>⟨o,rfl⟩⟩
   ·rw[ao hK]
    refine⟨λ⟨h1,_⟩=>?_,λ_=>⟨o,rfl⟩⟩;simp only[mo,Jx]at h1;exact bH h1.1.1 hK
  ·obtain rfl:i=r.1.length:=by omega
   have hend:aw.l0 n r K (k+1) (r.1.length:Int) u o=K u o:=by
    conv=>lhs;unfold aw.l0
    rw[ao (by simp)]
   rw[hend,JH (JS _)];refine⟨λ_=>?_,λhn'=>bH ⟨rfl,λj h1 h2=>by omega⟩ hn'⟩;rw[Ej ho]
   rfl
theorem I7 (hn:1100000<=n)(hE:r.1.length<=1048576)(o:List ByteArray)(ts:List Ex){i:Nat}(hi:i<ts.length)(hk:(ts[i]).2.2.length<=1048576)(K:List Int->Option (List ByteArray×Bool)){C:Int}{u:List Int}(hu:Cnt u r.1.length C)(hC:C<=4000000000000):
  aw.l8 n (i:Int) o ts K n 0 u=if ym r.1.length ts[i]=true then K (bumps u (aO ts[i]))else some (o,false):=by
 have:=oT (λk j u=>aw.l8 n (i:Int) o ts K k j u) (ts[i]).2.2 r.1.length r.1.length (some (o,false)) K (JS _) (λk j u h hm hq=>by
   conv=>lhs;unfold aw.l8
   simp only[aE _ hi,aE _ h];rw[ab (inl' hi),ab (jq h),ab (inl' hi),ab (inl' h),hm,aK _ (by omega) (by omega),dW,vH,Jn,iX (by omega)]
   by_cases hin:lz r.1.length (ts[i]).2.2[j]=true
   ·obtain⟨h1,h2⟩:=oV hm (JS _) hin hq
    rw[hm]at h1;rw[ao (by simp[hin]),ab (inl' hi),ab (inl' h),ab h1,ab h1,h2,ab hin]
   ·rw[ab (by simpa using hin),ao hin]) (λk u=>by
   conv=>lhs;unfold aw.l8
   simp only[aE _ hi];rw[ab (inl' hi),ao (by simp)]) n 0 u C (JO _) (by omega) hu (by omega)
 rw[JW]at this;exact this
theorem Em (hn:1100000<=n)(hE:r.1.length<=1048576)(o:List ByteArray)(ts:List Ex)(hts:ts.length<=1048577)(hargs:∀l∈ts,l.2.2.length<=1048576)(K:List Int->Option (List ByteArray×Bool)):∀(k i:Nat) (u:List Int),i<=ts.length->ts.length - i<k->Cnt u r.1.length (1048576*1048576+(i:Int)*1048576)->
  aw.l7 n o ts K k (i:Int) u=if(ts.drop i).all (ym r.1.length)=true then K (bumps u ((ts.drop i).flatMap aO))else some (o,false)
 |0,i,u,_,hk,_=>bH hk (JJ _)
 |k+1,i,u,hi,hk,hu=>by
  by_cases h:i<ts.length
  ·have hle:=hargs _ (JI h)
   conv=>lhs;unfold aw.l7
   rw[ab (jq h),I7 n r hn hE o ts h hle _ hu (by omega),JF h,iX (by omega)]
   by_cases hA:ym r.1.length ts[i]=true
   ·have hu2:=(hu.bumps _ (pX (show(ts[i]).2.2.all (lz r.1.length)=true from hA))).mono (D:=1048576*1048576+((i+1:Nat):Int)*1048576) (by rw[Km];omega)
    have ih:=Em hn hE o ts hts hargs K k (i+1) _ (by omega) (by omega) hu2;rw[ab hA,Kz,hA,KB,LA,kJ];exact ih
   ·rw[ao hA,ao (λh'=>by rw[Kz,Jx]at h';exact hA h'.1)]
  ·obtain rfl:i=ts.length:=by omega
   conv=>lhs;unfold aw.l7
   rw[ao (by simp),JH (JS _)]
   rfl
theorem Eo (o:List ByteArray)(u:List Int)(hu:u.length<=1048576)(K:Unit->Option (List ByteArray×Bool)):∀(k i:Nat),i<=u.length->u.length - i<k->
  aw.l9 n u o K k (i:Int)=if((u.drop i).any λx=>!decide (x=1))=true then some (o,false)else K ()
 |0,i,_,hk=>bH hk (JJ _)
 |k+1,i,hi,hk=>by
  by_cases h:i<u.length
  ·conv=>lhs;unfold aw.l9
   simp only[aE _ h];rw[ab (jq h),ab (inl' h),JF h,MN]
   by_cases e:u[i]=1
   ·rw[ao (by simp[e]),iX (by omega),Eo o u hu K k (i+1) (by omega) (by omega),iW e]
    rfl
   ·rw[ab (by simp[e]),dq e]
    rfl
  ·conv=>lhs;unfold aw.l9
   rw[ao (kl h),JH (by omega)]
   rfl
def yb (r:Ru):Prop:=r.1.length<=60/\mo r.1 0=true/\(∀j,j<r.1.length->(bf r.1 j).length<=3000)/\(dV r).all (ym r.1.length)=true/\((nN r).any λx=>!decide (x=1))=false
theorem G5 (hn:1100000<=n)(S:I6 r):(yb r->aw.F n r=some (jL r.1,true))/\(¬yb r->∃o,aw.F n r=some (o,false)):=by
 have hE:=S.exps;have hB:=S.body;unfold aw.F yb
 by_cases c60:r.1.length<=60
 ·rw[ao (by simp;omega)]
  have hr:(0:Int)<=(r.1.length:Int)/\(r.1.length:Int)<=(r.1.length:Int)/\(r.1.length:Int)<=(aT:Int):=⟨by omega,Int.le_refl _,by simp[aT];omega⟩;rw[ab hr,ab hr,JQ];have h0:Cnt (Ko r.1.length (0:Int)) r.1.length (((0:Nat):Int)*1048576):=⟨by simp,λq=>by
   rw[Lk,NY]
   split<;>simp⟩
  have hl0:=λK=>El n r hn S K n 0 (Ko r.1.length 0) (Ko r.1.length Jo) (JO _) (by omega) (λj hj=>bH hj (JJ _)) ⟨by simp,λj hj=>bH hj (JJ _)⟩ h0
  simp only[show((0:Nat):Int)=0 from rfl,JW,JO,true_implies]at hl0
  by_cases cE:mo r.1 0=true/\∀j,j<r.1.length->(bf r.1 j).length<=3000
  ·rw[(hl0 _).1 cE,ab (by simp[aT];omega)]
   have hk:∀k∈r.1.flatMap aO,k<r.1.length:=by
    intro k hk;obtain⟨e,he,hk⟩:=Mn.1 hk;obtain⟨i,hi,rfl⟩:=LC.1 he;have:=pX (show r.1[i].2.2.all (lz i)=true by have:=(lT.1 cE.1 i hi).1;rwa [Lj]at this) k hk;omega
   have hC:((r.1.flatMap aO).length:Int)<=1048576*1048576:=by
    have:∀l:List Ex,(∀e∈l,e.2.2.length<=1048576)->(l.flatMap aO).length<=l.length*1048576:=by
     intro l
     induction l with
     |nil=>intro _;simp
     |cons e l ih=>
      intro h;have h1:=ih λx hx=>h x (JP _ hx)
      have h2:=h e JL;rw[LA,Jv,Ju];have:(aO e).length=e.2.2.length:=Km ..;omega
    have h1:=this r.1 S.kids;have:r.1.length*1048576<=1048576*1048576:=Kg _ hE;omega
   have hu:=(Cnt.bumps h0 _ hk).mono (D:=1048576*1048576+((0:Nat):Int)*1048576) (by omega);have e7:=λK=>Em n r hn hE (jL r.1) ([r.2.1]++r.2.2) (by simp;omega) S.args K n 0 _ (JO _) (by simp;omega) hu
   simp only[show((0:Nat):Int)=0 from rfl,JW]at e7;rw[e7,show [r.2.1]++r.2.2=dV r from rfl]
   by_cases cA:(dV r).all (ym r.1.length)=true
   ·rw[ab cA]
    have hul:(bumps (bumps (Ko r.1.length 0) (r.1.flatMap aO)) ((dV r).flatMap aO)).length<=1048576:=by rw[jU,jU];simp;omega
    have e9:=λK=>Eo n (jL r.1) _ hul K n 0 (JO _) (by omega)
    simp only[show((0:Nat):Int)=0 from rfl,JW]at e9;rw[e9];have hU:bumps (bumps (Ko r.1.length 0) (r.1.flatMap aO)) ((dV r).flatMap aO)=nN r:=rfl;rw[hU]
    by_cases cu:((nN r).any λx=>!decide (x=1))=true
    ·rw[ab cu]
     exact⟨λh=>by rw[cu]at h;exact bH h.2.2.2.2 (by simp),λ_=>⟨_,rfl⟩⟩
    ·rw[ao cu]
     exact⟨λ_=>rfl,λh=>bH ⟨c60,cE.1,cE.2,cA,by simpa using cu⟩ h⟩
   ·rw[ao cA]
    exact⟨λh=>bH h.2.2.2.1 cA,λ_=>⟨_,rfl⟩⟩
  ·obtain⟨o',ho'⟩:=(hl0 (λt58 t59=>
    if Jp [r.2.1]+Jp r.2.2<=aT then
    aw.l7 n t59 ([r.2.1]++r.2.2) (λt72=>
    aw.l9 n t72 t59 (λ_=>
    some (t59,true)) n 0) n 0 t58
    else
    none)).2 cE
   exact⟨λh=>bH ⟨h.2.1,h.2.2.1⟩ cE,λ_=>⟨o',ho'⟩⟩
 ·rw[ab (by simp;omega)]
  exact⟨λh=>bH h.1 c60,λ_=>⟨_,rfl⟩⟩
end
theorem Bc {E:List Ex}(h:∀j,j<E.length->(bf E j).length<=3000):oW E (jL E) E.length:=
 ⟨by simp[jL],λj hj=>⟨by simp[jL,hj],h j hj⟩⟩
section
variable (n:Nat) (r:Ru)
theorem Ep {o:List ByteArray}(ho:oW r.1 o r.1.length)(e:Ex)(hk:e.2.2.length<=1048576)(hin:e.2.2.all (lz r.1.length)=true)(K:ByteArray->Option (ByteArray×Bool)):∀(k j:Nat) (s:By),j<=e.2.2.length->e.2.2.length - j<k->1<=j->
  s.length+(e.2.2.length - j)*3002<=4000000000->dc.l1 n o e K k (bt s) (j:Int)=K (bt (s++jE [44,32] (((aO e).drop j).map (bf r.1))))
 |0,j,s,_,hj,_,_=>bH hj (JJ _)
 |k+1,j,s,hj,hk1,h1,hs=>by
  have hkn:(aO e).length=e.2.2.length:=Km ..
  by_cases h:j<e.2.2.length
  ·have hm:=Kc.1 hin _ (JI h)
   obtain⟨g1,g2,g3⟩:=jD r ho hm (JS _);have hkj:(aO e).drop j=e.2.2[j].toNat::(aO e).drop (j+1):=by
    rw[JF (by omega)]
    simp[aO]
   have hb:s.length+3002<=4000000000:=by
    have:1*3002<=(e.2.2.length - j)*3002:=Kg _ (by omega);omega
   conv=>lhs;unfold dc.l1
   simp only[aE _ h];rw[ab (jq h),ab (by simp;omega),show(⟨#[44,32]⟩:ByteArray)=bt [44,32]from rfl,ab (by simp only[ah,Ju,Jz,aT];omega),ab (inl' h),ab g1,g2,
    ab (by simp only[ap,ah,Jv,Ju,Jz,aT];omega),ap,ap,iX (by omega),
    Ep ho e hk hin K k (j+1) _ (by omega) (by omega) (by omega) (by
     simp only[Jv,Ju,Jz];have:(e.2.2.length - j)*3002=(e.2.2.length - (j+1))*3002+3002:=by
      rw[show e.2.2.length - j=(e.2.2.length - (j+1))+1 by omega,KH,Lf]
     omega),hkj,JK,mq]
   simp only[JY]
  ·conv=>lhs;unfold dc.l1
   rw[ao (kl h),JH (by omega)]
   simp[jE]
theorem yc (E:List Ex):∀ks:List Nat,(∀k∈ks,(bf E k).length<=3000)->(jE [44,32] (ks.map (bf E))).length<=ks.length*3002
 |[],_=>JO _
 |k::ks,h=>by
  have h1:=yc E ks λx hx=>h x (JP _ hx)
  have h2:=h k JL;rw[JK,mq];simp only[Jv,Ju,Jz,KH,Lf];omega
theorem Cl {o:List ByteArray}(ho:oW r.1 o r.1.length){e:Ex}(hk:e.2.2.length<=1048576)(hin:e.2.2.all (lz r.1.length)=true):(KE ((aO e).map (bf r.1)) [44,32]).length<=3147826000:=by
 have hall:∀k∈aO e,(bf r.1 k).length<=3000:=λk hk=>by
  obtain⟨x,hx,rfl⟩:=Lh.1 hk;exact(jD r ho (Kc.1 hin x hx) (JS _)).2.2
 have hkn:(aO e).length=e.2.2.length:=Km ..;cases hq:aO e with
 |nil=>simp[Lib.join_nil]
 |cons a l=>
  rw[JK,kN,Jv];have h1:=yc r.1 l λk hk=>hall k (by rw[hq];exact JP _ hk)
  have h2:=hall a (by rw[hq];exact JL);rw[hq,Ju]at hkn;have h3:l.length*3002<=1048575*3002:=Kg _ (by omega);omega
theorem G6 (hn:1100000<=n){o:List ByteArray}(ho:oW r.1 o r.1.length)(e:Ex)(hk:e.2.2.length<=1048576)(hin:e.2.2.all (lz r.1.length)=true)(K:ByteArray->Option (ByteArray×Bool))(s:By)(hs:s.length<=9000000):
  dc.l1 n o e K n (bt s) 0=K (bt (s++KE ((aO e).map (bf r.1)) [44,32])):=by
 obtain⟨n',rfl⟩:∃n',n=n'+1:=⟨n - 1,by omega⟩
 by_cases hne:e.2.2=[]
 ·conv=>lhs;unfold dc.l1
  rw[ao (by simp[hne])];have:aO e=[]:=by unfold aO;rw[hne];rfl
  rw[this]
  simp[Lib.join_nil]
 ·obtain⟨a,l,hq⟩:=NJ hne
  have h0:0<e.2.2.length:=Lw.2 hne;have ha:=Kc.1 hin a (by rw[hq];simp);obtain⟨g1,g2,g3⟩:=jD r ho ha (JS _);have hN:aO e=a.toNat::l.map Jr:=by unfold aO;rw[hq];rfl
  have ga:Jt e.2.2 (Jr 0) 0=a:=by rw[hq];rfl
  conv=>lhs;unfold dc.l1
  rw[ga,ab (by simp;omega),ao (by simp),ab (by omega),ab g1,g2,ab (by simp only[ap,ah,Jv,aT];omega),ap,show Js.wrap ((0:Int)+1)=((1:Nat):Int)from rfl];rw[Ep (n'+1) r ho e hk hin K n' 1 _ (by omega) (by omega) (JS _) (by
   simp only[Jv];have:(e.2.2.length - 1)*3002<=1048576*3002:=Kg _ (by omega)
   omega),hN]
  simp only[Oz,JW,JK,kN,JY]
theorem yd (hn:1100000<=n){o:List ByteArray}(ho:oW r.1 o r.1.length)(l:Ex)(hname:l.2.1.size<=8000000)(hk:l.2.2.length<=1048576)(hA:ym r.1.length l=true):
  (vG l=true->dc.F n l o=some (bt (ez r.1 l),true)/\(ez r.1 l).length<=3200000000)/\(¬vG l=true->∃s,dc.F n l o=some (s,false)):=by
 have hin:l.2.2.all (lz r.1.length)=true:=hA;have e1:l.2.1=bt l.2.1.data.toList:=jl _;have es:l.2.1.data.toList.length<=8000000:=hname;have hj:=Cl r ho hk hin;have hkL:vG l=true↔(1<=l.1/\l.1<=3)/\(l.1=3->l.2.2.length=2):=by
  unfold vG;simp only[Jx,dg,Lm,LY,vJ]
  constructor
  ·rintro⟨h1,h2⟩
   exact⟨h1,λe=>h2.resolve_left (λh=>h e)⟩
  ·rintro⟨h1,h2⟩
   refine⟨h1,?_⟩
   by_cases h3:l.1=3
   ·exact .inr (h2 h3)
   ·exact .inl h3
 unfold dc.F ez
 by_cases c3:l.1=3
 ·rw[ab (by simp[c3]),ab c3]
  by_cases hl:l.2.2.length=2
  ·rw[ao (by simp[hl])]
   refine⟨λ_=>?_,λh=>bH (hkL.2 ⟨by omega,λ_=>hl⟩) h⟩
   match hab:l.2.2,hl with
   |[a,b],_=>
    have ha:=Kc.1 hin a (by rw[hab];simp);have hb:=Kc.1 hin b (by rw[hab];simp);obtain⟨a1,a2,a3⟩:=jD r ho ha (JS _);obtain⟨b1,b2,b3⟩:=jD r ho hb (JS _);have hN:aO l=[a.toNat,b.toNat]:=by unfold aO;rw[hab];rfl
    rw[hN,show Jt [a,b] 0 0=a from rfl,show Jt [a,b] 1 0=b from rfl,a2,b2,e1,show(⟨#[32]⟩:ByteArray)=bt [32]from rfl,ab (by simp),ab a1,
     ab (by simp only[ah,Ju,Jz,aT];omega),ab (by simp only[ap,ah,Jv,Ju,Jz,aT];omega),
     ab (by simp only[ap,ah,Jv,Ju,Jz,aT];omega),ab (by simp),ab b1,ab (by simp only[ap,ah,Jv,Ju,Jz,aT];omega)]
    simp only[ap,ek,true_and];simp only[Jv,Ju,Jz];omega
  ·have:¬(l.2.2.length:Int)=2:=by omega
   rw[ab (by simp[this])];exact⟨λh=>bH ((hkL.1 h).2 c3) hl,λ_=>⟨_,rfl⟩⟩
 ·rw[ao (by simpa using c3),ao c3,e1,show(⟨#[40]⟩:ByteArray)=bt [40]from rfl,show(⟨#[33]⟩:ByteArray)=bt [33]from rfl,ab (by simp only[ah,Ju,Jz,aT];omega)]
  have hj0:∀(s:By),s.length<=9000000->dc.j0 n o (bt s) l=some (bt (s++KE ((aO l).map (bf r.1)) [44,32]++[41]),if(decide (l.1=1))=false then decide (l.1=2)else true):=by
   intro s hs;unfold dc.j0;rw[G6 n r hn ho l hk hin _ s hs,show(⟨#[41]⟩:ByteArray)=bt [41]from rfl,ab (by simp only[ah,Jv,Ju,Jz,aT];omega),ap];cases decide (l.1=1)<;>rfl
  have hj0':∀(s:By),s.length<=9000000->dc.j0 n o (bt s) (l.1,(bt l.2.1.data.toList,l.2.2))=some (bt (s++KE ((aO l).map (bf r.1)) [44,32]++[41]),if(decide (l.1=1))=false then decide (l.1=2)else true):=by
   intro s hs;have:=hj0 s hs;rw[← e1];exact this
  simp only[ap,ek,ah]
  by_cases c2:l.1=2
  ·rw[ab (by simp[c2]),ab (by simp only[Jv,Ju,Jz,aT];omega),hj0 _ (by simp only[Jv,Ju,Jz];omega),ab c2]
   refine⟨λ_=>⟨?_,?_⟩,λh=>bH (hkL.2 ⟨by omega,λh=>bH h c3⟩) h⟩
   ·simp[c2,JY]
   ·simp only[Jv,Ju,Jz]
    omega
  ·rw[ao (by simpa using c2),hj0 _ (by simp only[Jv,Ju,Jz];omega),ao c2]
   by_cases c1:l.1=1
   ·refine⟨λ_=>⟨?_,?_⟩,λh=>bH (hkL.2 ⟨by omega,λh=>bH h c3⟩) h⟩
    ·simp[c1]
    ·simp only[Jv,Ju,Jz]
     omega
   ·refine⟨λh=>?_,λ_=>⟨bt (l.2.1.data.toList++[40]++KE ((aO l).map (bf r.1)) [44,32]++[41]),?_⟩⟩
    ·have:=(hkL.1 h).1
     omega
    ·simp[c1,c2]
def tB:List By->By
 |[]=>[]
 |x::l=>[32,58,45,32]++x++jE [44,32] l
theorem ye (r:Ru):jK r=ez r.1 r.2.1++tB (r.2.2.map (ez r.1))++[46]:=by
 unfold jK;cases hq:r.2.2 with
 |nil=>simp[tB]
 |cons l ls=>simp[tB,kN]
theorem G7 (l:List By)(x:By):tB (l++[x])=tB l++(if l=[]then [32,58,45,32]else [44,32])++x:=by
 cases l with
 |nil=>simp[tB,jE]
 |cons y l=>simp[tB,jE]
theorem I8 (l m:List By):∃t,tB (l++m)=tB l++t:=by
 cases l with
 |nil=>exact⟨tB m,by simp[tB]⟩
 |cons x l=>exact⟨jE [44,32] m,by simp[tB,jE]⟩
theorem Er (hn:1100000<=n)(S:I6 r)(hA:yb r)(hb3:r.2.2.length<=3000)(hh:r.2.1.1=1)(hokH:vG r.2.1=true):∀(k j:Nat),j<=r.2.2.length->r.2.2.length - j<k->(∀i (h:i<r.2.2.length),i<j->vG r.2.2[i]=true)->
  (ez r.1 r.2.1++tB ((r.2.2.take j).map (ez r.1))).length<=3200004000->
  bN.l1 n (jL r.1) r (λt24=>
   if Jq t24+Jq ⟨#[46]⟩<=aT then
   if decide ((Jq (t24++⟨#[46]⟩):Int)>3000)=true then
   some Jo
   else
   some (t24++⟨#[46]⟩)
   else
   none) k (bt (ez r.1 r.2.1++tB ((r.2.2.take j).map (ez r.1)))) (j:Int)=some (fP r)
 |0,j,_,hj,_,_=>bH hj (JJ _)
 |k+1,j,hj,hk,hok,hlen=>by
  have ho:=Bc hA.2.2.1;have hend:∀s:By,s.length<=3200004000->(if Jq (bt s)+Jq ⟨#[46]⟩<=aT then
   if decide ((Jq (bt s++⟨#[46]⟩):Int)>3000)=true then
   some Jo
   else
   some (bt s++⟨#[46]⟩)
   else
   none)=some (if(s++[46]).length<=3000 then bt (s++[46])else Jo):=by
   intro s hs;rw[show(⟨#[46]⟩:ByteArray)=bt [46]from rfl,ab (by simp only[ah,Ju,Jz,aT];omega),ap,ah]
   by_cases h:(s++[46]).length<=3000
   ·rw[ao (by rw[dg];omega),ab h]
   ·rw[ab (by rw[dg];omega),ao h]
  have hform:(∀i (h:i<r.2.2.length),vG r.2.2[i]=true)->qt r=true:=by
   intro hall;rw[jV];refine⟨hA.1,λi h=>by have:=lT.1 hA.2.1 i h;rwa [Lj]at this,hh,λl hl=>?_,λx hx=>?_⟩
   ·refine⟨?_,Kc.1 hA.2.2.2.1 l hl⟩
    rcases JV.1 hl with rfl|hl
    ·exact hokH
    ·obtain⟨i,hi,rfl⟩:=LC.1 hl
     exact hall i hi
   ·have:=Mm.1 hA.2.2.2.2 x hx
    simpa using this
  conv=>lhs;unfold bN.l1
  by_cases h:j<r.2.2.length
  ·rw[ab (jq h)]
   by_cases hs:(ez r.1 r.2.1++tB ((r.2.2.take j).map (ez r.1))).length<=3000
   ·rw[ab (by rw[ah,dg];omega)]
    have hmem:r.2.2[j]∈dV r:=JP _ (JI h);obtain⟨l1,l2⟩:=yd n r hn ho r.2.2[j] (S.name _ hmem) (S.args _ hmem) (Kc.1 hA.2.2.2.1 _ hmem);have hj3:∀(s:By) (Kn:ByteArray->Option ByteArray),s.length<=3004->(vG r.2.2[j]=true->bN.j3 n (jL r.1) (bt s) (j:Int) r Kn=Kn (bt (s++ez r.1 r.2.2[j])))/\(¬vG r.2.2[j]=true->bN.j3 n (jL r.1) (bt s) (j:Int) r Kn=some Jo):=by
     intro s Kn hs;unfold bN.j3;simp only[aE _ h];rw[ab (inl' h)]
     constructor
     ·intro hk
      obtain⟨e1,e2⟩:=l1 hk;rw[e1,Jn,ao (by simp),ab (by simp only[ah,aT];omega),ap]
     ·intro hk
      obtain⟨s',e1⟩:=l2 hk;rw[e1,Jn,ab (by simp)]
    have hsep:bN.j2 n (jL r.1) (bt (ez r.1 r.2.1++tB ((r.2.2.take j).map (ez r.1)))) (j:Int) r (λt22 t23=>bN.l1 n (jL r.1) r (λt24=>
      if Jq t24+Jq ⟨#[46]⟩<=aT then
      if decide ((Jq (t24++⟨#[46]⟩):Int)>3000)=true then
      some Jo
      else
      some (t24++⟨#[46]⟩)
      else
      none) k t22 t23)=bN.j3 n (jL r.1) (bt (ez r.1 r.2.1++tB ((r.2.2.take j).map (ez r.1))++(if(r.2.2.take j).map (ez r.1)=[]then [32,58,45,32]else [44,32]))) (j:Int) r (λt=>bN.l1 n (jL r.1) r (λt24=>
      if Jq t24+Jq ⟨#[46]⟩<=aT then
      if decide ((Jq (t24++⟨#[46]⟩):Int)>3000)=true then
      some Jo
      else
      some (t24++⟨#[46]⟩)
      else
      none) k t ((j+1:Nat):Int)):=by
     unfold bN.j2;rw[iX (by omega)]
     by_cases hj0:j=0
     ·subst hj0
      rw[ab (by simp),show(⟨#[32,58,45,32]⟩:ByteArray)=bt [32,58,45,32]from rfl,ab (by simp only[ah,Ju,Jz,aT];omega),ap,ab (by simp)]
     ·have hne:¬(r.2.2.take j).map (ez r.1)=[]:=by
       intro e;have:((r.2.2.take j).map (ez r.1)).length=0:=by rw[e];rfl
       rw[Km,Lg]at this;omega
      rw[ao (by simp;omega),show(⟨#[44,32]⟩:ByteArray)=bt [44,32]from rfl,ab (by simp only[ah,Ju,Jz,aT];omega),ap,ao hne]
    rw[hsep];obtain⟨q1,q2⟩:=hj3 (ez r.1 r.2.1++tB ((r.2.2.take j).map (ez r.1))++(if(r.2.2.take j).map (ez r.1)=[]then [32,58,45,32]else [44,32])) (λt=>bN.l1 n (jL r.1) r (λt24=>
      if Jq t24+Jq ⟨#[46]⟩<=aT then
      if decide ((Jq (t24++⟨#[46]⟩):Int)>3000)=true then
      some Jo
      else
      some (t24++⟨#[46]⟩)
      else
      none) k t ((j+1:Nat):Int)) (by
     rw[Jv]
     split<;>simp only[Ju,Jz]<;>omega)
    by_cases hk':vG r.2.2[j]=true
    ·rw[q1 hk']
     have hst:ez r.1 r.2.1++tB ((r.2.2.take j).map (ez r.1))++(if(r.2.2.take j).map (ez r.1)=[]then [32,58,45,32]else [44,32])++ez r.1 r.2.2[j]=ez r.1 r.2.1++tB ((r.2.2.take (j+1)).map (ez r.1)):=by
      rw[JE h,Kx,JK,KG,G7];simp only[JY]
     rw[hst];refine Er hn S hA hb3 hh hokH k (j+1) (by omega) (by omega) (λi hi hij=>?_) ?_
     ·by_cases e:i=j
      ·subst e;exact hk'
      ·exact hok i hi (by omega)
     ·rw[← hst]
      have:=(l1 hk').2;simp only[Jv]at hs⊢
      split<;>simp only[Ju,Jz]<;>omega
    ·rw[q2 hk']
     unfold fP;rw[ao];rintro⟨hf,_⟩;exact hk' ((jV.1 hf).lits _ hmem).1
   ·rw[ao (by rw[ah,dg];omega),hend _ hlen,ao (by simp only[Jv]at hs⊢;omega)]
    unfold fP;rw[ao];rintro⟨_,hl⟩;rw[ye]at hl;obtain⟨t,ht⟩:=I8 ((r.2.2.take j).map (ez r.1)) ((r.2.2.drop j).map (ez r.1));rw[← Kx,KP]at ht;rw[ht]at hl;simp only[Jv]at hl hs;omega
  ·have hj':j=r.2.2.length:=by omega
   rw[ao (kl h),hend _ hlen];have hf:=hform λi hi=>hok i hi (by omega)
   have e:(r.2.2.take j)=r.2.2:=JR (by omega);rw[e,← ye];unfold fP
   by_cases hl:(jK r).length<=3000
   ·rw[ab hl,ab ⟨hf,hl⟩]
   ·rw[ao hl,ao (λhh=>hl hh.2)]
theorem yf (hn:1100000<=n)(S:I6 r):bN.F n r=some (fP r):=by
 have hB:=S.body;have hneg:¬(qt r=true/\(jK r).length<=3000)->fP r=Jo:=λh=>by unfold fP;rw[ao h]
 unfold bN.F
 by_cases c3:r.2.2.length<=3000
 ·rw[ao (by simp;omega)]
  obtain⟨p,q⟩:=G5 n r hn S
  by_cases cA:yb r
  ·rw[p cA,Jn,ao (by simp)]
   have ho:=Bc cA.2.2.1;have hmem:r.2.1∈dV r:=JL;obtain⟨l1,l2⟩:=yd n r hn ho r.2.1 (S.name _ hmem) (S.args _ hmem) (Kc.1 cA.2.2.2.1 _ hmem)
   by_cases hk:vG r.2.1=true
   ·obtain⟨e1,e2⟩:=l1 hk
    rw[e1,Jn,ab (by simp)]
    by_cases c1:r.2.1.1=1
    ·rw[ao (by simp[c1])]
     unfold bN.j0;have:=Er n r hn S cA c3 c1 hk n 0 (JO _) (by omega) (λi _ h=>bH h (JJ _)) (by simp[tB];omega);simp only[KD,KG,tB,Ky,show((0:Nat):Int)=0 from rfl]at this;exact this
    ·rw[ab (by simp[c1]),hneg λh=>c1 (jV.1 h.1).head]
   ·obtain⟨s,e1⟩:=l2 hk
    rw[e1,Jn,ao (by simp),hneg λh=>hk ((jV.1 h.1).lits _ hmem).1]
  ·obtain⟨o,e⟩:=q cA
   rw[e,Jn,ab (by simp),hneg];rintro⟨hf,hl⟩;have F:=jV.1 hf;refine cA ⟨F.few,lT.2 λj h=>by rw[Lj];exact F.exps j h,λj hj=>Mb (Ec F.form hj) hl,Kc.2 λl hl=>(F.lits l hl).2,?_⟩;rw[Mm];intro x hx;simpa using F.once x hx
 ·rw[ab (by simp;omega),hneg]
  rintro⟨hf,hl⟩;have:=B4 (jV.1 hf).form;omega
end
theorem seq_dec (a b:ByteArray):Abs.seq a b=decide (a=b):=by
 rw[jl a,jl b,ge]
 by_cases h:a.data.toList=b.data.toList
 ·rw[h];simp
 ·have:¬bt a.data.toList=bt b.data.toList:=λe=>h (by have:=congrArg (λx=>x.data.toList) e;simpa[ek]using this)
  rw[dq this,beq_eq_false_iff_ne];exact h
theorem sX {α:Type}{x y:α}{l m:List α}:x::l=y::m↔x=y/\l=m:=⟨λh=>by cases h;exact⟨rfl,rfl⟩,λ⟨h1,h2⟩=>by rw[h1,h2]⟩
theorem dO {α:Type} [DecidableEq α](x y:α)(l m:List α):decide (x::l=y::m)=(decide (x=y)&&decide (l=m)):=by
 by_cases h1:x=y<;>by_cases h2:l=m<;>simp[h1,h2]
section
variable (n:Nat) (hn:1100000<=n)
theorem sY (a b:List Int)(hab:a.length=b.length)(ha:a.length<=1048576):∀(k i:Nat),i<=a.length->a.length - i<k->eE.l0 n a b (λ_=>some true) k (i:Int)=some (decide (a.drop i=b.drop i))
 |0,i,_,hk=>bH hk (JJ _)
 |k+1,i,hi,hk=>by
  by_cases h:i<a.length
  ·have h2:i<b.length:=by omega
   conv=>lhs;unfold eE.l0
   rw[ab (jq h),ab (inl' h),ab (inl' h2),aE _ h,aE _ h2,JF h,JF h2]
   by_cases e:a[i]=b[i]
   ·rw[ao (by simp[e]),iX (by omega),sY a b hab ha k (i+1) (by omega) (by omega),dO,iW e,KB]
   ·rw[ab (by simp[e]),dO,dq e,LD]
  ·conv=>lhs;unfold eE.l0
   rw[ao (kl h),JH (by omega),JH (by omega)]
   rfl
theorem qw (hn:1100000<=n)(a b:List Int)(ha:a.length<=1048576):eE.F n a b=some (decide (a=b)):=by
 unfold eE.F
 by_cases hab:a.length=b.length
 ·rw[ao (by simp[hab])]
  have:=sY n a b hab ha n 0 (JO _) (by omega);rw[show((0:Nat):Int)=0 from rfl,JW,JW]at this;exact this
 ·have:¬(a.length:Int)=(b.length:Int):=by omega
  rw[ab (by simp[this]),dq (λe=>hab (by rw[e]))]
theorem sZ (a b:List Int)(hab:a.length=b.length)(ha:a.length<=1048576):∀(k i:Nat),i<=a.length->a.length - i<k->ch.l0 n a b (a.length:Int) (λ_=>some true) k (i:Int)=some (decide (a.drop i=b.drop i))
 |0,i,_,hk=>bH hk (JJ _)
 |k+1,i,hi,hk=>by
  by_cases h:i<a.length
  ·have h2:i<b.length:=by omega
   conv=>lhs;unfold ch.l0
   rw[ab (jq h),ab (inl' h),ab (inl' h2),aE _ h,aE _ h2,JF h,JF h2]
   by_cases e:a[i]=b[i]
   ·rw[ao (by simp[e]),iX (by omega),sZ a b hab ha k (i+1) (by omega) (by omega),dO,iW e,KB]
   ·rw[ab (by simp[e]),dO,dq e,LD]
  ·conv=>lhs;unfold ch.l0
   rw[ao (kl h),JH (by omega),JH (by omega)]
   rfl
theorem qx (hn:1100000<=n)(a b:List Int)(ha:a.length<=1048576):ch.F n a b=some (decide (a=b)):=by
 unfold ch.F
 by_cases hab:a.length=b.length
 ·rw[ao (by simp[hab])]
  have:=sZ n a b hab ha n 0 (JO _) (by omega);rw[show((0:Nat):Int)=0 from rfl,JW,JW]at this;exact this
 ·have:¬(a.length:Int)=(b.length:Int):=by omega
  rw[ab (by simp[this]),dq (λe=>hab (by rw[e]))]
theorem oX (x y:Ex):decide (x=y)=(decide (x.1=y.1)&&(decide (x.2.1=y.2.1)&&decide (x.2.2=y.2.2))):=by
 obtain⟨a,b,c⟩:=x;obtain⟨d,e,f⟩:=y
 by_cases h1:a=d<;>by_cases h2:b=e<;>by_cases h3:c=f<;>simp[h1,h2,h3]
theorem ta (hn:1100000<=n)(x y:Ex)(hx:x.2.2.length<=1048576):fG.F n x y=some (decide (x=y)):=by
 unfold fG.F;rw[qw n hn _ _ hx,seq_dec,oX];cases decide (x.1=y.1)<;>cases decide (x.2.1=y.2.1)<;>cases decide (x.2.2=y.2.2)<;>rfl
theorem tc (hn:1100000<=n)(x y:Ex)(hx:x.2.2.length<=1048576):gY.F n x y=some (decide (x=y)):=by
 unfold gY.F;rw[qx n hn _ _ hx,seq_dec,oX];cases decide (x.1=y.1)<;>cases decide (x.2.1=y.2.1)<;>cases decide (x.2.2=y.2.2)<;>rfl
theorem zQ (hn:1100000<=n)(x y:Ex)(hx:x.2.2.length<=1048576):fD.F n x y=some (decide (x=y)):=by
 unfold fD.F;rw[qx n hn _ _ hx,seq_dec,oX];cases decide (x.1=y.1)<;>cases decide (x.2.1=y.2.1)<;>cases decide (x.2.2=y.2.2)<;>rfl
theorem Es (a b:List Ex)(f:Ex×Ex×Unit->Option Bool)(hf:∀x∈a,∀y,f (x,y,())=some (decide (x=y)))(hab:a.length=b.length)(ha:a.length<=1048576):∀(k i:Nat),i<=a.length->a.length - i<k->bv.l0 n b f a (a.length:Int) (λ_=>some true) k (i:Int)=some (decide (a.drop i=b.drop i))
 |0,i,_,hk=>bH hk (JJ _)
 |k+1,i,hi,hk=>by
  by_cases h:i<a.length
  ·have h2:i<b.length:=by omega
   conv=>lhs;unfold bv.l0
   rw[ab (jq h),ab (inl' h),ab (inl' h2),aE _ h,aE _ h2,hf _ (JI h),Jn,JF h,JF h2]
   by_cases e:a[i]=b[i]
   ·rw[ao (by simp[e]),iX (by omega),Es a b f hf hab ha k (i+1) (by omega) (by omega),dO,iW e,KB]
   ·rw[ab (by simp[e]),dO,dq e,LD]
  ·conv=>lhs;unfold bv.l0
   rw[ao (kl h),JH (by omega),JH (by omega)]
   rfl
theorem G8 (hn:1100000<=n)(a b:List Ex)(f:Ex×Ex×Unit->Option Bool)(hf:∀x∈a,∀y,f (x,y,())=some (decide (x=y)))(ha:a.length<=1048576):bv.F n a b f=some (decide (a=b)):=by
 unfold bv.F
 by_cases hab:a.length=b.length
 ·rw[ao (by simp[hab])]
  have:=Es n a b f hf hab ha n 0 (JO _) (by omega);rw[show((0:Nat):Int)=0 from rfl,JW,JW]at this;exact this
 ·have:¬(a.length:Int)=(b.length:Int):=by omega
  rw[ab (by simp[this]),dq (λe=>hab (by rw[e]))]
theorem Et (a b:List Ex)(f:Ex×Ex×Unit->Option Bool)(hf:∀x∈a,∀y,f (x,y,())=some (decide (x=y)))(hab:a.length=b.length)(ha:a.length<=1048576):∀(k i:Nat),i<=a.length->a.length - i<k->bq.l0 n b f a (a.length:Int) (λ_=>some true) k (i:Int)=some (decide (a.drop i=b.drop i))
 |0,i,_,hk=>bH hk (JJ _)
 |k+1,i,hi,hk=>by
  by_cases h:i<a.length
  ·have h2:i<b.length:=by omega
   conv=>lhs;unfold bq.l0
   rw[ab (jq h),ab (inl' h),ab (inl' h2),aE _ h,aE _ h2,hf _ (JI h),Jn,JF h,JF h2]
   by_cases e:a[i]=b[i]
   ·rw[ao (by simp[e]),iX (by omega),Et a b f hf hab ha k (i+1) (by omega) (by omega),dO,iW e,KB]
   ·rw[ab (by simp[e]),dO,dq e,LD]
  ·conv=>lhs;unfold bq.l0
   rw[ao (kl h),JH (by omega),JH (by omega)]
   rfl
theorem G9 (hn:1100000<=n)(a b:List Ex)(f:Ex×Ex×Unit->Option Bool)(hf:∀x∈a,∀y,f (x,y,())=some (decide (x=y)))(ha:a.length<=1048576):bq.F n a b f=some (decide (a=b)):=by
 unfold bq.F
 by_cases hab:a.length=b.length
 ·rw[ao (by simp[hab])]
  have:=Et n a b f hf hab ha n 0 (JO _) (by omega);rw[show((0:Nat):Int)=0 from rfl,JW,JW]at this;exact this
 ·have:¬(a.length:Int)=(b.length:Int):=by omega
  rw[ab (by simp[this]),dq (λe=>hab (by rw[e]))]
theorem yg (x y:Ru):decide (x=y)=(decide (x.1=y.1)&&(decide (x.2.1=y.2.1)&&decide (x.2.2=y.2.2))):=by
 obtain⟨a,b,c⟩:=x;obtain⟨d,e,f⟩:=y
 by_cases h1:a=d<;>by_cases h2:b=e<;>by_cases h3:c=f<;>simp[h1,h2,h3]
theorem qy (hn:1100000<=n)(a b:Ru)(S:pb a):fk.F n a b=some (decide (a=b)):=by
 unfold fk.F;rw[tc n hn _ _ (S.args _ JL),G8 n hn _ _ _ (λx hx y=>by
  show((gY.F n x y).bind some)=_;rw[tc n hn x y (S.args _ (JP _ hx))]
  rfl) S.body,G9 n hn _ _ _ (λx hx y=>by
  show((fD.F n x y).bind some)=_;rw[zQ n hn x y (S.kids _ hx)]
  rfl) S.exps,yg]
 cases decide (a.1=b.1)<;>cases decide (a.2.1=b.2.1)<;>cases decide (a.2.2=b.2.2)<;>rfl
theorem qz (hn:1100000<=n)(a b:Ru)(S:pb a)(hab:a.1.length=b.1.length)(K:Unit->Option Bool):∀(k i:Nat),i<=a.1.length->a.1.length - i<k->bZ.l1 n a b K k (i:Int)=if a.1.drop i=b.1.drop i then K ()else some false
 |0,i,_,hk=>bH hk (JJ _)
 |k+1,i,hi,hk=>by
  have hE:=S.exps
  by_cases h:i<a.1.length
  ·have h2:i<b.1.length:=by omega
   conv=>lhs;unfold bZ.l1
   simp only[aE _ h,aE _ h2,ab (inl' h),ab (inl' h2)];rw[ab (jq h),qw n hn _ _ (S.kids _ (JI h)),Jn,seq_dec,iX (by omega),qz hn a b S hab K k (i+1) (by omega) (by omega),JF h,JF h2];have e:=oX a.1[i] b.1[i];have hc:(a.1[i]::a.1.drop (i+1)=b.1[i]::b.1.drop (i+1))↔(a.1[i]=b.1[i]/\a.1.drop (i+1)=b.1.drop (i+1)):=sX
   by_cases c:a.1[i]=b.1[i]
   ·rw[iW c]at e
    have e':=e.symm;simp only[Jx,dg]at e';rw[ab (by simp[e'.1]),ab (by simp[e'.2.1]),ao (by simp[e'.2.2])]
    by_cases d:a.1.drop (i+1)=b.1.drop (i+1)
    ·rw[ab d,ab (hc.2 ⟨c,d⟩)]
    ·rw[ao d,ao (λh=>d (hc.1 h).2)]
   ·rw[dq c]at e
    rw[ao (λh=>c (hc.1 h).1)]
    revert e
    cases decide ((a.1[i]).1=(b.1[i]).1)<;>cases decide ((a.1[i]).2.1=(b.1[i]).2.1)<;>cases decide ((a.1[i]).2.2=(b.1[i]).2.2)<;>intro e<;>first|rfl|(simp at e)
  ·conv=>lhs;unfold bZ.l1
   rw[ao (kl h),JH (by omega),JH (by omega),ab rfl]
theorem qA (hn:1100000<=n)(a b:Ru)(S:pb a)(hab:a.2.2.length=b.2.2.length)(K:Unit->Option Bool):∀(k i:Nat),i<=a.2.2.length->a.2.2.length - i<k->bZ.l2 n a b K k (i:Int)=if a.2.2.drop i=b.2.2.drop i then K ()else some false
 |0,i,_,hk=>bH hk (JJ _)
 |k+1,i,hi,hk=>by
  have hB:=S.body
  by_cases h:i<a.2.2.length
  ·have h2:i<b.2.2.length:=by omega
   conv=>lhs;unfold bZ.l2
   rw[ab (jq h),ab (inl' h),ab (inl' h2),aE _ h,aE _ h2,ta n hn _ _ (S.args _ (JP _ (JI h))),Jn,iX (by omega),qA hn a b S hab K k (i+1) (by omega) (by omega),JF h,JF h2];have hc:(a.2.2[i]::a.2.2.drop (i+1)=b.2.2[i]::b.2.2.drop (i+1))↔(a.2.2[i]=b.2.2[i]/\a.2.2.drop (i+1)=b.2.2.drop (i+1)):=sX
   by_cases c:a.2.2[i]=b.2.2[i]
   ·rw[ao (by simp[c])]
    by_cases d:a.2.2.drop (i+1)=b.2.2.drop (i+1)
    ·rw[ab d,ab (hc.2 ⟨c,d⟩)]
    ·rw[ao d,ao (λh=>d (hc.1 h).2)]
   ·rw[ab (by simp[c]),ao (λh=>c (hc.1 h).1)]
  ·conv=>lhs;unfold bZ.l2
   rw[ao (kl h),JH (by omega),JH (by omega),ab rfl]
theorem qB (hn:1100000<=n)(a b:Ru)(S:pb a):bZ.F n a b=some (decide (a=b)):=by
 have hE:=S.exps;have hB:=S.body;unfold bZ.F;have hr:=yg a b
 by_cases h1:a.1.length=b.1.length
 ·rw[ab (by simp[h1])]
  by_cases h2:a.2.2.length=b.2.2.length
  ·rw[ab (by simp[h2]),ta n hn _ _ (S.args _ JL),Jn]
   by_cases c:a.2.1=b.2.1
   ·rw[ao (by simp[c])]
    unfold bZ.j0;have e1:=λK=>qz n hn a b S h1 K n 0 (JO _) (by omega)
    have e2:=λK=>qA n hn a b S h2 K n 0 (JO _) (by omega)
    simp only[show((0:Nat):Int)=0 from rfl,JW]at e1 e2;rw[e1,e2,hr]
    by_cases d1:a.1=b.1<;>by_cases d2:a.2.2=b.2.2<;>simp[c,d1,d2]
   ·rw[ab (by simp[c]),hr]
    simp[c]
  ·have:¬(a.2.2.length:Int)=(b.2.2.length:Int):=by omega
   rw[ao (by simp[this]),dq (λe=>h2 (by rw[e]))]
 ·have:¬(a.1.length:Int)=(b.1.length:Int):=by omega
  rw[ao (by simp[this]),dq (λe=>h1 (by rw[e]))]
end
theorem td (k:Nat)(h:k<=1000000):(KT (k:Int)).length<=8:=by
 have e:KT (k:Int)=Lib.decDigits k:=by
  unfold KT;rw[ao (by omega),JQ]
 rw[e];have:=oQ 6 k (by omega);omega
def vT (p:Nat):ByteArray:=bt (118::KT (((p+1:Nat)):Int))
def tw (names:List ByteArray)(e:Ex):Ex:=if e.1=1 then(e.1,(vT (kE names e.2.1),e.2.2))else e
def gA (r:Ru):Ru:=(r.1.map (tw (bL [] r.1)),r.2)
theorem GY (p:Nat)(h:p<=100000):Jq ⟨#[118]⟩+Jq (bt (KT (((p+1:Nat)):Int)))<=aT/\(⟨#[118]⟩:ByteArray)++bt (KT (((p+1:Nat)):Int))=vT p:=by
 have:=td (p+1) (by omega);rw[show(⟨#[118]⟩:ByteArray)=bt [118]from rfl];refine⟨by simp only[ah,Ju,Jz,aT];omega,?_⟩;rw[ap]
 rfl
section
variable (n:Nat) (hn:1100000<=n)
theorem IL (l:List ByteArray)(s:ByteArray)(hl:l.length<=1048576):∀(k i:Nat),i<=l.length->l.length - i<k->iE.l0 n l s (λ_=>some false) k (i:Int)=some (pV (l.drop i) s)
 |0,i,_,hk=>bH hk (JJ _)
 |k+1,i,hi,hk=>by
  by_cases h:i<l.length
  ·conv=>lhs;unfold iE.l0
   rw[ab (jq h),ab (inl' h),aE _ h,seq_dec,JF h];unfold pV;rw[MN]
   by_cases e:l[i]=s
   ·rw[ab (by simp[e]),iW e,Bool.true_or]
   ·rw[ao (by simp[e]),iX (by omega),IL l s hl k (i+1) (by omega) (by omega),dq e,Bool.false_or]
    rfl
  ·conv=>lhs;unfold iE.l0
   rw[ao (kl h),JH (by omega)]
   rfl
theorem Eu (hn:1100000<=n)(l:List ByteArray)(s:ByteArray)(hl:l.length<=1048576):iE.F n l s=some (pV l s):=by
 unfold iE.F;have:=IL n l s hl n 0 (JO _) (by omega);rw[show((0:Nat):Int)=0 from rfl,JW]at this;exact this
theorem Be (l:List ByteArray)(s:ByteArray)(hl:l.length<=1048576):∀(k i:Nat),i<=l.length->l.length - i<k->bB.l0 n l s (l.length:Int) (λ_=>some (-1)) k (i:Int)=some (if pV (l.drop i) s=true then((i+kE (l.drop i) s:Nat):Int)else -1)
 |0,i,_,hk=>bH hk (JJ _)
 |k+1,i,hi,hk=>by
  by_cases h:i<l.length
  ·conv=>lhs;unfold bB.l0
   rw[ab (jq h),ab (inl' h),aE _ h,seq_dec,JF h];unfold kE;rw[List.findIdx_cons]
   by_cases e:s=l[i]
   ·rw[ab (by simp[e]),ab (jC.2 (by rw[e];exact JL)),iW e.symm]
    rfl
   ·have e':¬l[i]=s:=λh=>e h.symm
    rw[ao (by simp[e]),iX (by omega),Be l s hl k (i+1) (by omega) (by omega),dq e']
    by_cases hm:pV (l.drop (i+1)) s=true
    ·rw[ab hm,ab (jC.2 (JP _ (jC.1 hm)))]
     simp only[cond_false];unfold kE
     congr 2
     omega
    ·rw[ao hm,ao (λh=>by
      rcases JV.1 (jC.1 h)with h|h
      ·exact e h
      ·exact hm (jC.2 h))]
  ·conv=>lhs;unfold bB.l0
   rw[ao (kl h),JH (by omega),ao (λh=>by cases jC.1 h)]
theorem yh (hn:1100000<=n)(l:List ByteArray)(s:ByteArray)(hl:l.length<=1048576):bB.F n l s=some (if pV l s=true then(kE l s:Int)else -1):=by
 unfold bB.F;have:=Be n l s hl n 0 (JO _) (by omega);rw[show((0:Nat):Int)=0 from rfl,JW,Lj]at this;exact this
theorem yi (hn:1100000<=n)(l:List ByteArray)(s:ByteArray)(hl:l.length<=1048576):cX.F n l s=some (pV l s):=by
 unfold cX.F;rw[yh n hn l s hl,Jn]
 by_cases h:pV l s=true
 ·rw[ab h,h]
  simp
 ·rw[ao h,Bool.eq_false_iff.2 h]
  rfl
theorem uy (hn:1100000<=n)(E:List Ex)(hE:E.length<=1000)(K:List ByteArray->Option (List ByteArray)):∀(k i:Nat),i<=E.length->E.length - i<k->dC.l0 n E (E.length:Int) K k (i:Int) (bL [] (E.take i))=K (bL [] E)
 |0,i,_,hk=>bH hk (JJ _)
 |k+1,i,hi,hk=>by
  have hlen:=lS (E.take i) [];rw[Lg]at hlen;simp only[Jz]at hlen
  by_cases h:i<E.length
  ·have hs:=sU h []
   have ih:=uy hn E hE K k (i+1) (by omega) (by omega);rw[hs]at ih
   conv=>lhs;unfold dC.l0
   simp only[aE _ h];rw[ab (jq h),ab (inl' h),iX (by omega)];unfold jm at ih
   by_cases c1:(E[i]).1=1
   ·rw[ab c1]at ih
    rw[ab (by simp[c1]),yi n hn _ _ (by omega),Jn]
    by_cases c2:pV (bL [] (E.take i)) (E[i]).2.1=true
    ·rw[ab c2]at ih
     rw[ao (by simp[c2])];exact ih
    ·rw[ao c2]at ih
     rw[ab (by simpa using c2),ab (by simp[aT];omega)];exact ih
   ·rw[ao c1]at ih
    rw[ao (by simpa using c1)];exact ih
  ·conv=>lhs;unfold dC.l0
   rw[ao (kl h),JR (by omega)]
theorem zR (hn:1100000<=n)(r:Ru)(hE:r.1.length<=1000):dC.F n r=some (bL [] r.1):=by
 unfold dC.F;have:=uy n hn r.1 hE (λx=>some x) n 0 (JO _) (by omega);rw[show((0:Nat):Int)=0 from rfl]at this;exact this
theorem Cm (hn:1100000<=n)(t:Int)(e:Ex)(names:List ByteArray)(hm:e.1=1->e.2.1∈names)(hl:names.length<=1000):fQ.F n t e names=some (tw names e):=by
 unfold fQ.F tw
 by_cases c1:e.1=1
 ·have hlt:=sT (hm c1)
  obtain⟨v1,v2⟩:=GY (kE names e.2.1) (by omega);rw[ab (by simp[c1]),ab c1,yh n hn _ _ (by omega),ab (jC.2 (hm c1)),Jn,iX (by omega)];unfold cJ.F;rw[ab (by omega),Jn];rw[show(⟨(KT (((kE names e.2.1+1:Nat)):Int)).toArray⟩:ByteArray)=bt (KT (((kE names e.2.1+1:Nat)):Int))from rfl,ab v1,v2]
 ·rw[ao (by simpa using c1),ao c1]
theorem Ev (hn:1100000<=n)(r:Ru)(S:pb r)(hE:r.1.length<=1000)(r8 r9:Ru)(x:Ex×List Ex)(K:Ru->Option Ru):∀(k i:Nat),i<=r.1.length->r.1.length - i<k->
  cc.l0 n (bL [] r.1) r.1 (r.1.length:Int) r8 r9 K k (i:Int) ((r.1.take i).map (tw (bL [] r.1)),x)=K (r.1.map (tw (bL [] r.1)),x)
 |0,i,_,hk=>bH hk (JJ _)
 |k+1,i,hi,hk=>by
  have hlen:=lS r.1 [];simp only[Jz]at hlen
  by_cases h:i<r.1.length
  ·have hke:=S.kids _ (JI h)
   have hm:(r.1[i]).1=1->(r.1[i]).2.1∈bL [] r.1:=λh1=>by
    obtain⟨h2,_⟩:=xX h h1 [];obtain⟨t,ht⟩:=pW (r.1.drop (i+1)) (bL [] (r.1.take (i+1)));have:bL [] r.1=bL [] (r.1.take (i+1))++t:=by
     rw[← ht];unfold bL;rw[← L4,KP]
    rw[this];exact List.mem_append_left _ h2
   have ih:=Ev hn r S hE r8 r9 x K k (i+1) (by omega) (by omega);rw[JE h,Kx]at ih
   conv=>lhs;unfold cc.l0
   simp only[aE _ h,Kv];rw[ab (jq h),ab (inl' h),ab (by simp[aT];omega)];rw[show((r.1[i]).1,((r.1[i]).2.1,(r.1[i]).2.2))=r.1[i]from rfl,Cm n hn _ _ _ hm (by omega),Jn,ab (by simp[aT];omega),iX (by omega)];exact ih
  ·conv=>lhs;unfold cc.l0
   rw[ao (kl h),JR (by omega)]
theorem mr (l:Ex)(h:l.2.2.length<=1048576):fb.F n l=some l:=by
 unfold fb.F;rw[ab (by simp[aT];omega),Kv]
theorem Ew (r:Ru)(S:pb r)(t16:Ru)(E:List Ex)(hd:Ex)(K:Ru->Option Ru):∀(k i:Nat),i<=r.2.2.length->r.2.2.length - i<k->
  cc.l1 n r.2.2 (r.2.2.length:Int) t16 K k (i:Int) (E,(hd,r.2.2.take i))=K (E,(hd,r.2.2))
 |0,i,_,hk=>bH hk (JJ _)
 |k+1,i,hi,hk=>by
  have hB:=S.body
  by_cases h:i<r.2.2.length
  ·have ih:=Ew r S t16 E hd K k (i+1) (by omega) (by omega)
   rw[JE h]at ih
   conv=>lhs;unfold cc.l1
   rw[ab (jq h),ab (inl' h),aE _ h,mr n _ (S.args _ (JP _ (JI h))),Jn,ab (by simp[aT];omega),iX (by omega)];exact ih
  ·conv=>lhs;unfold cc.l1
   rw[ao (kl h),JR (by omega)]
theorem oY (hn:1100000<=n)(r:Ru)(S:pb r)(hE:r.1.length<=1000):fH.F n r=some (gA r):=by
 have hB:=S.body;unfold fH.F cc.F;rw[zR n hn r hE,Jn,mr n _ (S.args _ JL),Jn];have e0:=λK=>Ev n hn r S hE r ([],(kX,[])) (r.2.1,[]) K n 0 (JO _) (by omega)
 simp only[KD,KG,show((0:Nat):Int)=0 from rfl]at e0;rw[e0];have e1:=λK=>Ew n r S ([],(kX,[])) (r.1.map (tw (bL [] r.1))) r.2.1 K n 0 (JO _) (by omega)
 simp only[KD,show((0:Nat):Int)=0 from rfl]at e1;rw[e1]
 rfl
theorem Bf (r:Ru)(S:pb r)(t4:Ru)(x:Ex×List Ex)(K:Ru->Option Ru):∀(k i:Nat),i<=r.1.length->r.1.length - i<k->dv.l0 n r t4 K k (i:Int) (r.1.take i,x)=K (r.1,x)
 |0,i,_,hk=>bH hk (JJ _)
 |k+1,i,hi,hk=>by
  have hE:=S.exps
  by_cases h:i<r.1.length
  ·have hke:=S.kids _ (JI h)
   have ih:=Bf r S t4 x K k (i+1) (by omega) (by omega);rw[JE h]at ih
   conv=>lhs;unfold dv.l0
   simp only[aE _ h,Kv,ab (inl' h)];rw[ab (jq h),ab (by simp[aT];omega),ab (by simp[aT];omega),iX (by omega)];exact ih
  ·conv=>lhs;unfold dv.l0
   rw[ao (kl h),JR (by omega)]
theorem Bg (r:Ru)(S:pb r)(t9:Ru)(E:List Ex)(hd:Ex)(K:Ru->Option Ru):∀(k i:Nat),i<=r.2.2.length->r.2.2.length - i<k->dv.l1 n r t9 K k (i:Int) (E,(hd,r.2.2.take i))=K (E,(hd,r.2.2))
 |0,i,_,hk=>bH hk (JJ _)
 |k+1,i,hi,hk=>by
  have hB:=S.body
  by_cases h:i<r.2.2.length
  ·have hke:=S.args _ (JP _ (JI h))
   have ih:=Bg r S t9 E hd K k (i+1) (by omega) (by omega);rw[JE h]at ih
   conv=>lhs;unfold dv.l1
   simp only[aE _ h,Kv,ab (inl' h)];rw[ab (jq h),ab (by simp[aT];omega),ab (by simp[aT];omega),iX (by omega)];exact ih
  ·conv=>lhs;unfold dv.l1
   rw[ao (kl h),JR (by omega)]
theorem Bh (hn:1100000<=n)(r:Ru)(S:pb r):dv.F n r=some r:=by
 have hE:=S.exps;have hB:=S.body;have hh:=S.args _ (show r.2.1∈dV r from JL);unfold dv.F;rw[ab (by simp[aT];omega),Kv];have e0:=λK=>Bf n r S ([],(kX,[])) (r.2.1,[]) K n 0 (JO _) (by omega)
 simp only[KD,show((0:Nat):Int)=0 from rfl]at e0;have e1:=λK=>Bg n r S ([],(kX,[])) r.1 r.2.1 K n 0 (JO _) (by omega)
 simp only[KD,show((0:Nat):Int)=0 from rfl]at e1;refine(e0 _).trans ?_;refine(e1 _).trans ?_
 rfl
theorem Ey (hn:1100000<=n)(r t17:Ru){i:Nat}(hi:i<r.1.length)(names:List ByteArray)(hnd:names.Nodup)(hm:(r.1[i]).2.1∈names)(hl:names.length<=1000)(K:Ru->Option Ru)(D:List Ex)(hD:i<D.length)(x:Ex×List Ex):∀(k j:Nat),j<=names.length->names.length - j<k->
  cU.l2 n (i:Int) r t17 names K k (j:Int) (D,x)=K (if j<=kE names (r.1[i]).2.1 then D.set i ((D[i]).1,(vT (kE names (r.1[i]).2.1),(D[i]).2.2))else D,x)
 |0,j,_,hk=>bH hk (JJ _)
 |k+1,j,hj,hk=>by
  have hlt:=sT hm
  by_cases h:j<names.length
  ·conv=>lhs;unfold cU.l2
   simp only[aE _ h,aE _ hi,aE _ hD];rw[ab (jq h),ab (inl' h),ab (inl' hi),seq_dec,iX (by omega)]
   by_cases e:names[j]=(r.1[i]).2.1
   ·have hp:=Ed hnd h e
    obtain⟨v1,v2⟩:=GY j (by omega);rw[ab (by simp[e]),qY n _ (by omega) (by omega) (by omega),Jn,ab v1,ab (inl' hD),v2,JQ];have hD2:i<(D.set i ((D[i]).1,(vT j,(D[i]).2.2))).length:=by rw[Mv];exact hD
    refine(Ey hn r t17 hi names hnd hm hl K _ hD2 x k (j+1) (by omega) (by omega)).trans ?_;rw[ao (by omega),ab (by omega),← hp]
   ·rw[ao (by simp[e]),Ey hn r t17 hi names hnd hm hl K D hD x k (j+1) (by omega) (by omega)]
    have hne:j≠kE names (r.1[i]).2.1:=λh=>e (by
     have:=B9 hm;simp only[← h]at this;exact this)
    by_cases c:j<=kE names (r.1[i]).2.1
    ·rw[ab c,ab (by omega)]
    ·rw[ao c,ao (by omega)]
  ·conv=>lhs;unfold cU.l2
   rw[ao (kl h),ao (by omega)]
theorem Ez {α:Type}(A:List α)(x y:α)(B:List α){i:Nat}(h:A.length=i):(A++x::B).set i y=A++y::B:=by
 subst h;rw[List.set_append_right _ _ (JS _),Nat.sub_self,List.set_cons_zero]
theorem I9 {E:List Ex}{f:Ex->Ex}{i:Nat}(hi:i<E.length)(y:Ex)(hy:y=f E[i]):((E.take i).map f++E.drop i).set i y=(E.take (i+1)).map f++E.drop (i+1):=by
 have h1:((E.take i).map f).length=i:=by simp;omega
 rw[JF hi,JE hi,Kx,Ez _ _ _ _ h1,hy]
 simp
theorem GZ (hn:1100000<=n)(r t5:Ru)(S:pb r)(hE:r.1.length<=900)(K:Ru->Option Ru):∀(k i:Nat),i<=r.1.length->r.1.length - i<k->
  cU.l0 n r t5 K k (i:Int) ((r.1.take i).map (tw (bL [] r.1))++r.1.drop i,r.2) (bL [] (r.1.take i))=K (gA r)
 |0,i,_,hk=>bH hk (JJ _)
 |k+1,i,hi,hk=>by
  have hlen:=lS (r.1.take i) [];rw[Lg]at hlen;simp only[Jz]at hlen
  by_cases h:i<r.1.length
  ·have hs:=sU h []
   have ih:=GZ hn r t5 S hE K k (i+1) (by omega) (by omega);rw[hs]at ih;have hDl:i<((r.1.take i).map (tw (bL [] r.1))++r.1.drop i).length:=by simp;omega
   have hDi:((r.1.take i).map (tw (bL [] r.1))++r.1.drop i)[i]=r.1[i]:=by
    rw[List.getElem_append_right (by simp;omega)]
    simp[Nat.min_eq_left (No h)]
   conv=>lhs;unfold cU.l0
   simp only[aE _ h,ab (inl' h)];rw[ab (jq h),iX (by omega)]
   by_cases c1:(r.1[i]).1=1
   ·rw[ao (by simp[c1]),Eu n hn _ _ (by omega),Jn]
    obtain⟨hm,hx⟩:=xX h c1 [];rw[hs]at hm hx;have hnd:(jm (bL [] (r.1.take i)) r.1[i]).Nodup:=qr (qs _ List.nodup_nil) _;have hl2:=uw (bL [] (r.1.take i)) r.1[i];have hj:∀Kn:Ru->Option Ru,cU.j1 n (i:Int) r t5 ((r.1.take i).map (tw (bL [] r.1))++r.1.drop i,r.2) (jm (bL [] (r.1.take i)) r.1[i]) Kn=Kn ((r.1.take (i+1)).map (tw (bL [] r.1))++r.1.drop (i+1),r.2):=by
     intro Kn;unfold cU.j1;have:=Ey n hn r t5 h _ hnd hm (by omega) (λt22=>Kn t22) _ hDl r.2 n 0 (JO _) (by omega);rw[show((0:Nat):Int)=0 from rfl]at this;rw[this,ab (JO _),hDi,← hx,I9 h _ (by unfold tw;rw[ab c1])]
    unfold jm at hj ih;rw[ab c1]at ih;simp only[ab c1]at hj
    by_cases c2:pV (bL [] (r.1.take i)) (r.1[i]).2.1=true
    ·rw[ab c2]at ih
     simp only[ab c2]at hj;rw[ao (by simp[c2]),hj];exact ih
    ·rw[ao c2]at ih
     simp only[ao c2]at hj;rw[ab (by simpa using c2),ab (by simp[aT];omega),hj];exact ih
   ·have hc:tw (bL [] r.1) r.1[i]=r.1[i]:=by unfold tw;rw[ao c1]
    have he:(r.1.take (i+1)).map (tw (bL [] r.1))++r.1.drop (i+1)=(r.1.take i).map (tw (bL [] r.1))++r.1.drop i:=by
     rw[JE h,Kx,JK,KG,hc]
     conv=>rhs;rw[JF h]
     simp
    have hna:jm (bL [] (r.1.take i)) r.1[i]=bL [] (r.1.take i):=by unfold jm;rw[ao c1]
    rw[he,hna]at ih;rw[ab (by simp[c1])];exact ih
  ·conv=>lhs;unfold cU.l0
   rw[ao (kl h),JR (by omega),JH (by omega),Ky]
   rfl
theorem oZ (hn:1100000<=n)(r:Ru)(S:pb r)(hE:r.1.length<=900):cU.F n r=some (gA r):=by
 unfold cU.F;rw[Bh n hn r S,Jn];have:=GZ n hn r ([],(kX,[])) S hE (λx=>some x) n 0 (JO _) (by omega);simp only[KD,KG,Kv,JW,show((0:Nat):Int)=0 from rfl]at this;exact this
end
end Go.Abs
