/- Names that are always the same: both sides. Conditions: none. -/
import Derived.Lib.Join
import Derived.Test.YtkelpajcfmghiaaGreatDoorT7
open Bool renaming and_eq_true → Jz,decide_and → NH,false_and → LG,not_eq_true' → L0,or_eq_true → Lo,true_and → KD
open ByteArray renaming empty → Jq,size → Js
open Go.IntKind renaming i64 → Ju
open Go.Lib renaming itoa → KW,join → KG
open Int renaming eq_ofNat_of_zero_le → Mj,toNat → Jt,toNat_natCast → JS
open List renaming all_cons → KB,all_eq_true → Kf,any_cons → MP,any_eq_false → Mo,append_assoc → Ka,append_nil → KA,dropLast_concat_getLast → NG,drop_eq_getElem_cons → JH,drop_of_length_le → JJ,drop_succ_cons → OB,drop_zero → JY,exists_cons_of_ne_nil → NL,findIdx_lt_length_of_exists → Nn,flatMap_cons → LC,foldl_append → L6,getD → Jv,getD_eq_getElem?_getD → Lm,getElem?_replicate → N0,getElem?_set → Pg,getElem_mem → JK,length → Jr,length_append → Jx,length_cons → Jw,length_map → Kp,length_nil → JB,length_pos_iff → Ly,length_set → Mx,length_take → Li,map_append → Kz,map_congr_left → MA,map_cons → JM,map_map → Lq,map_nil → KI,mem_cons → JX,mem_cons_of_mem → JR,mem_cons_self → JN,mem_flatMap → Mp,mem_iff_getElem → LF,mem_map → Lj,nil_append → Kx,replicate → Kq,sum_cons → Ko,sum_nil → MR,take_append_drop → KR,take_of_length_le → JT,take_succ_eq_append_getElem → JG,take_zero → KF
open Nat renaming add_mul → KJ,le_of_lt → Nq,le_refl → JU,le_trans → Me,mul_le_mul_right → Kk,not_lt_zero → JL,one_mul → Lh,zero_add → Ll,zero_le → JQ
open Option renaming bind_some → Jp
set_option linter.unusedVariables false
set_option linter.unusedSimpArgs false
namespace Go.Abs
def dB (f:Nat->Nat):Nat->Nat
 |0=>0
 |n+1=>dB f n+f n
theorem kj {f g:Nat->Nat}:∀{n:Nat},(∀j,j<n->f j=g j)->dB f n=dB g n
 |0,_=>rfl
 |n+1,h=>by simp only[dB];rw[kj (n:=n) λj hj=>h j (by omega),h n (by omega)]
theorem pT (f g:Nat->Nat):∀n,dB (λj=>f j+g j) n=dB f n+dB g n
 |0=>rfl
 |n+1=>by simp only[dB];rw[pT f g n];omega
theorem o9:∀n,dB (λ_=>0) n=0
 |0=>rfl
 |n+1=>by simp only[dB];rw[o9 n]
theorem uv (a:Nat)(x:Nat):∀n,a<n->dB (λj=>if j=a then x else 0) n=x
 |0,h=>bH h (JL _)
 |n+1,h=>by
  simp only[dB]
  by_cases e:n=a
  ·subst e
   rw[ab rfl,kj (g:=λ_=>0) λj hj=>by rw[ao (by omega)],o9];omega
  ·rw[ao e,uv a x n (by omega)]
   omega
theorem Ea {f:Nat->Nat}{n j:Nat}(h:j<n):f j<=dB f n:=by
 induction n with
 |zero=>omega
 |succ n ih=>
  simp only[dB]
  by_cases e:j=n
  ·subst e;omega
  ·have:=ih (by omega);omega
theorem nk (f:Nat->Nat)(n:Nat):∀(l:List Nat),(∀a∈l,a<n)->dB (λj=>l.count j*f j) n=(l.map f).sum
 |[],_=>by simp only[List.count_nil,Nat.zero_mul];exact o9 n
 |a::l,h=>by
  have ih:=nk f n l λx hx=>h x (JR _ hx)
  have e:dB (λj=>(a::l).count j*f j) n=dB (λj=>l.count j*f j+(if j=a then f a else 0)) n:=kj λj _=>by
   rw[List.count_cons]
   by_cases ha:j=a
   ·subst ha
    simp[KJ]
   ·have:¬a=j:=λe=>ha e.symm
    simp[ha,this]
  rw[e,pT,ih,uv a (f a) n (h a JN),JM,Ko];omega
structure Once (n:Nat) (kids:Nat->List Nat) (args:List Nat) (len own:Nat->Nat):Prop where
 low:∀i,i<n->∀k∈kids i,k<i
 arg:∀a∈args,a<n
 once:∀j,j<n->args.count j+dB (λk=>(kids k).count j) n=1
 len:∀i,i<n->len i=own i+((kids i).map len).sum
section
variable {n:Nat} {kids:Nat->List Nat} {args:List Nat} {len own:Nat->Nat} (h:Once n kids args len own)
def mx (n:Nat)(kids:Nat->List Nat)(args:List Nat)(i j:Nat):Nat:=args.count j+(dB (λk=>(kids k).count j) n - dB (λk=>(kids k).count j) i)
theorem sQ (f:Nat->Nat){i n:Nat}(hi:i<=n):dB f i<=dB f n:=by
 induction n with
 |zero=>
  have:i=0:=by omega
  subst this;exact JU _
 |succ n ih=>
  by_cases e:i=n+1
  ·subst e;exact JU _
  ·have:=ih (by omega)
   simp only[dB];omega
include h in
theorem Once.low0 {i j:Nat}(hj:j<n)(hi:i<=j+1):dB (λk=>(kids k).count j) i=0:=by
 induction i with
 |zero=>rfl
 |succ i ih=>
  simp only[dB];rw[ih (by omega)];have:(kids i).count j=0:=List.count_eq_zero.2 λhm=>by
   have:=h.low i (by omega) j hm;omega
  rw[this]
include h in
theorem Once.step {i:Nat}(hi:i<n):dB (λj=>mx n kids args (i+1) j*len j) (i+1)=dB (λj=>mx n kids args i j*len j) i+own i:=by
 have h1:mx n kids args (i+1) i=1:=by
  unfold mx;rw[h.low0 hi (JU _),Nat.sub_zero];exact h.once i hi
 simp only[dB];rw[h1,Lh,h.len i hi,← nk len i (kids i) (h.low i hi)];have e:dB (λj=>mx n kids args i j*len j) i=dB (λj=>mx n kids args (i+1) j*len j+(kids i).count j*len j) i:=kj λj hj=>by
  rw[← KJ]
  congr 1
  unfold mx;have hm:=sQ (λk=>(kids k).count j) (i:=i+1) (n:=n) hi;simp only[dB]at hm⊢;omega
 rw[e,pT];omega
include h in
theorem Once.part:∀i,i<=n->dB (λj=>mx n kids args i j*len j) i=dB own i
 |0,_=>rfl
 |i+1,hi=>by
  rw[h.step (by omega),Once.part i (by omega)]
  rfl
include h in
theorem Once.total:(args.map len).sum=dB own n:=by
 rw[← h.part n (JU _),← nk len n args h.arg];refine kj λj hj=>?_
 unfold mx;rw[Nat.sub_self,Nat.add_zero]
include h in
theorem Once.each {i:Nat}(hi:i<n):len i<=dB own n:=by
 have h1:mx n kids args (i+1) i=1:=by
  unfold mx;rw[h.low0 hi (JU _),Nat.sub_zero];exact h.once i hi
 have h2:=h.part (i+1) hi;have h3:=Ea (f:=λj=>mx n kids args (i+1) j*len j) (n:=i+1) (j:=i) (Nat.lt_succ_self _);rw[h1,Lh]at h3;have h4:=sQ own (i:=i+1) (n:=n) hi;omega
end
abbrev By:Type:=List UInt8
abbrev Ex:Type:=Int×ByteArray×List Int
abbrev Ru:Type:=List Ex×Ex×List Ex
abbrev kY:Ex:=(0,Jq,[])
def aO (e:Ex):List Nat:=e.2.2.map Jt
def GY (k:Int):By:=if k=5 then [32,43,32]else if k=6 then [32,45,32]else [32,42,32]
def gW (k:Int):Bool:=decide (5<=k)&&decide (k<=7)
def my (k:Int)(t:By):By:=if gW k=true then [40]++t++[41]else t
def mD (kd:Nat->Int)(tb:Nat->By)(e:Ex):By:=
 if e.1=2 then [95]
 else if e.1=4/\e.2.2≠[]then e.2.1.data.toList++[40]++KG ((aO e).map tb) [44,32]++[41]
 else if gW e.1=true then match aO e with
  |[a,b]=>my (kd a) (tb a)++GY e.1++my (kd b) (tb b)
  |_=>[]
 else e.2.1.data.toList
def ev (E:List Ex)(i:Nat):Int:=(E.getD i kY).1
def B3 (E:List Ex):Nat->Nat->By
 |0,_=>[]
 |f+1,i=>mD (ev E) (B3 E f) (E.getD i kY)
def bf (E:List Ex)(i:Nat):By:=B3 E (i+1) i
theorem nB {kd:Nat->Int}{t1 t2:Nat->By}{e:Ex}(h:∀k∈aO e,t1 k=t2 k):mD kd t1 e=mD kd t2 e:=by
 unfold mD
 split
 ·rfl
 ·split
  ·rw[MA h]
  ·split
   ·split
    ·rename_i a b hk
     rw[h a (by rw[hk];simp),h b (by rw[hk];simp)]
    ·rfl
   ·rfl
def G2 (E:List Ex):Prop:=∀i,i<E.length->∀k∈aO (E.getD i kY),k<i
theorem sR {E:List Ex}(h:G2 E):∀(f i:Nat),i<f->i<E.length->B3 E f i=bf E i
 |0,i,hi,_=>bH hi (JL _)
 |f+1,i,hi,hE=>by
  show mD _ _ _=mD _ _ _;refine nB λk hk=>?_
  have:=h i hE k hk;rw[sR h f k (by omega) (by omega),sR h i k this (by omega)]
termination_by f i=>f+i
theorem uw {E:List Ex}(h:G2 E){i:Nat}(hi:i<E.length):bf E i=mD (ev E) (bf E) (E.getD i kY):=by
 show mD _ _ _=mD _ _ _;refine nB λk hk=>?_
 have:=h i hi k hk;exact sR h i k this (by omega)
theorem kl (sep:By):∀(l:List By),(KG l sep).length=(l.map Jr).sum+sep.length*(l.length - 1)
 |[]=>rfl
 |[x]=>by rw[Lib.join_one];simp
 |x::y::r=>by
  have h:=Lib.join_length x (y::r) sep;rw[h,show(x::y::r).length - 1=(y::r).length from rfl];unfold Lib.lens;exact Nat.add_comm _ _
def vG (E:List Ex)(e:Ex):Nat:=
 if e.1=2 then 1
 else if e.1=4/\e.2.2≠[]then e.2.1.data.toList.length+2+2*(e.2.2.length - 1)
 else if gW e.1=true then 3+((aO e).map λk=>if gW (ev E k)=true then 2 else 0).sum
 else e.2.1.data.toList.length
theorem xW (E:List Ex)(t:Nat->By):∀l:List Nat,(l.map λk=>(my (ev E k) (t k)).length).sum=(l.map λk=>if gW (ev E k)=true then 2 else 0).sum+(l.map λk=>(t k).length).sum
 |[]=>rfl
 |k::l=>by
  have h:=xW E t l;simp only[JM,Ko,h];unfold my
  split<;>simp<;>omega
structure GZ (E:List Ex):Prop where
 low:G2 E
 leaf:∀i,i<E.length->(E.getD i kY).1≠4->gW (E.getD i kY).1=false->(E.getD i kY).2.2=[]
 two:∀i,i<E.length->gW (E.getD i kY).1=true->(E.getD i kY).2.2.length=2
theorem Eb {E:List Ex}(h:GZ E){i:Nat}(hi:i<E.length):(bf E i).length=vG E (E.getD i kY)+((aO (E.getD i kY)).map λk=>(bf E k).length).sum:=by
 rw[uw h.low hi];have h1:=h.leaf i hi;have h2:=h.two i hi;generalize E.getD i kY=e at h1 h2⊢;unfold mD vG
 by_cases c2:e.1=2
 ·rw[ab c2,ab c2]
  have:e.2.2=[]:=h1 (by omega) (by rw[c2];rfl)
  simp[aO,this]
 ·rw[ao c2,ao c2]
  by_cases c4:e.1=4/\e.2.2≠[]
  ·rw[ab c4,ab c4]
   simp only[Jx,Jw,JB,kl,Lq];have:(aO e).length=e.2.2.length:=Kp ..;simp only[Kp,this];show _+_+(((aO e).map (λk=>(bf E k).length)).sum+_)+_=_;omega
  ·rw[ao c4,ao c4]
   by_cases cs:gW e.1=true
   ·rw[ab cs,ab cs]
    have hk:(aO e).length=2:=by unfold aO;rw[Kp];exact h2 cs
    match hq:aO e,hk with
    |[a,b],_=>
     have:=xW E (bf E) [a,b];simp only[JM,KI,Ko,MR,Jx]at this⊢;have ho:(GY e.1).length=3:=by
      unfold GY
      split
      ·rfl
      ·split<;>rfl
     omega
   ·rw[ao cs,ao cs]
    by_cases hk:e.2.2=[]
    ·simp[aO,hk]
    ·have:e.1≠4:=λe4=>c4 ⟨e4,hk⟩
     exact bH (h1 this (by simpa using cs)) hk
def ey (E:List Ex)(l:Ex):By:=
 if l.1=3 then(match aO l with|[a,b]=>bf E a++[32]++l.2.1.data.toList++[32]++bf E b|_=>[])
 else(if l.1=2 then [33]else [])++l.2.1.data.toList++[40]++KG ((aO l).map (bf E)) [44,32]++[41]
def jL (r:Ru):By:=ey r.1 r.2.1++(if r.2.2=[]then []else [32,58,45,32]++KG (r.2.2.map (ey r.1)) [44,32])++[46]
def dV (r:Ru):List Ex:=r.2.1::r.2.2
def kJ (r:Ru):List Nat:=(dV r).flatMap aO
structure Ec (m:Nat) (l:Ex):Prop where
 kind:1<=l.1/\l.1<=3
 two:l.1=3->l.2.2.length=2
 arg:∀a∈l.2.2,0<=a/\a<(m:Int)
structure FormR (r:Ru):Prop where
 few:r.1.length<=60
 kind:∀e∈r.1,1<=e.1/\e.1<=7
 nn:∀e∈r.1,∀k∈e.2.2,0<=k
 exps:GZ r.1
 head:r.2.1.1=1
 lits:∀l∈dV r,Ec r.1.length l
 once:∀j,j<r.1.length->(kJ r).count j+dB (λk=>(aO (r.1.getD k kY)).count j) r.1.length=1
theorem FormR.tree {r:Ru}(h:FormR r):Once r.1.length (λk=>aO (r.1.getD k kY)) (kJ r) (λi=>(bf r.1 i).length) (λi=>vG r.1 (r.1.getD i kY)) where
 low:=h.exps.low
 arg:=by
  intro a ha;obtain⟨l,hl,ha⟩:=Mp.1 ha;obtain⟨k,hk,rfl⟩:=Lj.1 ha;have:=(h.lits l hl).arg k hk;omega
 once:=h.once
 len:=λi hi=>Eb h.exps hi
theorem HX {E:List Ex}{l:Ex}(h:Ec E.length l):1+((aO l).map λa=>(bf E a).length).sum<=(ey E l).length:=by
 unfold ey
 by_cases c:l.1=3
 ·rw[ab c]
  have hk:(aO l).length=2:=by unfold aO;rw[Kp];exact h.two c
  match hq:aO l,hk with
  |[a,b],_=>
   simp only[JM,KI,Ko,MR,Jx,Jw,JB];omega
 ·rw[ao c]
  simp only[Jx,Jw,JB,kl,Lq];show _<=_+_+_+(((aO l).map (λa=>(bf E a).length)).sum+_)+_;omega
theorem B4 {E:List Ex}:∀{ls:List Ex},(∀l∈ls,Ec E.length l)->ls.length+((ls.flatMap aO).map λa=>(bf E a).length).sum<=((ls.map (ey E)).map Jr).sum
 |[],_=>JQ _
 |l::ls,h=>by
  have h1:=HX (h l JN);have h2:=B4 (ls:=ls) λx hx=>h x (JR _ hx)
  simp only[LC,Kz,List.sum_append,JM,Ko,Jw];omega
theorem B5 {r:Ru}(h:FormR r):r.2.2.length+((kJ r).map λa=>(bf r.1 a).length).sum<=(jL r).length:=by
 have h1:=B4 h.lits;unfold dV at h1;unfold kJ dV jL;simp only[JM,Ko,Jw]at h1;simp only[Jx,Jw,JB]
 by_cases hb:r.2.2=[]
 ·rw[ab hb]
  rw[hb]at h1⊢;simp only[KI,MR,JB]at h1⊢;omega
 ·rw[ao hb]
  simp only[Jx,kl];omega
theorem Ed {r:Ru}(h:FormR r){i:Nat}(hi:i<r.1.length):(bf r.1 i).length<=(jL r).length:=by
 have h1:=h.tree.each hi;have h2:=h.tree.total;have h3:=B5 h;omega
def bump (u:List Int)(k:Nat):List Int:=u.set k (u.getD k 0+1)
def bumps (u:List Int)(ks:List Nat):List Int:=ks.foldl bump u
theorem sS (u:List Int)(k:Nat):(bump u k).length=u.length:=Mx ..
theorem jV:∀(ks:List Nat) (u:List Int),(bumps u ks).length=u.length
 |[],_=>rfl
 |k::ks,u=>(jV ks (bump u k)).trans (sS u k)
theorem kK (u:List Int)(a b:List Nat):bumps u (a++b)=bumps (bumps u a) b:=L6
theorem xX {u:List Int}{k:Nat}(hk:k<u.length)(j:Nat):(bump u k).getD j 0=u.getD j 0+(if j=k then 1 else 0):=by
 unfold bump;simp only[Lm,Pg]
 by_cases e:k=j
 ·subst e
  simp[hk]
 ·have:¬j=k:=λh=>e h.symm
  simp[e,this]
theorem pU:∀(ks:List Nat) (u:List Int),(∀k∈ks,k<u.length)->∀j,(bumps u ks).getD j 0=u.getD j 0+(ks.count j:Int)
 |[],u,_,j=>by simp[bumps]
 |k::ks,u,h,j=>by
  have hk:=h k JN;have ih:=pU ks (bump u k) (λx hx=>by rw[sS];exact h x (JR _ hx)) j;show(bumps (bump u k) ks).getD j 0=_;rw[ih,xX hk,List.count_cons]
  by_cases e:j=k
  ·subst e
   simp
   omega
  ·have:¬k=j:=λh=>e h.symm
   simp[e,this]
def Ci (e:Ex):Bool:=decide (1<=e.1)&&decide (e.1<=7)&&(if gW e.1=true then decide (e.2.2.length=2)else decide (e.1=4)||e.2.2.isEmpty)
def J0 (i:Nat)(e:Ex):Bool:=e.2.2.all λk=>decide (0<=k)&&decide (k<(i:Int))
def yn (m:Nat)(l:Ex):Bool:=l.2.2.all λa=>decide (0<=a)&&decide (a<(m:Int))
def vH (l:Ex):Bool:=decide (1<=l.1)&&decide (l.1<=3)&&(!decide (l.1=3)||decide (l.2.2.length=2))
def nO (r:Ru):List Int:=bumps (bumps (Kq r.1.length 0) (r.1.flatMap aO)) (kJ r)
structure FormB (r:Ru):Prop where
 few:r.1.length<=60
 exps:∀i (h:i<r.1.length),J0 i r.1[i]=true/\Ci r.1[i]=true
 head:r.2.1.1=1
 lits:∀l∈dV r,vH l=true/\yn r.1.length l=true
 once:∀x∈nO r,x=1
theorem zM (E:List Ex)(j:Nat):(E.flatMap aO).count j=dB (λk=>(aO (E.getD k kY)).count j) E.length:=by
 have key:∀(pre post:List Ex),((pre++post).take pre.length |>.flatMap aO).count j=dB (λk=>(aO ((pre++post).getD k kY)).count j) pre.length:=by
  intro pre
  induction hn:pre.length generalizing pre with
  |zero=>intro post;rfl
  |succ n ih=>
   intro post;obtain⟨a,x,rfl⟩:∃a x,pre=a++[x]:=⟨pre.dropLast,pre.getLast (by intro e;rw[e]at hn;cases hn),(NG _).symm⟩
   have ha:a.length=n:=by simpa using hn
   have:=ih a ha ([x]++post);rw[Ka];simp only[dB];rw[← this,JG (by simp[ha]),List.flatMap_append,List.count_append]
   congr 1
   have hg:(a++([x]++post)).getD n kY=x:=by simp[ha]
   rw[hg]
   simp[ha]
 have:=key E [];simpa using this
theorem FormB.low {r:Ru}(h:FormB r):G2 r.1:=by
 intro i hi k hk;have e:r.1.getD i kY=r.1[i]:=by simp[hi]
 rw[e]at hk;obtain⟨a,ha,rfl⟩:=Lj.1 hk;have:=Kf.1 (h.exps i hi).1 a ha;simp only[Jz,dg]at this;omega
theorem zN {e:Ex}(h:Ci e=true):1<=e.1/\e.1<=7/\(gW e.1=true->e.2.2.length=2)/\(e.1≠4->gW e.1=false->e.2.2=[]):=by
 unfold Ci at h;simp only[Jz,dg]at h;refine⟨h.1.1,h.1.2,λhs=>?_,λh4 hs=>?_⟩
 ·have h2:=h.2
  rw[ab hs]at h2;exact of_decide_eq_true h2
 ·have h2:=h.2
  rw[ao (by simp[hs])]at h2;simpa[h4]using h2
theorem FormB.args {r:Ru}(h:FormB r):∀a∈kJ r,a<r.1.length:=by
 intro a ha;obtain⟨l,hl,ha⟩:=Mp.1 ha;obtain⟨k,hk,rfl⟩:=Lj.1 ha;have:=Kf.1 (h.lits l hl).2 k hk;simp only[Jz,dg]at this;omega
theorem FormB.form {r:Ru}(h:FormB r):FormR r:=by
 have hget:∀i (hi:i<r.1.length),r.1.getD i kY=r.1[i]:=λi hi=>by simp[hi]
 refine⟨h.few,λe he=>?_,λe he k hk=>?_,⟨h.low,λi hi=>?_,λi hi=>?_⟩,h.head,λl hl=>?_,λj hj=>?_⟩
 ·obtain⟨i,hi,rfl⟩:=LF.1 he
  have:=zN (h.exps i hi).2;exact⟨this.1,this.2.1⟩
 ·obtain⟨i,hi,rfl⟩:=LF.1 he
  have:=Kf.1 (h.exps i hi).1 k hk;simp only[Jz,dg]at this;exact this.1
 ·rw[hget i hi]
  exact(zN (h.exps i hi).2).2.2.2
 ·rw[hget i hi]
  exact(zN (h.exps i hi).2).2.2.1
 ·obtain⟨h1,h2⟩:=h.lits l hl
  unfold vH at h1;simp only[Jz,dg,Lo,L0,vK]at h1;refine⟨h1.1,λe=>h1.2.resolve_left (λh=>h e),λa ha=>?_⟩;have:=Kf.1 h2 a ha;simpa only[Jz,dg]using this
 ·have hk:∀k∈r.1.flatMap aO,k<(Kq r.1.length (0:Int)).length:=by
   intro k hk;obtain⟨e,he,hk⟩:=Mp.1 hk;obtain⟨i,hi,rfl⟩:=LF.1 he;have:=h.low i hi k (by rw[hget i hi];exact hk)
   simp
   omega
  have hlen:(bumps (Kq r.1.length (0:Int)) (r.1.flatMap aO)).length=r.1.length:=by rw[jV];simp
  have e1:=pU (kJ r) (bumps (Kq r.1.length 0) (r.1.flatMap aO)) (λk hk=>by rw[hlen];exact h.args k hk) j;rw[pU _ _ hk j]at e1;have hj':j<(nO r).length:=by unfold nO;rw[jV,hlen];exact hj
  have h1:=h.once _ (JK hj');have e2:(nO r).getD j 0=(nO r)[j]:=by simp[hj']
  have e0:(Kq r.1.length (0:Int)).getD j 0=0:=by simp[hj]
  show(kJ r).count j+dB (λk=>(aO (r.1.getD k kY)).count j) r.1.length=1;rw[← zM];have e3:(nO r).getD j 0=_:=e1;rw[e2,h1,e0]at e3;omega
def bx (e:Ex):Nat:=3+e.2.1.size+e.2.2.length
def zO (r:Ru):Nat:=(r.1.map bx).sum+bx r.2.1+(r.2.2.map bx).sum
theorem oT (s:ByteArray):s.data.toList.length=s.size:=rfl
theorem B6 (E:List Ex):∀l:List Nat,(l.map λk=>if gW (ev E k)=true then 2 else 0).sum<=2*l.length
 |[]=>JQ _
 |k::l=>by
  have:=B6 E l;simp only[JM,Ko,Jw]
  split<;>omega
theorem HY (E:List Ex)(e:Ex):vG E e<=3*bx e:=by
 unfold vG bx
 split
 ·omega
 ·split
  ·rw[oT];omega
  ·split
   ·have:=B6 E (aO e)
    have hk:(aO e).length=e.2.2.length:=Kp ..;omega
   ·rw[oT];omega
theorem Cj (f:Ex->Nat)(E:List Ex):dB (λi=>f (E.getD i kY)) E.length=(E.map f).sum:=by
 have key:∀(pre post:List Ex),dB (λi=>f ((pre++post).getD i kY)) pre.length=(pre.map f).sum:=by
  intro pre
  induction hn:pre.length generalizing pre with
  |zero=>intro post;rw[List.length_eq_zero_iff.1 hn];rfl
  |succ n ih=>
   intro post;obtain⟨a,x,rfl⟩:∃a x,pre=a++[x]:=⟨pre.dropLast,pre.getLast (by intro e;rw[e]at hn;cases hn),(NG _).symm⟩
   have ha:a.length=n:=by simpa using hn
   have:=ih a ha ([x]++post);rw[Ka];simp only[dB];have hg:(a++([x]++post)).getD n kY=x:=by simp[ha]
   rw[this,hg]
   simp
 have:=key E [];simpa using this
theorem B7 (E:List Ex):∀l:List Ex,(l.map (vG E)).sum<=3*(l.map bx).sum
 |[]=>JU _
 |e::l=>by
  have h1:=HY E e;have h2:=B7 E l;simp only[JM,Ko];omega
theorem HZ (E:List Ex)(l:Ex):(ey E l).length<=3*bx l+((aO l).map λa=>(bf E a).length).sum:=by
 unfold ey
 split
 ·split
  ·rename_i a b hk
   simp only[JM,KI,Ko,MR,Jx,Jw,JB,hk,oT,bx];omega
  ·exact JQ _
 ·have hk:(aO l).length=l.2.2.length:=Kp ..
  simp only[Jx,Jw,JB,kl,Lq,oT,bx];show _+_+_+(((aO l).map (λa=>(bf E a).length)).sum+_)+_<=_;have h1:(if l.1=2 then [33]else([]:By)).length<=1:=by split<;>simp
  rw[Kp,hk];omega
theorem B8 (E:List Ex):∀ls:List Ex,((ls.map (ey E)).map Jr).sum<=3*(ls.map bx).sum+((ls.flatMap aO).map λa=>(bf E a).length).sum
 |[]=>JQ _
 |l::ls=>by
  have h1:=HZ E l;have h2:=B8 E ls;simp only[LC,Kz,List.sum_append,JM,Ko];omega
theorem B9:∀l:List Ex,3*l.length<=(l.map bx).sum
 |[]=>JQ _
 |e::l=>by
  have:=B9 l;simp only[JM,Ko,Jw,bx]at this⊢;omega
theorem G4 {r:Ru}(h:FormR r):(jL r).length<=7*zO r+10:=by
 have h1:=B8 r.1 (dV r);have h2:=h.tree.total;have h3:dB (λi=>vG r.1 (r.1.getD i kY)) r.1.length=(r.1.map (vG r.1)).sum:=Cj (vG r.1) r.1;have h4:=B7 r.1 r.1;have h5:=B9 r.2.2;unfold kJ dV at h2;unfold dV at h1;unfold jL zO;simp only[JM,Ko]at h1;simp only[Jx,Jw,JB]
 by_cases hb:r.2.2=[]
 ·rw[ab hb]
  rw[hb]at h1 h2⊢;simp only[KI,MR,JB]at h1 h2⊢;omega
 ·rw[ao hb]
  simp only[Jx,kl,Jw,JB,Kp];omega
def pV (l:List ByteArray)(s:ByteArray):Bool:=l.any λx=>decide (x=s)
theorem jC {l:List ByteArray}{s:ByteArray}:pV l s=true↔s∈l:=by
 unfold pV;rw[List.any_eq_true];exact⟨λ⟨x,h1,h2⟩=>of_decide_eq_true h2▸h1,λh=>⟨s,h,iX rfl⟩⟩
def jm (acc:List ByteArray)(e:Ex):List ByteArray:=if e.1=1 then(if pV acc e.2.1=true then acc else acc++[e.2.1])else acc
def bL (acc:List ByteArray)(E:List Ex):List ByteArray:=E.foldl jm acc
def kF (l:List ByteArray)(s:ByteArray):Nat:=l.findIdx λx=>decide (x=s)
theorem Ck (acc:List ByteArray)(e:Ex):∃t,jm acc e=acc++t:=by
 unfold jm
 split
 ·split
  ·exact⟨[],(KA _).symm⟩
  ·exact⟨_,rfl⟩
 ·exact⟨[],(KA _).symm⟩
theorem pW:∀(E:List Ex) (acc:List ByteArray),∃t,bL acc E=acc++t
 |[],acc=>⟨[],(KA _).symm⟩
 |e::E,acc=>by
  obtain⟨t,ht⟩:=Ck acc e;obtain⟨u,hu⟩:=pW E (jm acc e);exact⟨t++u,by show bL (jm acc e) E=_;rw[hu,ht,Ka]⟩
theorem Cl (acc:List ByteArray)(e:Ex)(h:e.1=1):e.2.1∈jm acc e:=by
 unfold jm;rw[ab h]
 split
 ·exact jC.1 ‹_›
 ·simp
theorem qr {acc:List ByteArray}(h:acc.Nodup)(e:Ex):(jm acc e).Nodup:=by
 unfold jm
 split
 ·split
  ·exact h
  ·rename_i hn
   exact List.nodup_append.2 ⟨h,by simp,λa ha b hb e=>hn (jC.2 (by rw[List.mem_singleton.1 hb]at e;exact e▸ha))⟩
 ·exact h
theorem qs:∀(E:List Ex) {acc:List ByteArray},acc.Nodup->(bL acc E).Nodup
 |[],_,h=>h
 |e::E,_,h=>qs E (qr h e)
theorem ux (acc:List ByteArray)(e:Ex):(jm acc e).length<=acc.length+1:=by
 unfold jm
 split
 ·split<;>simp
 ·omega
theorem lT:∀(E:List Ex) (acc:List ByteArray),(bL acc E).length<=acc.length+E.length
 |[],_=>JU _
 |e::E,acc=>by
  have h1:=lT E (jm acc e);have h2:=ux acc e;show(bL (jm acc e) E).length<=_;rw[Jw];omega
theorem G5 {l t:List ByteArray}{s:ByteArray}(h:s∈l):kF (l++t) s=kF l s:=by
 unfold kF;rw[List.findIdx_append,ab];exact Nn ⟨s,h,by simp⟩
theorem sT {l:List ByteArray}{s:ByteArray}(h:s∈l):kF l s<l.length:=Nn ⟨s,h,by simp⟩
theorem Ba {l:List ByteArray}{s:ByteArray}(h:s∈l):l[kF l s]'(sT h)=s:=by
 have:=List.findIdx_getElem (xs:=l) (p:=λx=>decide (x=s)) (w:=sT h);exact of_decide_eq_true this
theorem Ee {l:List ByteArray}(hn:l.Nodup){s:ByteArray}{k:Nat}(hk:k<l.length)(h:l[k]=s):k=kF l s:=by
 have hm:s∈l:=h▸JK hk;have hg:=Ba hm;have hlt:=sT hm;have hp:=List.pairwise_iff_getElem.1 hn;rcases Nat.lt_trichotomy k (kF l s)with h1|h1|h1
 ·exact bH (h.trans hg.symm) (hp k _ hk hlt h1)
 ·exact h1
 ·exact bH (hg.trans h.symm) (hp _ k hlt hk h1)
theorem xY {E:List Ex}{i:Nat}(hi:i<E.length)(h1:E[i].1=1)(acc:List ByteArray):E[i].2.1∈bL acc (E.take (i+1))/\kF (bL acc E) E[i].2.1=kF (bL acc (E.take (i+1))) E[i].2.1:=by
 have hm:E[i].2.1∈bL acc (E.take (i+1)):=by
  rw[JG hi];unfold bL;rw[L6];exact Cl _ _ h1
 refine⟨hm,?_⟩;obtain⟨t,ht⟩:=pW (E.drop (i+1)) (bL acc (E.take (i+1)));have:bL acc E=bL acc (E.take (i+1))++t:=by
  rw[← ht];unfold bL;rw[← L6,KR]
 rw[this,G5 hm]
theorem sU {E:List Ex}{i:Nat}(hi:i<E.length)(acc:List ByteArray):bL acc (E.take (i+1))=jm (bL acc (E.take i)) E[i]:=by
 rw[JG hi];unfold bL;rw[L6]
 rfl
section
variable {α:Type}
theorem jq {l:List α}{i:Nat}(h:i<l.length):decide ((i:Int)<(l.length:Int))=true:=by simp[h]
theorem km {l:List α}{i:Nat}(h:¬i<l.length):¬decide ((i:Int)<(l.length:Int))=true:=by simp;omega
theorem inl' {l:List α}{i:Nat}(h:i<l.length):(0:Int)<=(i:Int)/\(i:Int)<(l.length:Int):=by omega
theorem aE {l:List α}{i:Nat}(d:α)(h:i<l.length):Jv l (Jt (i:Int)) d=l[i]:=by simp[h]
end
theorem iY {i:Nat}(h:i<=4294967296):Ju.wrap ((i:Int)+1)=((i+1:Nat):Int):=by rw[aK _ (by omega) (by omega)];omega
def Cnt (u:List Int)(m:Nat)(C:Int):Prop:=u.length=m/\∀q,0<=u.getD q 0/\u.getD q 0<=C
theorem Cnt.bump {u:List Int}{m:Nat}{C:Int}(h:Cnt u m C){k:Nat}(hk:k<m):Cnt (bump u k) m (C+1):=by
 refine⟨(sS u k).trans h.1,λq=>?_⟩;rw[xX (by rw[h.1];exact hk)];have:=h.2 q
 split<;>omega
theorem Cnt.mono {u:List Int}{m:Nat}{C D:Int}(h:Cnt u m C)(hc:C<=D):Cnt u m D:=⟨h.1,λq=>⟨(h.2 q).1,Int.le_trans (h.2 q).2 hc⟩⟩
def lA (m:Nat)(k:Int):Bool:=decide (0<=k)&&decide (k<(m:Int))
theorem oU {β:Type}(f:Nat->Int->List Int->Option β)(kids:List Int)(m i:Nat)(R:Option β)(K:List Int->Option β)(hi:i<=m)
  (hs:∀k j u (h:j<kids.length),u.length=m->(∀q,0<=u.getD q 0/\u.getD q 0<=4000000000000000000)->f (k+1) (j:Int) u=if lA i kids[j]=true then f k ((j+1:Nat):Int) (bump u kids[j].toNat)else R)
  (he:∀k u,f (k+1) (kids.length:Int) u=K u):∀(k j:Nat) (u:List Int) (C:Int),j<=kids.length->kids.length - j<k->Cnt u m C->C+(kids.length:Int)<=4000000000000000000+j->
  f k (j:Int) u=if(kids.drop j).all (lA i)=true then K (bumps u ((kids.drop j).map Jt))else R
 |0,j,u,C,_,hk,_,_=>bH hk (JL _)
 |k+1,j,u,C,hj,hk,hu,hC=>by
  by_cases h:j<kids.length
  ·rw[hs k j u h hu.1 (λq=>⟨(hu.2 q).1,by have:=(hu.2 q).2;omega⟩),JH h]
   by_cases hin:lA i kids[j]=true
   ·have hlt:kids[j].toNat<m:=by
     unfold lA at hin;simp only[Jz,dg]at hin;omega
    rw[ab hin,oU f kids m i R K hi hs he k (j+1) _ (C+1) (by omega) (by omega) (hu.bump hlt) (by omega)];simp only[KB,hin,KD,JM]
    rfl
   ·rw[ao hin,ao (λh'=>by
     rw[KB,Jz]at h';exact hin h'.1)]
  ·obtain rfl:j=kids.length:=by omega
   rw[he,JJ (JU _)]
   rfl
theorem sV (n:Nat)(a b c:Int):eE.F n a b c=some (decide (b<=a/\a<=c)):=by
 unfold eE.F
 by_cases h1:b<=a<;>by_cases h2:a<=c<;>simp[h1,h2]
theorem vI {i:Nat}{k:Int}:decide ((0:Int)<=k/\k<=(i:Int) - 1)=lA i k:=by
 unfold lA
 by_cases h1:(0:Int)<=k<;>by_cases h2:k<(i:Int)
 ·simp[h1,h2];omega
 ·simp[h1,h2];omega
 ·simp[h1]
 ·simp[h1]
def mq:List Ex->Nat->Bool
 |[],_=>true
 |e::l,i=>J0 i e&&Ci e&&mq l (i+1)
def oV (m:Nat):List Ex->Nat->Bool
 |[],_=>true
 |l::ls,i=>(if i=0 then decide (l.1=1)else true)&&vH l&&yn m l&&oV m ls (i+1)
theorem zP (i:Nat)(e:Ex):J0 i e=e.2.2.all (lA i):=rfl
theorem oW {u:List Int}{k:Int}{m i:Nat}(hm:u.length=m)(hi:i<=m)(hk:lA i k=true)(hu:∀q,0<=u.getD q 0/\u.getD q 0<=4000000000000000000):
  ((0:Int)<=k/\k<(u.length:Int))/\List.set u (Jt k) (Ju.wrap (Jv u (Jt k) 0+1))=bump u k.toNat:=by
 unfold lA at hk;simp only[Jz,dg]at hk;refine⟨by omega,?_⟩;have:=hu k.toNat;rw[aK _ (by omega) (by omega)]
 rfl
section
variable (n:Nat) (hn:1100000<=n) (r:Ru) (hE:r.1.length<=1048576) (hkids:∀e∈r.1,e.2.2.length<=1048576)
theorem I0 (i:Nat)(t8:List Ex)(t9 t10:Int)(kids:List Int)(hk:kids.length<=1048576)(t16:Ex)(K:List Int->Option Bool)(m:Nat)(hi:i<=m)(him:i<=4294967296){C:Int}{u:List Int}(hu:Cnt u m C)(hC:C<=4000000000000)(hn:1100000<=n):
  bI.l1 n (i:Int) t8 t9 t10 kids (kids.length:Int) r t16 K n 0 u=if kids.all (lA i)=true then K (bumps u (kids.map Jt))else some false:=by
 have:=oU (λk j u=>bI.l1 n (i:Int) t8 t9 t10 kids (kids.length:Int) r t16 K k j u) kids m i (some false) K hi (λk j u h hm hq=>by
   conv=>lhs;unfold bI.l1
   rw[ab (jq h),ab (inl' h),aE _ h,aK _ (by omega) (by omega),sV,vI,Jp,iY (by omega)]
   by_cases hin:lA i kids[j]=true
   ·obtain⟨h1,h2⟩:=oW hm hi hin hq
    rw[ao (by simp[hin]),ab h1,ab h1,h2,ab hin]
   ·rw[ab (by simpa using hin),ao hin]) (λk u=>by
   conv=>lhs;unfold bI.l1
   rw[ao (by simp)]) n 0 u C (JQ _) (by omega) hu (by omega)
 rw[JY]at this;exact this
theorem I1 (t38:List Ex)(t39 t40:Int)(kids:List Int)(hk:kids.length<=1048576)(K:List Int->Option Bool)(hE:r.1.length<=1048576){C:Int}{u:List Int}(hu:Cnt u r.1.length C)(hC:C<=4000000000000)(hn:1100000<=n):
  bI.l4 n t38 t39 t40 kids (kids.length:Int) r K n 0 u=if kids.all (lA r.1.length)=true then K (bumps u (kids.map Jt))else some false:=by
 have:=oU (λk j u=>bI.l4 n t38 t39 t40 kids (kids.length:Int) r K k j u) kids r.1.length r.1.length (some false) K (JU _) (λk j u h hm hq=>by
   conv=>lhs;unfold bI.l4
   rw[ab (jq h),ab (inl' h),aE _ h,aK _ (by omega) (by omega),sV,vI,Jp,iY (by omega)]
   by_cases hin:lA r.1.length kids[j]=true
   ·obtain⟨h1,h2⟩:=oW hm (JU _) hin hq
    rw[ao (by simp[hin]),ab h1,ab h1,h2,ab hin]
   ·rw[ab (by simpa using hin),ao hin]) (λk u=>by
   conv=>lhs;unfold bI.l4
   rw[ao (by simp)]) n 0 u C (JQ _) (by omega) hu (by omega)
 rw[JY]at this;exact this
theorem Cnt.bumps {u:List Int}{m:Nat}{C:Int}(h:Cnt u m C):∀(ks:List Nat),(∀k∈ks,k<m)->Cnt (bumps u ks) m (C+(ks.length:Int)):=by
 intro ks
 induction ks generalizing u C with
 |nil=>intro _;exact h.mono (by simp)
 |cons k ks ih=>
  intro hk;have:=ih (h.bump (hk k JN)) λx hx=>hk x (JR _ hx)
  exact this.mono (by simp;omega)
theorem pX {m:Nat}{ks:List Int}(h:ks.all (lA m)=true):∀k∈ks.map Jt,k<m:=by
 intro k hk;obtain⟨a,ha,rfl⟩:=Lj.1 hk;have:=Kf.1 h a ha;unfold lA at this;simp only[Jz,dg]at this;omega
theorem all_lt' {m i:Nat}(hi:i<=m){ks:List Int}(h:ks.all (lA i)=true):∀k∈ks.map Jt,k<m:=λk hk=>Nat.lt_of_lt_of_le (pX h k hk) hi
theorem Ef (hn:1100000<=n)(hE:r.1.length<=1048576)(hkids:∀e∈r.1,e.2.2.length<=1048576)(K:List Int->Option Bool):∀(k i:Nat) (u:List Int),i<=r.1.length->r.1.length - i<k->Cnt u r.1.length ((i:Int)*1048576)->
  bI.l0 n r.1 (r.1.length:Int) r K k (i:Int) u=if mq (r.1.drop i) i=true then K (bumps u ((r.1.drop i).flatMap aO))else some false
 |0,i,u,_,hk,_=>bH hk (JL _)
 |k+1,i,u,hi,hk,hu=>by
  by_cases h:i<r.1.length
  ·have hke:=hkids _ (JK h)
   conv=>lhs;unfold bI.l0
   rw[ab (jq h),ab (inl' h)];simp only[aE _ h];rw[I0 n r i r.1 _ _ _ hke _ _ r.1.length (by omega) (by omega) hu (by omega) hn,JH h];generalize r.1[i]=e at hke⊢
   by_cases hK:e.2.2.all (lA i)=true
   ·rw[ab hK]
    have hu2:=(hu.bumps _ (all_lt' (Nq h) hK)).mono (D:=((i+1:Nat):Int)*1048576) (by rw[Kp];omega);have ih:=Ef hn hE hkids K k (i+1) _ (by omega) (by omega) hu2;have hc:mq (e::r.1.drop (i+1)) i=(Ci e&&mq (r.1.drop (i+1)) (i+1)):=by simp[mq,zP,hK]
    have hfl:bumps u ((e::r.1.drop (i+1)).flatMap aO)=bumps (bumps u (e.2.2.map Jt)) ((r.1.drop (i+1)).flatMap aO):=by
     rw[LC,kK];rfl
    rw[hc,hfl,iY (by omega),ih];unfold gZ.F;simp only[sV,Jp];unfold Ci gW
    by_cases h1:1<=e.1/\e.1<=7
    ·by_cases h5:5<=e.1
     ·by_cases hl:e.2.2.length=2
      ·simp[h1,h5,hl,show¬e.1<=3 by omega]
      ·have:¬(e.2.2.length:Int)=2:=by omega
       simp[h1,h5,hl,this]
     ·by_cases h4:e.1=4
      ·simp[h4]
      ·have h3:e.1<=3:=by omega
       cases hq:e.2.2 with
       |nil=>simp[h1,h5,h3,h4]
       |cons a l=>simp[h1,h5,h3,h4]
    ·have hd:decide (1<=e.1/\e.1<=7)=false:=by simpa using h1
     have hd2:(decide (1<=e.1)&&decide (e.1<=7))=false:=by
      cases ha:decide (1<=e.1)<;>cases hb:decide (e.1<=7)<;>simp_all
     simp[hd,hd2]
   ·rw[ao hK,ao (by simp[mq,zP,hK])]
  ·obtain rfl:i=r.1.length:=by omega
   conv=>lhs;unfold bI.l0
   rw[ao (by simp),JJ (JU _)]
   rfl
theorem I2 (hn:1100000<=n)(hE:r.1.length<=1048576)(t32:List Ex)(t33 t34:Int)(l:Ex)(hl:l.2.2.length<=1048576)(K:List Int->Option Bool){C:Int}{u:List Int}(hu:Cnt u r.1.length C)(hC:C<=4000000000000):
  bI.j3 n t32 t33 t34 r u l K=if yn r.1.length l=true then K (bumps u (aO l))else some false:=by
 unfold bI.j3;rw[I1 n r t32 t33 t34 _ hl _ hE hu hC hn]
 rfl
theorem Eg (hn:1100000<=n)(hE:r.1.length<=1048576)(ts:List Ex)(hts:ts.length<=1048577)(hargs:∀l∈ts,l.2.2.length<=1048576)(K:List Int->Option Bool):∀(k i:Nat) (u:List Int),i<=ts.length->ts.length - i<k->Cnt u r.1.length (1048576*1048576+(i:Int)*1048576)->
  bI.l2 n ts (ts.length:Int) r K k (i:Int) u=if oV r.1.length (ts.drop i) i=true then K (bumps u ((ts.drop i).flatMap aO))else some false
 |0,i,u,_,hk,_=>bH hk (JL _)
 |k+1,i,u,hi,hk,hu=>by
  by_cases h:i<ts.length
  ·have hle:=hargs _ (JK h)
   conv=>lhs;unfold bI.l2
   rw[ab (jq h),ab (inl' h)];simp only[aE _ h];rw[JH h];generalize ts[i]=l at hle⊢;have hj:=λK'=>I2 n r hn hE ts (ts.length:Int) (i:Int) l hle K' hu (by omega)
   simp only[hj,sV,Jp];have hfl:bumps u ((l::ts.drop (i+1)).flatMap aO)=bumps (bumps u (aO l)) ((ts.drop (i+1)).flatMap aO):=by
    rw[LC,kK]
   have hc:oV r.1.length (l::ts.drop (i+1)) i=((if i=0 then decide (l.1=1)else true)&&(vH l&&(yn r.1.length l&&oV r.1.length (ts.drop (i+1)) (i+1)))):=by
    simp only[oV,Bool.and_assoc]
   rw[hfl,hc,iY (by omega)];have main:(if yn r.1.length l=true then bI.l2 n ts (ts.length:Int) r K k ((i+1:Nat):Int) (bumps u (aO l))else some false)=
     if(yn r.1.length l&&oV r.1.length (ts.drop (i+1)) (i+1))=true then K (bumps (bumps u (aO l)) ((ts.drop (i+1)).flatMap aO))else some false:=by
    by_cases hA:yn r.1.length l=true
    ·have hu2:=(hu.bumps _ (pX (show l.2.2.all (lA r.1.length)=true from hA))).mono (D:=1048576*1048576+((i+1:Nat):Int)*1048576) (by rw[Kp];omega)
     have ih:=Eg hn hE ts hts hargs K k (i+1) _ (by omega) (by omega) hu2;rw[ab hA,hA,KD];exact ih
    ·rw[ao hA,ao (by simp[hA])]
   rw[main];generalize(yn r.1.length l&&oV r.1.length (ts.drop (i+1)) (i+1))=b;generalize K (bumps (bumps u (aO l)) ((ts.drop (i+1)).flatMap aO))=y;have hi0:decide ((i:Int)=0)=decide (i=0):=by simp
   have hl2:decide ((l.2.2.length:Int)=2)=decide (l.2.2.length=2):=by
    by_cases hl:l.2.2.length=2
    ·simp[hl]
    ·have:¬(l.2.2.length:Int)=2:=by omega
     simp[hl,this]
   have hk3:vH l=(decide (1<=l.1/\l.1<=3)&&(!decide (l.1=3)||decide (l.2.2.length=2))):=by
    unfold vH;rw[NH]
   rw[hi0,hl2,hk3]
   by_cases c0:i=0
   ·simp only[c0,decide_true,if_true]
    cases decide (l.1=1)<;>cases decide (1<=l.1/\l.1<=3)<;>cases decide (l.1=3)<;>cases decide (l.2.2.length=2)<;>cases b<;>rfl
   ·simp only[c0,decide_false,if_false]
    cases decide (1<=l.1/\l.1<=3)<;>cases decide (l.1=3)<;>cases decide (l.2.2.length=2)<;>cases b<;>rfl
  ·obtain rfl:i=ts.length:=by omega
   conv=>lhs;unfold bI.l2
   rw[ao (by simp),JJ (JU _)]
   rfl
end
theorem xZ (n:Nat)(u:List Int)(hu:u.length<=1048576)(hn:1100000<=n):df.F n u (λa55=>(fE.F n a55.1).bind some)=some (u.any λx=>!decide (x=1)):=by
 have key:∀(k i:Nat),i<=u.length->u.length - i<k->∃z:Int,cL.l0 n u (λa55=>(fE.F n a55.1).bind some) (u.length:Int) (λ_=>some (-1)) k (i:Int)=some z/\decide (z>=0)=(u.drop i).any λx=>!decide (x=1):=by
  intro k
  induction k with
  |zero=>intro i _ h;exact bH h (JL _)
  |succ k ih=>
   intro i hi hk
   by_cases h:i<u.length
   ·conv=>enter [1,z,1,1];unfold cL.l0
    simp only[ab (jq h),ab (inl' h),aE _ h,fE.F,Jp];rw[JH h]
    by_cases e:u[i]=1
    ·obtain⟨z,z1,z2⟩:=ih (i+1) (by omega) (by omega)
     refine⟨z,?_,?_⟩
     ·rw[ao (by simp[e]),iY (by omega)]
      exact z1
     ·rw[z2,MP]
      simp[e]
    ·exact⟨(i:Int),by rw[ab (by simp[e])],by rw[MP];simp[e]⟩
   ·refine⟨-1,?_,?_⟩
    ·conv=>lhs;unfold cL.l0
     rw[ao (km h)]
    ·rw[JJ (by omega)]
     rfl
 obtain⟨z,z1,z2⟩:=key n 0 (JQ _) (by omega);unfold df.F cL.F;rw[show(0:Int)=((0:Nat):Int)from rfl,z1,Jp];rw[JY]at z2;show some (decide (z>=0))=_;rw[z2]
theorem lU:∀{l:List Ex} {i:Nat},mq l i=true↔∀j (h:j<l.length),J0 (i+j) l[j]=true/\Ci l[j]=true
 |[],i=>⟨λ_ j h=>bH h (JL _),λ_=>rfl⟩
 |e::l,i=>by
  have ih:=lU (l:=l) (i:=i+1);simp only[mq,Jz];rw[ih]
  constructor
  ·rintro⟨h1,h2⟩ j hj
   cases j with
   |zero=>exact h1
   |succ j=>
    have:=h2 j (by simpa using hj);rw[show i+(j+1)=i+1+j by omega];exact this
  ·intro h
   refine⟨h 0 (by simp),λj hj=>?_⟩;have:=h (j+1) (by simpa using hj);rw[show i+(j+1)=i+1+j by omega]at this;exact this
theorem y5 {m:Nat}:∀{l:List Ex} {i:Nat},oV m l (i+1)=true↔∀x∈l,vH x=true/\yn m x=true
 |[],i=>⟨λ_ _ h=>by(cases h),λ_=>rfl⟩
 |e::l,i=>by
  have ih:=y5 (m:=m) (l:=l) (i:=i+1);simp only[oV,Nat.add_eq_zero_iff,Nat.one_ne_zero,and_false,if_false,KD,Jz];rw[ih]
  constructor
  ·rintro⟨h1,h2⟩ x hx
   rcases JX.1 hx with rfl|hx
   ·exact h1
   ·exact h2 x hx
  ·intro h
   exact⟨h e JN,λx hx=>h x (JR _ hx)⟩
def qt (r:Ru):Bool:=mq r.1 0&&oV r.1.length (dV r) 0&&decide (r.1.length<=60)&& !((nO r).any λx=>!decide (x=1))
theorem jW {r:Ru}:qt r=true↔FormB r:=by
 unfold qt;simp only[Jz,dg,L0,Mo,Bool.not_eq_false',Bool.not_eq_true];rw[lU];have hl:oV r.1.length (dV r) 0=true↔r.2.1.1=1/\∀l∈dV r,vH l=true/\yn r.1.length l=true:=by
  unfold dV;simp only[oV,if_true,Jz,dg];rw[y5]
  constructor
  ·rintro⟨⟨⟨h1,h2⟩,h3⟩,h4⟩
   refine⟨h1,λx hx=>?_⟩;rcases JX.1 hx with rfl|hx
   ·exact⟨h2,h3⟩
   ·exact h4 x hx
  ·rintro⟨h1,h2⟩
   exact⟨⟨⟨h1,(h2 _ JN).1⟩,(h2 _ JN).2⟩,λx hx=>h2 x (JR _ hx)⟩
 rw[hl]
 constructor
 ·rintro⟨⟨⟨h1,h2,h3⟩,h4⟩,h5⟩
  exact⟨h4,λi h=>by have:=h1 i h;rwa [Ll]at this,h2,h3,λx hx=>by simpa using h5 x hx⟩
 ·intro h
  exact⟨⟨⟨λi hi=>by have:=h.exps i hi;rwa [Ll],h.head,h.lits⟩,h.few⟩,λx hx=>by simpa using h.once x hx⟩
structure SmR (r:Ru):Prop where
 exps:r.1.length<=1048576
 body:r.2.2.length<=1048576
 kids:∀e∈r.1,e.2.2.length<=1048576
 args:∀l∈dV r,l.2.2.length<=1048576
 all:zO r<=8000000
theorem y6 (n:Nat)(hn:1100000<=n)(r:Ru)(S:SmR r):bI.F n r=some (qt r):=by
 have hE:=S.exps;have hB:=S.body;have hlen:(dV r).length=r.2.2.length+1:=rfl;unfold bI.F;rw[ab (by refine⟨by omega,Int.le_refl _,?_⟩;simp[aT];omega),JS];have h0:Cnt (Kq r.1.length (0:Int)) r.1.length (((0:Nat):Int)*1048576):=⟨by simp,λq=>by
  rw[Lm,N0]
  split<;>simp⟩
 have e0:=λK=>Ef n r hn hE S.kids K n 0 _ (JQ _) (by omega) h0
 simp only[show((0:Nat):Int)=0 from rfl,JY]at e0;rw[e0];unfold qt
 by_cases c1:mq r.1 0=true
 ·rw[ab c1,c1,KD]
  have hk:∀k∈r.1.flatMap aO,k<r.1.length:=by
   intro k hk;obtain⟨e,he,hk⟩:=Mp.1 hk;obtain⟨i,hi,rfl⟩:=LF.1 he;have:=pX (show r.1[i].2.2.all (lA i)=true by have:=(lU.1 c1 i hi).1;rwa [Ll]at this) k hk;omega
  have hC:((r.1.flatMap aO).length:Int)<=1048576*1048576:=by
   have:∀l:List Ex,(∀e∈l,e.2.2.length<=1048576)->(l.flatMap aO).length<=l.length*1048576:=by
    intro l
    induction l with
    |nil=>intro _;simp
    |cons e l ih=>
     intro h;have h1:=ih λx hx=>h x (JR _ hx)
     have h2:=h e JN;rw[LC,Jx,Jw];have:(aO e).length=e.2.2.length:=Kp ..;omega
   have h1:=this r.1 S.kids;have:r.1.length*1048576<=1048576*1048576:=Kk _ hE;omega
  have hu:=(Cnt.bumps h0 _ hk).mono (D:=1048576*1048576+((0:Nat):Int)*1048576) (by omega);unfold jG.F;rw[ab (by simp[aT];omega),Jp];have e2:=λK=>Eg n r hn hE ([r.2.1]++r.2.2) (by simp;omega) S.args K n 0 _ (JQ _) (by simp;omega) hu
  simp only[show((0:Nat):Int)=0 from rfl,JY]at e2;rw[e2,show [r.2.1]++r.2.2=dV r from rfl]
  by_cases c2:oV r.1.length (dV r) 0=true
  ·rw[ab c2,c2,KD]
   by_cases c3:r.1.length<=60
   ·rw[ab (by simp;omega),iX c3,KD]
    have hul:(bumps (bumps (Kq r.1.length 0) (r.1.flatMap aO)) ((dV r).flatMap aO)).length<=1048576:=by rw[jV,jV];simp;omega
    rw[xZ n _ hul hn,Jp]
    rfl
   ·rw[ao (by simp;omega),dq c3]
    rfl
  ·rw[ao c2]
   have:oV r.1.length (dV r) 0=false:=by simpa using c2
   rw[this]
   rfl
 ·rw[ao c1]
  have:mq r.1 0=false:=by simpa using c1
  rw[this]
  rfl
theorem Eh (n:Nat)(k:Int):gZ.F n k=some (gW k):=by
 unfold gZ.F;rw[sV,Jp];unfold gW;rw[NH]
section
variable {r:Ru} (h:FormB r) (S:SmR r)
theorem FormB.total (h:FormB r)(S:SmR r):(jL r).length<=56000010:=by
 have h1:=G4 h.form;have h2:=S.all;omega
theorem FormB.tlen (h:FormB r)(S:SmR r){i:Nat}(hi:i<r.1.length):(bf r.1 i).length<=56000010:=Me (Ed h.form hi) (h.total S)
abbrev Tx (r:Ru)(k:Int):ByteArray:=bt (bf r.1 k.toNat)
theorem y7 (g:Nat)(s75:Ru->Int->Option ByteArray)(s76:Ru->List Int->Option ByteArray)(s82:Int->Ru->Option ByteArray)(kids:List Int)(hk:kids.length<=1048576)(hself:∀k∈kids,s75 r k=some (Tx r k))(K:List ByteArray->Option ByteArray):∀(k j:Nat),j<=kids.length->kids.length - j<k->
  ar.l0 g s75 s76 s82 kids (kids.length:Int) r K k (j:Int) ((kids.take j).map (Tx r))=K (kids.map (Tx r))
 |0,j,_,hj=>bH hj (JL _)
 |k+1,j,hj,hk1=>by
  by_cases h:j<kids.length
  ·conv=>lhs;unfold ar.l0
   rw[ab (jq h),ab (inl' h),aE _ h,hself _ (JK h),Jp,ab (by simp[aT];omega),iY (by omega)];have:=y7 g s75 s76 s82 kids hk hself K k (j+1) (by omega) (by omega);rw[JG h,Kz]at this;exact this
  ·conv=>lhs;unfold ar.l0
   rw[ao (km h),JT (by omega)]
theorem Bb (n:Nat)(l:List By)(hl:l.length<=4294967296)(hj:(KG l [44,32]).length<=4294967296):cJ.F n (l.map bt) ⟨#[44,32]⟩=some (bt (KG l [44,32])):=by
 unfold cJ.F;have e:(l.map bt).map (λx=>x.data.toList)=l:=by
  rw[Lq]
  conv=>rhs;rw[← List.map_id l]
  exact MA λa _=>eB a
 have e2:((⟨#[44,32]⟩:ByteArray).data.toList)=[44,32]:=rfl;rw[e,e2,ab ⟨by rw[Kp];exact hl,hj⟩]
 rfl
theorem y8 (g:Nat)(s75:Ru->Int->Option ByteArray)(s76:Ru->List Int->Option ByteArray)(s82:Int->Ru->Option ByteArray)(kids:List Int)(hk:kids.length<=1048576)(hg:1048577<=g)(hself:∀k∈kids,s75 r k=some (Tx r k))
  (hj:(KG ((kids.map Jt).map (bf r.1)) [44,32]).length<=4294967296):ar.G g s75 s76 s82 r kids=some (bt (KG ((kids.map Jt).map (bf r.1)) [44,32])):=by
 unfold ar.G;have:=y7 g s75 s76 s82 kids hk hself (λout9=>(cJ.F g out9 ⟨#[44,32]⟩).bind λr10=>some r10) g 0 (JQ _) (by omega);rw[show((0:Nat):Int)=0 from rfl]at this;rw[KF]at this;refine this.trans ?_;have e:kids.map (Tx r)=((kids.map Jt).map (bf r.1)).map bt:=by simp[Lq,Function.comp_def]
 rw[e,Bb g _ (by simp;omega) hj,Jp]
theorem Bc (g:Nat)(s75:Ru->Int->Option ByteArray)(s76:Ru->List Int->Option ByteArray)(s82:Int->Ru->Option ByteArray){k:Nat}(hk:k<r.1.length)(hself:s75 r (k:Int)=some (bt (bf r.1 k)))(ht:(bf r.1 k).length<=56000010):
  aM.G g s75 s76 s82 (k:Int) r=some (bt (my (ev r.1 k) (bf r.1 k))):=by
 unfold aM.G;have e0:Jv r.1 (Jt (k:Int)) (0,(Jq,[]))=r.1.getD k kY:=by rw[JS]
 rw[ab (inl' hk),e0,Eh,Jp,hself];unfold my ev
 by_cases c:gW (r.1.getD k kY).1=true
 ·rw[ab c,ab c,Jp]
  rw[show(⟨#[40]⟩:ByteArray)=bt [40]from rfl,show(⟨#[41]⟩:ByteArray)=bt [41]from rfl];simp only[ap,ah,Jx,Jw,JB];rw[ab (by simp only[aT];omega),ab (by simp only[aT];omega)]
 ·rw[ao c,ao c,Jp]
theorem I3 (g:Nat)(s75:Ru->Int->Option ByteArray)(s76:Ru->List Int->Option ByteArray)(s82:Int->Ru->Option ByteArray)(e:Ex)(hs:gW e.1=true){a b:Int}(hab:e.2.2=[a,b]){A B:By}(hA:s82 a r=some (bt A))(hB:s82 b r=some (bt B))
  (hl:A.length+B.length<=60000000) (Kn:Unit->Option ByteArray):ax.j0 g s75 s76 s82 true r e Kn=some (bt (A++GY e.1++B)):=by
 have hop:∃c:UInt8,((0:Int)<=Ju.wrap (e.1 - 5)/\Ju.wrap (e.1 - 5)<(Jr ([⟨#[43]⟩,⟨#[45]⟩,⟨#[42]⟩]:List ByteArray):Int))/\Jv ([⟨#[43]⟩,⟨#[45]⟩,⟨#[42]⟩]:List ByteArray) (Jt (Ju.wrap (e.1 - 5))) Jq=bt [c]/\GY e.1=[32,c,32]:=by
  unfold gW at hs;simp only[Jz,dg]at hs;have:e.1=5\/e.1=6\/e.1=7:=by omega
  rcases this with h|h|h<;>rw[h]
  ·exact⟨43,by decide,rfl,rfl⟩
  ·exact⟨45,by decide,rfl,rfl⟩
  ·exact⟨42,by decide,rfl,rfl⟩
 obtain⟨c,h1,h2,h3⟩:=hop;unfold ax.j0;rw[hab,show(⟨#[32]⟩:ByteArray)=bt [32]from rfl,ab rfl,ab (by simp),show Jv [a,b] 0 0=a from rfl,hA,Jp,ab (by simp only[ah,Jw,JB,aT];omega),ab h1,h2,
  ab (by simp only[ap,ah,Jx,Jw,JB,aT];omega),ab (by simp only[ap,ah,Jx,Jw,JB,aT];omega),ab (by simp),
  show Jv [a,b] 1 0=b from rfl,hB,Jp,ab (by simp only[ap,ah,Jx,Jw,JB,aT];omega),h3]
 simp only[ap]
 congr 2
 simp
theorem IM (h:FormB r)(S:SmR r):∀(i f:Nat),i<r.1.length->1048600+3*i<=f->(eQ f).1 r (i:Int)=some (bt (bf r.1 i)):=by
 intro i
 induction i using Nat.strongRecOn with
 |ind i ih=>
  intro f hi hf;obtain⟨g,rfl⟩:∃g,f=g+2:=⟨f - 2,by omega⟩
  show ax.G (g+1) (eQ (g+1)).1 (eQ (g+1)).2.1 (eQ (g+1)).2.2 r (i:Int)=_;have hlow:=h.low i hi;have hT:=h.tlen S hi;have hF:=h.form.exps;rw[uw h.low hi]at hT⊢;have e0:Jv r.1 (Jt (i:Int)) (0,(Jq,[]))=r.1.getD i kY:=by rw[JS]
  have hmem:r.1.getD i kY∈r.1:=by
   have:r.1.getD i kY=r.1[i]:=by simp[hi]
   rw[this];exact JK hi
  have hkn:=h.form.nn _ hmem;have hkl:=S.kids _ hmem;have htwo:=hF.two i hi;unfold ax.G;rw[ab (inl' hi),e0];generalize r.1.getD i kY=e at*;have hkid:∀k∈e.2.2,∃q:Nat,k=(q:Int)/\q<i/\q<r.1.length/\q∈aO e:=λk hk=>by
   obtain⟨q,rfl⟩:=Mj (hkn k hk);have hq:q∈aO e:=Lj.2 ⟨_,hk,JS q⟩;have:=hlow q hq;exact⟨q,rfl,this,by omega,hq⟩
  by_cases c2:e.1=2
  ·rw[ab (by simp[c2])]
   unfold mD;rw[ab c2]
   rfl
  rw[ao (by simpa using c2)]
  by_cases c4:e.1=4
  ·rw[ab (by simp[c4])]
   have hs4:¬gW e.1=true:=by rw[c4];decide
   by_cases hk:e.2.2=[]
   ·rw[ao (by simp[hk])]
    unfold mD;rw[ao c2,ao (λhh=>hh.2 hk),ao hs4,← jK]
   ·have hpos:0<e.2.2.length:=Ly.2 hk
    have hT':=hT;unfold mD at hT'⊢;rw[ao c2,ab (show e.1=4/\e.2.2≠[]from⟨c4,hk⟩)]at hT'⊢;simp only[Jx,Jw,JB]at hT';have hte:=y8 g (eQ g).1 (eQ g).2.1 (eQ g).2.2 e.2.2 hkl (by omega) (λk hk'=>by
     obtain⟨q,rfl,h1,h2,_⟩:=hkid k hk';rw[ih q h1 g h2 (by omega)]
     rfl) (by
     show(KG ((aO e).map (bf r.1)) [44,32]).length<=_
     omega)
    have hte2:(eQ (g+1)).2.1 r e.2.2=some (bt (KG ((aO e).map (bf r.1)) [44,32])):=hte;rw[ab (by simp;omega),hte2];have e1:e.2.1=bt e.2.1.data.toList:=jK _;rw[e1,show(⟨#[40]⟩:ByteArray)=bt [40]from rfl,show(⟨#[41]⟩:ByteArray)=bt [41]from rfl];simp only[eB,ap,ah,Jx,Jw,JB,Jp];rw[ab (by simp only[aT];omega),ab (by simp only[aT];omega),ab (by simp only[aT];omega)]
  rw[ao (by simpa using c4)]
  by_cases hs:gW e.1=true
  ·have hlen:=htwo hs
   match hab:e.2.2,hlen with
   |[a,b],_=>
    obtain⟨p,rfl,p1,p2,p3⟩:=hkid a (by rw[hab];simp);obtain⟨q,rfl,q1,q2,q3⟩:=hkid b (by rw[hab];simp);have hA:=Bc g (eQ g).1 (eQ g).2.1 (eQ g).2.2 p2 (ih p p1 g p2 (by omega)) (h.tlen S p2);have hB:=Bc g (eQ g).1 (eQ g).2.1 (eQ g).2.2 q2 (ih q q1 g q2 (by omega)) (h.tlen S q2);have hN:aO e=[p,q]:=by unfold aO;rw[hab];simp
    have hx:mD (ev r.1) (bf r.1) e=my (ev r.1 p) (bf r.1 p)++GY e.1++my (ev r.1 q) (bf r.1 q):=by
     unfold mD;rw[ao c2,ao (λhh=>c4 hh.1),ab hs,hN]
    rw[hx]at hT⊢;simp only[Jx]at hT;have key:=λKn=>I3 (r:=r) (g+1) (eQ (g+1)).1 (eQ (g+1)).2.1 (eQ (g+1)).2.2 e hs hab (show(eQ (g+1)).2.2 (p:Int) r=_ from hA) (show(eQ (g+1)).2.2 (q:Int) r=_ from hB) (by omega) Kn
    by_cases c5:e.1=5
    ·rw[ab (by simp[c5]),show decide (e.1=5)=true by simp[c5],key]
    ·rw[ao (by simpa using c5)]
     by_cases c6:e.1=6
     ·rw[ab (by simp[c6]),show decide (e.1=6)=true by simp[c6],key]
     ·rw[ao (by simpa using c6)]
      have c7:e.1=7:=by
       unfold gW at hs;simp only[Jz,dg]at hs;omega
      rw[show decide (e.1=7)=true by simp[c7],key]
  ·have hns:¬(5<=e.1/\e.1<=7):=by
    unfold gW at hs;simpa using hs
   have hx:mD (ev r.1) (bf r.1) e=e.2.1.data.toList:=by
    unfold mD;rw[ao c2,ao (λhh=>c4 hh.1),ao hs]
   rw[hx,ao (by simp;omega),ao (by simp;omega),show decide (e.1=7)=false by simp;omega];unfold ax.j0;rw[ao (by simp),← jK]
theorem sW (h:FormB r)(S:SmR r){n:Nat}(hn:1100000<=n){i:Nat}(hi:i<r.1.length):ax.F n r (i:Int)=some (bt (bf r.1 i)):=
 IM h S i n hi (by have:=h.few;omega)
theorem y9 (h:FormB r)(S:SmR r){n:Nat}(hn:1100000<=n)(kids:List Int)(hk:kids.length<=1048576)(hin:kids.all (lA r.1.length)=true)
  (hj:(KG ((kids.map Jt).map (bf r.1)) [44,32]).length<=4294967296):ar.F n r kids=some (bt (KG ((kids.map Jt).map (bf r.1)) [44,32])):=by
 obtain⟨g,rfl⟩:∃g,n=g+1:=⟨n - 1,by omega⟩
 show ar.G g (eQ g).1 (eQ g).2.1 (eQ g).2.2 r kids=_;refine y8 g _ _ _ kids hk (by omega) (λk hk'=>?_) hj;have:=Kf.1 hin k hk';unfold lA at this;simp only[Jz,dg]at this;obtain⟨q,rfl⟩:=Mj this.1;have hq:q<r.1.length:=by omega
 rw[IM h S q g hq (by have:=h.few;omega)]
 rfl
end
theorem ra {α:Type}(f:α->Nat):∀{l:List α} {x:α},x∈l->f x<=(l.map f).sum
 |y::l,x,h=>by
  simp only[JM,Ko];rcases JX.1 h with rfl|h
  ·omega
  ·have:=ra f h
   omega
theorem Ei {r:Ru}{l:Ex}(hl:l∈dV r):(ey r.1 l).length<=(jL r).length:=by
 unfold jL;simp only[Jx];rcases JX.1 hl with rfl|hl
 ·omega
 ·have hne:r.2.2≠[]:=λe=>by rw[e]at hl;cases hl
  rw[ao hne];simp only[Jx,kl,Lq];have:=ra (Jr∘ey r.1) hl;have e:(Jr∘ey r.1) l=(ey r.1 l).length:=rfl;omega
section
variable {r:Ru}
theorem sX (h:FormB r)(S:SmR r){n:Nat}(hn:1100000<=n){l:Ex}(hl:l∈dV r):eS.F n r l=some (bt (ey r.1 l)):=by
 have hlen:=Me (Ei hl) (h.total S);obtain⟨hok,hA⟩:=h.lits l hl;have hF:=h.form.lits l hl;have hargs:=S.args l hl;have e1:l.2.1=bt l.2.1.data.toList:=jK _;unfold eS.F;unfold ey at hlen⊢
 by_cases c3:l.1=3
 ·rw[ab c3]at hlen⊢
  rw[ab (by simp[c3])]
  match hab:l.2.2,hF.two c3 with
  |[a,b],_=>
   have ha:=hF.arg a (by rw[hab];simp);have hb:=hF.arg b (by rw[hab];simp);obtain⟨p,rfl⟩:=Mj ha.1;obtain⟨q,rfl⟩:=Mj hb.1;have hN:aO l=[p,q]:=by unfold aO;rw[hab];simp
   rw[hN]at hlen⊢;simp only[Jx,Jw,JB]at hlen;rw[ab (by simp),show Jv [(p:Int),(q:Int)] 0 0=(p:Int)from rfl,sW h S hn (by omega),Jp,e1,show(⟨#[32]⟩:ByteArray)=bt [32]from rfl,
    ab (by simp only[ah,Jw,JB,aT];omega),ab (by simp only[ap,ah,Jx,Jw,JB,aT];omega),
    ab (by simp only[ap,ah,Jx,Jw,JB,aT];omega),ab (by simp),show Jv [(p:Int),(q:Int)] 1 0=(q:Int)from rfl,sW h S hn (by omega),Jp,
    ab (by simp only[ap,ah,Jx,Jw,JB,aT];omega)]
   simp only[ap,eB]
 ·rw[ao c3]at hlen⊢
  rw[ao (by simpa using c3)];simp only[Jx,Jw,JB]at hlen;have ht:=y9 h S hn l.2.2 hargs hA (by
   show(KG ((aO l).map (bf r.1)) [44,32]).length<=_
   omega)
  have ht:ar.F n r l.2.2=some (bt (KG ((aO l).map (bf r.1)) [44,32])):=ht
  by_cases c2:l.1=2
  ·rw[ab c2]at hlen⊢
   simp only[Jw,JB]at hlen;rw[ab (by simp[c2]),ht,e1,show(⟨#[33]⟩:ByteArray)=bt [33]from rfl,show(⟨#[40]⟩:ByteArray)=bt [40]from rfl,show(⟨#[41]⟩:ByteArray)=bt [41]from rfl,
    ab (by simp only[ap,ah,Jx,Jw,JB,aT];omega),ab (by simp only[ap,ah,Jx,Jw,JB,aT];omega),Jp,
    ab (by simp only[ap,ah,Jx,Jw,JB,aT];omega),ab (by simp only[ap,ah,Jx,Jw,JB,aT];omega)]
   simp only[ap,eB]
  ·rw[ao c2]at hlen⊢
   simp only[JB,Ll]at hlen;rw[ao (by simpa using c2),ht,e1,show(⟨#[40]⟩:ByteArray)=bt [40]from rfl,show(⟨#[41]⟩:ByteArray)=bt [41]from rfl,
    ab (by simp only[ap,ah,Jx,Jw,JB,aT];omega),Jp,
    ab (by simp only[ap,ah,Jx,Jw,JB,aT];omega),ab (by simp only[ap,ah,Jx,Jw,JB,aT];omega)]
   simp only[ap,eB,Kx]
theorem qv (h:FormB r)(S:SmR r){n:Nat}(hn:1100000<=n)(out4:ByteArray)(K:List ByteArray->Option ByteArray):∀(k j:Nat),j<=r.2.2.length->r.2.2.length - j<k->
  ff.l0 n out4 r.2.2 (r.2.2.length:Int) r K k (j:Int) (((r.2.2.take j).map (ey r.1)).map bt)=K ((r.2.2.map (ey r.1)).map bt)
 |0,j,_,hj=>bH hj (JL _)
 |k+1,j,hj,hk1=>by
  have hB:=S.body
  by_cases hlt:j<r.2.2.length
  ·conv=>lhs;unfold ff.l0
   rw[ab (jq hlt),ab (inl' hlt),aE _ hlt,sX h S hn (JR _ (JK hlt)),Jp,ab (by simp[aT];omega),iY (by omega)];have:=qv h S hn out4 K k (j+1) (by omega) (by omega);rw[JG hlt,Kz,Kz]at this;exact this
  ·conv=>lhs;unfold ff.l0
   rw[ao (km hlt),JT (by omega)]
noncomputable def fP (r:Ru):ByteArray:=if qt r=true/\(jL r).length<=3000 then bt (jL r)else Jq
theorem ya (n:Nat)(hn:1100000<=n)(r:Ru)(S:SmR r):ff.F n r=some (fP r):=by
 have hB:=S.body;unfold ff.F fP;rw[y6 n hn r S,Jp]
 by_cases hf:qt r=true
 ·have h:=jW.1 hf
  have hT:=h.total S;have hH:ey r.1 r.2.1=ey r.1 r.2.1:=rfl;rw[ao (by simp[hf]),sX h S hn JN,Jp];have hl:=λK=>qv h S hn (bt (ey r.1 r.2.1)) K n 0 (JQ _) (by omega)
  simp only[show((0:Nat):Int)=0 from rfl,KF,KI]at hl;rw[hl]
  by_cases hb:r.2.2=[]
  ·have hr:jL r=ey r.1 r.2.1++[46]:=by unfold jL;rw[ab hb,KA]
   rw[hr]at hT⊢;simp only[Jx,Jw,JB]at hT;rw[ao (by simp[hb]),show(⟨#[46]⟩:ByteArray)=bt [46]from rfl,ab (by simp only[ah,Jw,JB,aT];omega),ap,ah]
   by_cases hs:(ey r.1 r.2.1++[46]).length<=3000
   ·rw[ao (by simp at hs⊢;omega),ab ⟨hf,hs⟩]
   ·rw[ab (by simp at hs⊢;omega),ao (λhh=>hs hh.2)]
  ·have hr:jL r=ey r.1 r.2.1++([32,58,45,32]++KG (r.2.2.map (ey r.1)) [44,32])++[46]:=by unfold jL;rw[ao hb]
   have hpos:0<r.2.2.length:=Ly.2 hb;rw[hr]at hT⊢;have hT':=hT;simp only[Jx,Jw,JB]at hT';rw[ab (by simp;omega),Bb n _ (by simp;omega) (by omega),Jp,show(⟨#[46]⟩:ByteArray)=bt [46]from rfl,show(⟨#[32,58,45,32]⟩:ByteArray)=bt [32,58,45,32]from rfl,
    ab (by simp only[ap,ah,Jx,Jw,JB,aT];omega),ab (by simp only[ap,ah,Jx,Jw,JB,aT];omega),
    ab (by simp only[ap,ah,Jx,Jw,JB,aT];omega)]
   simp only[ap,ah]
   by_cases hs:(ey r.1 r.2.1++([32,58,45,32]++KG (r.2.2.map (ey r.1)) [44,32])++[46]).length<=3000
   ·rw[ao (by rw[dg];omega),ab ⟨hf,hs⟩]
   ·rw[ab (by rw[dg];omega),ao (λhh=>hs hh.2)]
 ·rw[ab (by simp[hf]),ao (λhh=>hf hh.1)]
end
theorem pY {E:List Ex}{b:Nat}(h:∀i,i<b->∀k∈aO (E.getD i kY),k<i):∀(f i:Nat),i<f->i<b->B3 E f i=bf E i
 |0,i,hi,_=>bH hi (JL _)
 |f+1,i,hi,hb=>by
  show mD _ _ _=mD _ _ _;refine nB λk hk=>?_
  have:=h i hb k hk;rw[pY h f k (by omega) (by omega),pY h i k this (by omega)]
termination_by f i=>f+i
theorem zQ {E:List Ex}{i:Nat}(h:∀j,j<=i->∀k∈aO (E.getD j kY),k<j):bf E i=mD (ev E) (bf E) (E.getD i kY):=by
 show mD _ _ _=mD _ _ _;refine nB λk hk=>?_
 have:=h i (JU _) k hk;exact pY (b:=i+1) (λj hj=>h j (by omega)) i k this (by omega)
def oX (E:List Ex)(o:List ByteArray)(i:Nat):Prop:=o.length=E.length/\∀j,j<i->o.getD j Jq=bt (bf E j)/\(bf E j).length<=3000
section
variable (n:Nat) (hn:1100000<=n) (r:Ru)
theorem I4 (i:Nat)(o:List ByteArray)(e:Ex)(hk:e.2.2.length<=1048576)(K:List Int->Option (List ByteArray×Bool))(m:Nat)(hi:i<=m)(him:i<=4294967296){C:Int}{u:List Int}(hu:Cnt u m C)(hC:C<=4000000000000)(hn:1100000<=n):
  aw.l1 n (i:Int) r o e K n 0 u=if e.2.2.all (lA i)=true then K (bumps u (aO e))else some (o,false):=by
 have:=oU (λk j u=>aw.l1 n (i:Int) r o e K k j u) e.2.2 m i (some (o,false)) K hi (λk j u h hm hq=>by
   conv=>lhs;unfold aw.l1
   simp only[aE _ h];rw[ab (jq h),ab (inl' h),aK _ (by omega) (by omega),dW,vI,Jp,iY (by omega)]
   by_cases hin:lA i e.2.2[j]=true
   ·obtain⟨h1,h2⟩:=oW hm hi hin hq
    rw[ao (by simp[hin]),ab (inl' h),ab h1,ab h1,h2,ab hin]
   ·rw[ab (by simpa using hin),ao hin]) (λk u=>by
   conv=>lhs;unfold aw.l1
   rw[ao (by simp)]) n 0 u C (JQ _) (by omega) hu (by omega)
 rw[JY]at this;exact this
theorem jD {o:List ByteArray}{i:Nat}(ho:oX r.1 o i){k:Int}(hk:lA i k=true)(hi:i<=r.1.length):((0:Int)<=k/\k<(o.length:Int))/\Jv o (Jt k) Jq=bt (bf r.1 k.toNat)/\(bf r.1 k.toNat).length<=3000:=by
 unfold lA at hk;simp only[Jz,dg]at hk;have h1:=ho.1;exact⟨by omega,ho.2 k.toNat (by omega)⟩
def jE (sep:By)(l:List By):By:=(l.map (sep++·)).flatten
theorem mr (sep x:By)(l:List By):jE sep (x::l)=sep++x++jE sep l:=by simp[jE]
theorem kO (sep x:By)(l:List By):KG (x::l) sep=x++jE sep l:=Lib.join_cons x l sep
theorem Ej (t22:Int)(u:List Int){o:List ByteArray}{i:Nat}(ho:oX r.1 o i)(hi:i<=r.1.length)(e:Ex)(hk:e.2.2.length<=1048576)(hin:e.2.2.all (lA i)=true)(K:ByteArray->Option (List ByteArray×Bool)):∀(k j:Nat) (s:By),j<=e.2.2.length->e.2.2.length - j<k->1<=j->
  s.length+(e.2.2.length - j)*3002<=4000000000->aw.l3 n t22 r u o e K k (bt s) (j:Int)=K (bt (s++jE [44,32] (((aO e).drop j).map (bf r.1))))
 |0,j,s,_,hj,_,_=>bH hj (JL _)
 |k+1,j,s,hj,hk1,h1,hs=>by
  have hkn:(aO e).length=e.2.2.length:=Kp ..
  by_cases h:j<e.2.2.length
  ·have hm:=Kf.1 hin _ (JK h)
   obtain⟨g1,g2,g3⟩:=jD r ho hm hi;have hkj:(aO e).drop j=e.2.2[j].toNat::(aO e).drop (j+1):=by
    rw[JH (by omega)]
    simp[aO]
   have hb:s.length+3002<=4000000000:=by
    have:1*3002<=(e.2.2.length - j)*3002:=Kk _ (by omega);omega
   conv=>lhs;unfold aw.l3
   simp only[aE _ h];rw[ab (jq h),ao (by simp;omega),show(⟨#[44,32]⟩:ByteArray)=bt [44,32]from rfl,ab (by simp only[ah,Jw,JB,aT];omega),ab (inl' h),ab g1,g2,
    ab (by simp only[ap,ah,Jx,Jw,JB,aT];omega),ap,ap,iY (by omega),
    Ej t22 u ho hi e hk hin K k (j+1) _ (by omega) (by omega) (by omega) (by
     simp only[Jx,Jw,JB];have:(e.2.2.length - j)*3002=(e.2.2.length - (j+1))*3002+3002:=by
      rw[show e.2.2.length - j=(e.2.2.length - (j+1))+1 by omega,KJ,Lh]
     omega),hkj,JM,mr]
   simp only[Ka]
  ·conv=>lhs;unfold aw.l3
   rw[ao (km h),JJ (by omega)]
   simp[jE]
theorem uy {o:List ByteArray}{i:Nat}(ho:oX r.1 o i)(hi:i<=r.1.length){k:Int}(hk:lA i k=true):iQ.F n r o k=some (bt (my (ev r.1 k.toNat) (bf r.1 k.toNat))):=by
 obtain⟨g1,g2,g3⟩:=jD r ho hk hi;have h1:=ho.1;unfold iQ.F;rw[ab (by omega),dW,Jp];unfold my ev gW;have e0:Jv r.1 (Jt k) (0,(Jq,[]))=r.1.getD k.toNat kY:=rfl;rw[e0,NH,ab g1,g2]
 by_cases c:(decide (5<=(r.1.getD k.toNat kY).1)&&decide ((r.1.getD k.toNat kY).1<=7))=true
 ·rw[ab c,ab c,show(⟨#[40]⟩:ByteArray)=bt [40]from rfl,show(⟨#[41]⟩:ByteArray)=bt [41]from rfl,ab (by simp only[ap,ah,Jx,Jw,JB,aT];omega),
   ab (by simp only[ap,ah,Jx,Jw,JB,aT];omega)]
  simp only[ap]
 ·rw[ao c,ao c,ab g1]
theorem yb {k:Int}{t:By}(h:t.length<=3000):(my k t).length<=3002:=by
 unfold my
 split
 ·simp;omega
 ·omega
theorem I5 (t30:Int)(u:List Int){o:List ByteArray}{i:Nat}(ho:oX r.1 o i)(hi:i<=r.1.length)(e:Ex)(hin:e.2.2.all (lA i)=true)(hs:gW e.1=true)(h2:e.1≠4)(h3:e.1≠2)(Kn:ByteArray->Option (List ByteArray×Bool)):
  aw.j4 n t30 true r u o e Kn=if e.2.2.length=2 then Kn (bt (mD (ev r.1) (bf r.1) e))else some (o,false):=by
 unfold aw.j4;rw[ab rfl]
 by_cases hl:e.2.2.length=2
 ·rw[ao (by simp[hl]),ab hl]
  match hab:e.2.2,hl with
  |[a,b],_=>
   have ha:=Kf.1 hin a (by rw[hab];simp);have hb:=Kf.1 hin b (by rw[hab];simp);have la:=(jD r ho ha hi).2.2;have lb:=(jD r ho hb hi).2.2;have sa:=yb (k:=ev r.1 a.toNat) la;have sb:=yb (k:=ev r.1 b.toNat) lb;have hop:((0:Int)<=Ju.wrap (e.1 - 5)/\Ju.wrap (e.1 - 5)<(Jr ([⟨#[32,43,32]⟩,⟨#[32,45,32]⟩,⟨#[32,42,32]⟩]:List ByteArray):Int))/\Jv ([⟨#[32,43,32]⟩,⟨#[32,45,32]⟩,⟨#[32,42,32]⟩]:List ByteArray) (Jt (Ju.wrap (e.1 - 5))) Jq=bt (GY e.1)/\(GY e.1).length=3:=by
    unfold gW at hs;simp only[Jz,dg]at hs;have:e.1=5\/e.1=6\/e.1=7:=by omega
    rcases this with h|h|h<;>rw[h]
    ·exact⟨by decide,rfl,rfl⟩
    ·exact⟨by decide,rfl,rfl⟩
    ·exact⟨by decide,rfl,rfl⟩
   obtain⟨o1,o2,o3⟩:=hop;rw[ab o1,ab (by simp),show Jv [a,b] 0 0=a from rfl,uy n r ho hi ha,Jp,o2,ab (by simp only[ap,ah,Jx,aT];omega),ab (by simp),show Jv [a,b] 1 0=b from rfl,uy n r ho hi hb,
    Jp,ab (by simp only[ap,ah,Jx,aT];omega)]
   simp only[ap]
   congr 2
   unfold mD;rw[ao h3,ao (λhh=>h2 hh.1),ab hs];have hN:aO e=[a.toNat,b.toNat]:=by unfold aO;rw[hab];rfl
   rw[hN]
 ·have:¬(e.2.2.length:Int)=2:=by omega
  rw[ab (by simp[this]),ao hl]
theorem I6 (hn:1100000<=n)(u:List Int){o:List ByteArray}{i:Nat}(ho:oX r.1 o i)(hi:i<=r.1.length)(e:Ex)(he:e.2.1.size<=8000000)(hk:e.2.2.length<=1048576)(hin:e.2.2.all (lA i)=true)(b:Bool)(hb:b=true↔e.1=1\/e.1=3)(Kn:ByteArray->Option (List ByteArray×Bool)):
  aw.j2 n (i:Int) e.1 b r u o e Kn=if(1<=e.1/\e.1<=7)/\(gW e.1=true->e.2.2.length=2)then Kn (bt (mD (ev r.1) (bf r.1) e))else some (o,false):=by
 have e1:e.2.1=bt e.2.1.data.toList:=jK _;have es:e.2.1.data.toList.length<=8000000:=he;unfold aw.j2
 by_cases c1:e.1=1\/e.1=3
 ·rw[ab (hb.2 c1)]
  have hs:¬gW e.1=true:=by rcases c1 with h|h<;>rw[h]<;>decide
  rw[ab ⟨by omega,λh=>bH h hs⟩];unfold mD;rw[ao (by omega),ao (by omega),ao hs,← e1]
 rw[ao (λh=>c1 (hb.1 h))]
 by_cases c2:e.1=2
 ·have hs:¬gW e.1=true:=by rw[c2];decide
  rw[ab (by simp[c2]),ab ⟨by omega,λh=>bH h hs⟩];unfold mD;rw[ab c2]
  rfl
 rw[ao (by simpa using c2)]
 by_cases c4:e.1=4
 ·have hs:¬gW e.1=true:=by rw[c4];decide
  rw[ab (by simp[c4]),ab (show(1<=e.1/\e.1<=7)/\(gW e.1=true->e.2.2.length=2)from⟨by omega,λh=>bH h hs⟩)];unfold mD;rw[ao c2]
  by_cases hne:e.2.2=[]
  ·rw[ao (λh=>h.2 hne),ao hs]
   obtain⟨n',rfl⟩:∃n',n=n'+1:=⟨n - 1,by omega⟩
   unfold aw.l3;rw[ao (by simp[hne]),ao (by simp[hne]),← e1]
  ·obtain⟨a,l,hq⟩:=NL hne
   have h0:0<e.2.2.length:=Ly.2 hne;have ha:=Kf.1 hin a (by rw[hq];simp);obtain⟨g1,g2,g3⟩:=jD r ho ha hi;have hN:aO e=a.toNat::l.map Jt:=by unfold aO;rw[hq];rfl
   rw[ab (show e.1=4/\e.2.2≠[]from⟨c4,hne⟩)];obtain⟨n',rfl⟩:∃n',n=n'+1:=⟨n - 1,by omega⟩
   unfold aw.l3;have hll:l.length+1=e.2.2.length:=by rw[hq];rfl
   have ga:Jv e.2.2 (Jt 0) 0=a:=by rw[hq];rfl
   rw[ga];rw[ab (by simp;omega),ab (by simp),show(⟨#[40]⟩:ByteArray)=bt [40]from rfl];rw[e1,ab (by simp only[ah,Jw,JB,aT];omega),ab (by omega),ab g1,g2,ab (by simp only[ap,ah,Jx,Jw,JB,aT];omega),ap,ap];rw[show Ju.wrap ((0:Int)+1)=((1:Nat):Int)from rfl];have:=Ej (n'+1) r (i:Int) u ho hi e hk hin (λt29=>
    if decide ((Jr e.2.2:Int)>0)=true then
    if Js t29+Js ⟨#[41]⟩<=aT then
    Kn (t29++⟨#[41]⟩)
    else
    none
    else
    Kn t29) n' 1 (e.2.1.data.toList++[40]++bf r.1 a.toNat) (by omega) (by omega) (JU _) (by
     simp only[Jx,Jw,JB];have:(e.2.2.length - 1)*3002<=1048576*3002:=Kk _ (by omega)
     omega)
   refine this.trans ?_;rw[ab (by simp;omega),show(⟨#[41]⟩:ByteArray)=bt [41]from rfl];have hlen:((e.2.1.data.toList++[40]++bf r.1 a.toNat)++jE [44,32] (((aO e).drop 1).map (bf r.1))).length<=4000000000:=by
    have hl:∀ks:List Nat,(∀k∈ks,(bf r.1 k).length<=3000)->(jE [44,32] (ks.map (bf r.1))).length<=ks.length*3002:=by
     intro ks
     induction ks with
     |nil=>intro _;exact JQ _
     |cons k ks ih=>
      intro h;have h1:=ih λx hx=>h x (JR _ hx)
      have h2:=h k JN;rw[JM,mr];simp only[Jx,Jw,JB,KJ,Lh];omega
    have h1:=hl ((aO e).drop 1) (λk hk=>by
     have hk:=List.mem_of_mem_drop hk;obtain⟨x,hx,rfl⟩:=Lj.1 hk;exact(jD r ho (Kf.1 hin x hx) hi).2.2)
    have h2:((aO e).drop 1).length*3002<=1048576*3002:=Kk _ (by
     rw[List.length_drop];have:(aO e).length=e.2.2.length:=Kp ..
     omega)
    simp only[Jx,Jw,JB];omega
   rw[ab (by simp only[ah,Jw,JB,aT];omega),ap]
   congr 2
   rw[hN];simp only[OB,JY,JM,kO,eB,Ka]
 rw[ao (by simpa using c4)]
 by_cases hs:gW e.1=true
 ·have hk7:5<=e.1/\e.1<=7:=by
   unfold gW at hs;simpa using hs
  have key:=λKn=>I5 n r (i:Int) u ho hi e hin hs c4 c2 Kn
  have hR:(if(1<=e.1/\e.1<=7)/\(gW e.1=true->e.2.2.length=2)then Kn (bt (mD (ev r.1) (bf r.1) e))else some (o,false))=if e.2.2.length=2 then Kn (bt (mD (ev r.1) (bf r.1) e))else some (o,false):=by
   by_cases hl:e.2.2.length=2
   ·rw[ab hl,ab ⟨by omega,λ_=>hl⟩]
   ·rw[ao hl,ao (λh=>hl (h.2 hs))]
  rw[hR]
  by_cases c5:e.1=5
  ·rw[ab (by simp[c5]),show decide (e.1=5)=true by simp[c5],key]
  ·rw[ao (by simpa using c5)]
   by_cases c6:e.1=6
   ·rw[ab (by simp[c6]),show decide (e.1=6)=true by simp[c6],key]
   ·rw[ao (by simpa using c6),show decide (e.1=7)=true by simp;omega,key]
 ·have hns:¬(5<=e.1/\e.1<=7):=by
   unfold gW at hs;simpa using hs
  rw[ao (by simp;omega),ao (by simp;omega),show decide (e.1=7)=false by simp;omega,ao (by omega)];unfold aw.j4;rw[ao (by simp)]
theorem I7 {o:List ByteArray}{i:Nat}(ho:o.length=r.1.length)(hi:i<r.1.length)(u:List Int)(e:Ex)(t:By)(Kn:List ByteArray->Option (List ByteArray×Bool)):
  aw.j5 n (i:Int) (bt t) r u o e Kn=if(e.1<=3->e.2.2=[])/\t.length<=3000 then Kn (o.set i (bt t))else some (o,false):=by
 unfold aw.j5 aw.j6;have hin:(0:Int)<=(i:Int)/\(i:Int)<(o.length:Int):=by omega
 simp only[ab hin,JS,ah]
 by_cases c3:e.1<=3
 ·rw[ab (by simpa using c3)]
  by_cases hk:e.2.2=[]
  ·rw[ab (by simp[hk])]
   by_cases ht:t.length<=3000
   ·rw[ao (by simp;omega),ab ⟨λ_=>hk,ht⟩]
   ·rw[ab (by simp;omega),ao (λh=>ht h.2)]
  ·have:=Ly.2 hk
   rw[ao (by simp;omega),ao (λh=>hk (h.1 c3))]
 ·rw[ao (by simpa using c3)]
  by_cases ht:t.length<=3000
  ·rw[ao (by simp;omega),ab ⟨λh=>bH h c3,ht⟩]
  ·rw[ab (by simp;omega),ao (λh=>ht h.2)]
end
def jM (E:List Ex):List ByteArray:=(List.range E.length).map λj=>bt (bf E j)
theorem Ek {E:List Ex}{o:List ByteArray}(h:oX E o E.length):o=jM E:=by
 apply List.ext_getElem
 ·simp[jM,h.1]
 ·intro j h1 h2
  have hj:j<E.length:=by rw[← h.1];exact h1
  have:=(h.2 j hj).1;rw[Lm,List.getElem?_eq_getElem h1]at this;simp only[jM,List.getElem_map,List.getElem_range];exact this
theorem vJ {e:Ex}:Ci e=true↔((1<=e.1/\e.1<=7)/\(gW e.1=true->e.2.2.length=2))/\(e.1<=3->e.2.2=[]):=by
 unfold Ci
 by_cases hs:gW e.1=true
 ·have h5:5<=e.1/\e.1<=7:=by unfold gW at hs;simpa using hs
  rw[ab hs];simp only[Jz,dg]
  constructor
  ·rintro⟨h1,h2⟩
   exact⟨⟨h1,λ_=>h2⟩,λh=>by omega⟩
  ·rintro⟨⟨h1,h2⟩,_⟩
   exact⟨h1,h2 hs⟩
 ·have h5:¬(5<=e.1/\e.1<=7):=by unfold gW at hs;simpa using hs
  rw[ao hs];simp only[Jz,dg,Lo,List.isEmpty_iff]
  constructor
  ·rintro⟨h1,h2⟩
   exact⟨⟨h1,λh=>bH h hs⟩,λh=>h2.resolve_left (by omega)⟩
  ·rintro⟨⟨h1,h2⟩,h3⟩
   refine⟨h1,?_⟩
   by_cases h4:e.1=4
   ·exact .inl h4
   ·exact .inr (h3 (by omega))
structure I8 (r:Ru):Prop extends SmR r where
 text:∀e∈r.1,e.2.1.size<=8000000
 name:∀l∈dV r,l.2.1.size<=8000000
section
variable (n:Nat) (hn:1100000<=n) (r:Ru) (S:I8 r)
theorem El (hn:1100000<=n){i:Nat}(hi:i<r.1.length){o:List ByteArray}(ho:oX r.1 o i)(S:I8 r){u:List Int}(hin:(r.1[i]).2.2.all (lA i)=true)(X:List ByteArray->Option (List ByteArray×Bool)):
  (if decide ((r.1[i]).1=1)=true then
   aw.j2 n (i:Int) (r.1[i]).1 (decide ((r.1[i]).1=1)) r u o r.1[i] (λt41=>aw.j5 n (i:Int) t41 r u o r.1[i] (λt55=>X t55))
   else aw.j2 n (i:Int) (r.1[i]).1 (decide ((r.1[i]).1=3)) r u o r.1[i] (λt56=>aw.j5 n (i:Int) t56 r u o r.1[i] (λt57=>X t57)))=
   if Ci r.1[i]=true/\(mD (ev r.1) (bf r.1) r.1[i]).length<=3000 then X (o.set i (bt (mD (ev r.1) (bf r.1) r.1[i])))else some (o,false):=by
 have hm:=JK hi;have he:=S.text _ hm;have hk:=S.kids _ hm;generalize r.1[i]=e at*;have key:∀(b:Bool),(b=true↔e.1=1\/e.1=3)->aw.j2 n (i:Int) e.1 b r u o e (λt41=>aw.j5 n (i:Int) t41 r u o e (λt55=>X t55))=
   if Ci e=true/\(mD (ev r.1) (bf r.1) e).length<=3000 then X (o.set i (bt (mD (ev r.1) (bf r.1) e)))else some (o,false):=by
  intro b hb;rw[I6 n r hn u ho (Nq hi) e he hk hin b hb]
  by_cases c1:(1<=e.1/\e.1<=7)/\(gW e.1=true->e.2.2.length=2)
  ·rw[ab c1,I7 n r ho.1 hi u e]
   by_cases c2:(e.1<=3->e.2.2=[])/\(mD (ev r.1) (bf r.1) e).length<=3000
   ·rw[ab c2,ab ⟨vJ.2 ⟨c1,c2.1⟩,c2.2⟩]
   ·rw[ao c2,ao (λh=>c2 ⟨(vJ.1 h.1).2,h.2⟩)]
  ·rw[ao c1,ao (λh=>c1 (vJ.1 h.1).1)]
 by_cases c1:e.1=1
 ·rw[ab (by simp[c1])]
  exact key _ (by simp[c1])
 ·rw[ao (by simpa using c1)]
  exact key _ (by simp[c1])
theorem Em (hn:1100000<=n)(S:I8 r)(K:List Int->List ByteArray->Option (List ByteArray×Bool)):∀(k i:Nat) (u:List Int) (o:List ByteArray),i<=r.1.length->r.1.length - i<k->(∀j,j<i->∀q∈aO (r.1.getD j kY),q<j)->oX r.1 o i->Cnt u r.1.length ((i:Int)*1048576)->
  (mq (r.1.drop i) i=true/\(∀j,i<=j->j<r.1.length->(bf r.1 j).length<=3000)->aw.l0 n r K k (i:Int) u o=K (bumps u ((r.1.drop i).flatMap aO)) (jM r.1))/\
  (¬(mq (r.1.drop i) i=true/\(∀j,i<=j->j<r.1.length->(bf r.1 j).length<=3000))->∃o',aw.l0 n r K k (i:Int) u o=some (o',false))
 |0,i,u,o,_,hk,_,_,_=>bH hk (JL _)
 |k+1,i,u,o,hi,hk,hlow,ho,hu=>by
  have hE:=S.exps
  by_cases h:i<r.1.length
  ·have hke:=S.kids _ (JK h)
   have eg:r.1.getD i kY=r.1[i]:=by simp[h]
   have hl1:=λK'=>I4 n r i o r.1[i] hke K' r.1.length (by omega) (by omega) hu (by omega) hn
   have hfull:aw.l0 n r K (k+1) (i:Int) u o=if(r.1[i]).2.2.all (lA i)=true then
     (if decide ((r.1[i]).1=1)=true then
      aw.j2 n (i:Int) (r.1[i]).1 (decide ((r.1[i]).1=1)) r (bumps u (aO r.1[i])) o r.1[i] (λt41=>aw.j5 n (i:Int) t41 r (bumps u (aO r.1[i])) o r.1[i] (λt55=>aw.l0 n r K k (Ju.wrap ((i:Int)+1)) (bumps u (aO r.1[i])) t55))
      else aw.j2 n (i:Int) (r.1[i]).1 (decide ((r.1[i]).1=3)) r (bumps u (aO r.1[i])) o r.1[i] (λt56=>aw.j5 n (i:Int) t56 r (bumps u (aO r.1[i])) o r.1[i] (λt57=>aw.l0 n r K k (Ju.wrap ((i:Int)+1)) (bumps u (aO r.1[i])) t57)))
     else some (o,false):=by
    conv=>lhs;unfold aw.l0
    simp only[aE _ h];rw[ab (jq h),ab (inl' h),hl1]
   rw[hfull,JH h]
   by_cases hK:(r.1[i]).2.2.all (lA i)=true
   ·rw[ab hK]
    have hst:=El n r hn h ho S (u:=bumps u (aO r.1[i])) hK (λo'=>aw.l0 n r K k (Ju.wrap ((i:Int)+1)) (bumps u (aO r.1[i])) o');rw[hst];have hlow':∀j,j<i+1->∀q∈aO (r.1.getD j kY),q<j:=by
     intro j hj q hq
     by_cases e:j=i
     ·subst e
      rw[eg]at hq;exact pX hK q hq
     ·exact hlow j (by omega) q hq
    have htx:bf r.1 i=mD (ev r.1) (bf r.1) r.1[i]:=by
     rw[← eg];exact zQ λj hj=>hlow' j (by omega)
    rw[← htx];have hc:mq (r.1[i]::r.1.drop (i+1)) i=(Ci r.1[i]&&mq (r.1.drop (i+1)) (i+1)):=by simp[mq,zP,hK]
    have hfl:bumps u ((r.1[i]::r.1.drop (i+1)).flatMap aO)=bumps (bumps u (aO r.1[i])) ((r.1.drop (i+1)).flatMap aO):=by
     rw[LC,kK]
    rw[hc,hfl,iY (by omega)]
    by_cases cE:Ci r.1[i]=true/\(bf r.1 i).length<=3000
    ·rw[ab cE]
     have hu2:=(hu.bumps _ (all_lt' (Nq h) hK)).mono (D:=((i+1:Nat):Int)*1048576) (by rw[Kp];omega);have ho2:oX r.1 (o.set i (bt (bf r.1 i))) (i+1):=by
      refine⟨by rw[Mx];exact ho.1,λj hj=>?_⟩
      by_cases e:j=i
      ·subst e
       refine⟨?_,cE.2⟩;have:j<o.length:=by rw[ho.1];exact h
       simp[this]
      ·obtain⟨h1,h2⟩:=ho.2 j (by omega)
       refine⟨?_,h2⟩;rw[← h1];have:¬i=j:=λh=>e h.symm
       simp[Lm,Pg,this]
     obtain⟨p,q⟩:=Em hn S K k (i+1) (bumps u (aO r.1[i])) _ (by omega) (by omega) hlow' ho2 hu2
     constructor
     ·rintro⟨h1,h2⟩
      rw[cE.1,KD]at h1;exact p ⟨h1,λj hj=>h2 j (by omega)⟩
     ·intro hn'
      refine q λ⟨h1,h2⟩=>hn' ⟨by rw[cE.1,KD];exact h1,λj hj hj2=>?_⟩
      by_cases e:j=i
      ·subst e;exact cE.2
      ·exact h2 j (by omega) hj2
    ·rw[ao cE]
     refine⟨λ⟨h1,h2⟩=>bH ⟨by rw[Jz]at h1;exact h1.1,h2 i (JU _) h⟩ cE,λ_=>⟨o,rfl⟩⟩
   ·rw[ao hK]
    refine⟨λ⟨h1,_⟩=>?_,λ_=>⟨o,rfl⟩⟩;simp only[mq,Jz]at h1;exact bH h1.1.1 hK
  ·obtain rfl:i=r.1.length:=by omega
   have hend:aw.l0 n r K (k+1) (r.1.length:Int) u o=K u o:=by
    conv=>lhs;unfold aw.l0
    rw[ao (by simp)]
   rw[hend,JJ (JU _)];refine⟨λ_=>?_,λhn'=>bH ⟨rfl,λj h1 h2=>by omega⟩ hn'⟩;rw[Ek ho]
   rfl
theorem I9 (hn:1100000<=n)(hE:r.1.length<=1048576)(o:List ByteArray)(ts:List Ex){i:Nat}(hi:i<ts.length)(hk:(ts[i]).2.2.length<=1048576)(K:List Int->Option (List ByteArray×Bool)){C:Int}{u:List Int}(hu:Cnt u r.1.length C)(hC:C<=4000000000000):
  aw.l8 n (i:Int) o ts K n 0 u=if yn r.1.length ts[i]=true then K (bumps u (aO ts[i]))else some (o,false):=by
 have:=oU (λk j u=>aw.l8 n (i:Int) o ts K k j u) (ts[i]).2.2 r.1.length r.1.length (some (o,false)) K (JU _) (λk j u h hm hq=>by
   conv=>lhs;unfold aw.l8
   simp only[aE _ hi,aE _ h];rw[ab (inl' hi),ab (jq h),ab (inl' hi),ab (inl' h),hm,aK _ (by omega) (by omega),dW,vI,Jp,iY (by omega)]
   by_cases hin:lA r.1.length (ts[i]).2.2[j]=true
   ·obtain⟨h1,h2⟩:=oW hm (JU _) hin hq
    rw[hm]at h1;rw[ao (by simp[hin]),ab (inl' hi),ab (inl' h),ab h1,ab h1,h2,ab hin]
   ·rw[ab (by simpa using hin),ao hin]) (λk u=>by
   conv=>lhs;unfold aw.l8
   simp only[aE _ hi];rw[ab (inl' hi),ao (by simp)]) n 0 u C (JQ _) (by omega) hu (by omega)
 rw[JY]at this;exact this
theorem Eo (hn:1100000<=n)(hE:r.1.length<=1048576)(o:List ByteArray)(ts:List Ex)(hts:ts.length<=1048577)(hargs:∀l∈ts,l.2.2.length<=1048576)(K:List Int->Option (List ByteArray×Bool)):∀(k i:Nat) (u:List Int),i<=ts.length->ts.length - i<k->Cnt u r.1.length (1048576*1048576+(i:Int)*1048576)->
  aw.l7 n o ts K k (i:Int) u=if(ts.drop i).all (yn r.1.length)=true then K (bumps u ((ts.drop i).flatMap aO))else some (o,false)
 |0,i,u,_,hk,_=>bH hk (JL _)
 |k+1,i,u,hi,hk,hu=>by
  by_cases h:i<ts.length
  ·have hle:=hargs _ (JK h)
   conv=>lhs;unfold aw.l7
   rw[ab (jq h),I9 n r hn hE o ts h hle _ hu (by omega),JH h,iY (by omega)]
   by_cases hA:yn r.1.length ts[i]=true
   ·have hu2:=(hu.bumps _ (pX (show(ts[i]).2.2.all (lA r.1.length)=true from hA))).mono (D:=1048576*1048576+((i+1:Nat):Int)*1048576) (by rw[Kp];omega)
    have ih:=Eo hn hE o ts hts hargs K k (i+1) _ (by omega) (by omega) hu2;rw[ab hA,KB,hA,KD,LC,kK];exact ih
   ·rw[ao hA,ao (λh'=>by rw[KB,Jz]at h';exact hA h'.1)]
  ·obtain rfl:i=ts.length:=by omega
   conv=>lhs;unfold aw.l7
   rw[ao (by simp),JJ (JU _)]
   rfl
theorem Ep (o:List ByteArray)(u:List Int)(hu:u.length<=1048576)(K:Unit->Option (List ByteArray×Bool)):∀(k i:Nat),i<=u.length->u.length - i<k->
  aw.l9 n u o K k (i:Int)=if((u.drop i).any λx=>!decide (x=1))=true then some (o,false)else K ()
 |0,i,_,hk=>bH hk (JL _)
 |k+1,i,hi,hk=>by
  by_cases h:i<u.length
  ·conv=>lhs;unfold aw.l9
   simp only[aE _ h];rw[ab (jq h),ab (inl' h),JH h,MP]
   by_cases e:u[i]=1
   ·rw[ao (by simp[e]),iY (by omega),Ep o u hu K k (i+1) (by omega) (by omega),iX e]
    rfl
   ·rw[ab (by simp[e]),dq e]
    rfl
  ·conv=>lhs;unfold aw.l9
   rw[ao (km h),JJ (by omega)]
   rfl
def yc (r:Ru):Prop:=r.1.length<=60/\mq r.1 0=true/\(∀j,j<r.1.length->(bf r.1 j).length<=3000)/\(dV r).all (yn r.1.length)=true/\((nO r).any λx=>!decide (x=1))=false
theorem G6 (hn:1100000<=n)(S:I8 r):(yc r->aw.F n r=some (jM r.1,true))/\(¬yc r->∃o,aw.F n r=some (o,false)):=by
 have hE:=S.exps;have hB:=S.body;unfold aw.F yc
 by_cases c60:r.1.length<=60
 ·rw[ao (by simp;omega)]
  have hr:(0:Int)<=(r.1.length:Int)/\(r.1.length:Int)<=(r.1.length:Int)/\(r.1.length:Int)<=(aT:Int):=⟨by omega,Int.le_refl _,by simp[aT];omega⟩;rw[ab hr,ab hr,JS];have h0:Cnt (Kq r.1.length (0:Int)) r.1.length (((0:Nat):Int)*1048576):=⟨by simp,λq=>by
   rw[Lm,N0]
   split<;>simp⟩
  have hl0:=λK=>Em n r hn S K n 0 (Kq r.1.length 0) (Kq r.1.length Jq) (JQ _) (by omega) (λj hj=>bH hj (JL _)) ⟨by simp,λj hj=>bH hj (JL _)⟩ h0
  simp only[show((0:Nat):Int)=0 from rfl,JY,JQ,true_implies]at hl0
  by_cases cE:mq r.1 0=true/\∀j,j<r.1.length->(bf r.1 j).length<=3000
  ·rw[(hl0 _).1 cE,ab (by simp[aT];omega)]
   have hk:∀k∈r.1.flatMap aO,k<r.1.length:=by
    intro k hk;obtain⟨e,he,hk⟩:=Mp.1 hk;obtain⟨i,hi,rfl⟩:=LF.1 he;have:=pX (show r.1[i].2.2.all (lA i)=true by have:=(lU.1 cE.1 i hi).1;rwa [Ll]at this) k hk;omega
   have hC:((r.1.flatMap aO).length:Int)<=1048576*1048576:=by
    have:∀l:List Ex,(∀e∈l,e.2.2.length<=1048576)->(l.flatMap aO).length<=l.length*1048576:=by
     intro l
     induction l with
     |nil=>intro _;simp
     |cons e l ih=>
      intro h;have h1:=ih λx hx=>h x (JR _ hx)
      have h2:=h e JN;rw[LC,Jx,Jw];have:(aO e).length=e.2.2.length:=Kp ..;omega
    have h1:=this r.1 S.kids;have:r.1.length*1048576<=1048576*1048576:=Kk _ hE;omega
   have hu:=(Cnt.bumps h0 _ hk).mono (D:=1048576*1048576+((0:Nat):Int)*1048576) (by omega);have e7:=λK=>Eo n r hn hE (jM r.1) ([r.2.1]++r.2.2) (by simp;omega) S.args K n 0 _ (JQ _) (by simp;omega) hu
   simp only[show((0:Nat):Int)=0 from rfl,JY]at e7;rw[e7,show [r.2.1]++r.2.2=dV r from rfl]
   by_cases cA:(dV r).all (yn r.1.length)=true
   ·rw[ab cA]
    have hul:(bumps (bumps (Kq r.1.length 0) (r.1.flatMap aO)) ((dV r).flatMap aO)).length<=1048576:=by rw[jV,jV];simp;omega
    have e9:=λK=>Ep n (jM r.1) _ hul K n 0 (JQ _) (by omega)
    simp only[show((0:Nat):Int)=0 from rfl,JY]at e9;rw[e9];have hU:bumps (bumps (Kq r.1.length 0) (r.1.flatMap aO)) ((dV r).flatMap aO)=nO r:=rfl;rw[hU]
    by_cases cu:((nO r).any λx=>!decide (x=1))=true
    ·rw[ab cu]
     exact⟨λh=>by rw[cu]at h;exact bH h.2.2.2.2 (by simp),λ_=>⟨_,rfl⟩⟩
    ·rw[ao cu]
     exact⟨λ_=>rfl,λh=>bH ⟨c60,cE.1,cE.2,cA,by simpa using cu⟩ h⟩
   ·rw[ao cA]
    exact⟨λh=>bH h.2.2.2.1 cA,λ_=>⟨_,rfl⟩⟩
  ·obtain⟨o',ho'⟩:=(hl0 (λt58 t59=>
    if Jr [r.2.1]+Jr r.2.2<=aT then
    aw.l7 n t59 ([r.2.1]++r.2.2) (λt72=>
    aw.l9 n t72 t59 (λ_=>
    some (t59,true)) n 0) n 0 t58
    else
    none)).2 cE
   exact⟨λh=>bH ⟨h.2.1,h.2.2.1⟩ cE,λ_=>⟨o',ho'⟩⟩
 ·rw[ab (by simp;omega)]
  exact⟨λh=>bH h.1 c60,λ_=>⟨_,rfl⟩⟩
end
theorem Be {E:List Ex}(h:∀j,j<E.length->(bf E j).length<=3000):oX E (jM E) E.length:=
 ⟨by simp[jM],λj hj=>⟨by simp[jM,hj],h j hj⟩⟩
section
variable (n:Nat) (r:Ru)
theorem Er {o:List ByteArray}(ho:oX r.1 o r.1.length)(e:Ex)(hk:e.2.2.length<=1048576)(hin:e.2.2.all (lA r.1.length)=true)(K:ByteArray->Option (ByteArray×Bool)):∀(k j:Nat) (s:By),j<=e.2.2.length->e.2.2.length - j<k->1<=j->
  s.length+(e.2.2.length - j)*3002<=4000000000->dd.l1 n o e K k (bt s) (j:Int)=K (bt (s++jE [44,32] (((aO e).drop j).map (bf r.1))))
 |0,j,s,_,hj,_,_=>bH hj (JL _)
 |k+1,j,s,hj,hk1,h1,hs=>by
  have hkn:(aO e).length=e.2.2.length:=Kp ..
  by_cases h:j<e.2.2.length
  ·have hm:=Kf.1 hin _ (JK h)
   obtain⟨g1,g2,g3⟩:=jD r ho hm (JU _);have hkj:(aO e).drop j=e.2.2[j].toNat::(aO e).drop (j+1):=by
    rw[JH (by omega)]
    simp[aO]
   have hb:s.length+3002<=4000000000:=by
    have:1*3002<=(e.2.2.length - j)*3002:=Kk _ (by omega);omega
   conv=>lhs;unfold dd.l1
   simp only[aE _ h];rw[ab (jq h),ab (by simp;omega),show(⟨#[44,32]⟩:ByteArray)=bt [44,32]from rfl,ab (by simp only[ah,Jw,JB,aT];omega),ab (inl' h),ab g1,g2,
    ab (by simp only[ap,ah,Jx,Jw,JB,aT];omega),ap,ap,iY (by omega),
    Er ho e hk hin K k (j+1) _ (by omega) (by omega) (by omega) (by
     simp only[Jx,Jw,JB];have:(e.2.2.length - j)*3002=(e.2.2.length - (j+1))*3002+3002:=by
      rw[show e.2.2.length - j=(e.2.2.length - (j+1))+1 by omega,KJ,Lh]
     omega),hkj,JM,mr]
   simp only[Ka]
  ·conv=>lhs;unfold dd.l1
   rw[ao (km h),JJ (by omega)]
   simp[jE]
theorem yd (E:List Ex):∀ks:List Nat,(∀k∈ks,(bf E k).length<=3000)->(jE [44,32] (ks.map (bf E))).length<=ks.length*3002
 |[],_=>JQ _
 |k::ks,h=>by
  have h1:=yd E ks λx hx=>h x (JR _ hx)
  have h2:=h k JN;rw[JM,mr];simp only[Jx,Jw,JB,KJ,Lh];omega
theorem Cm {o:List ByteArray}(ho:oX r.1 o r.1.length){e:Ex}(hk:e.2.2.length<=1048576)(hin:e.2.2.all (lA r.1.length)=true):(KG ((aO e).map (bf r.1)) [44,32]).length<=3147826000:=by
 have hall:∀k∈aO e,(bf r.1 k).length<=3000:=λk hk=>by
  obtain⟨x,hx,rfl⟩:=Lj.1 hk;exact(jD r ho (Kf.1 hin x hx) (JU _)).2.2
 have hkn:(aO e).length=e.2.2.length:=Kp ..;cases hq:aO e with
 |nil=>simp[Lib.join_nil]
 |cons a l=>
  rw[JM,kO,Jx];have h1:=yd r.1 l λk hk=>hall k (by rw[hq];exact JR _ hk)
  have h2:=hall a (by rw[hq];exact JN);rw[hq,Jw]at hkn;have h3:l.length*3002<=1048575*3002:=Kk _ (by omega);omega
theorem G7 (hn:1100000<=n){o:List ByteArray}(ho:oX r.1 o r.1.length)(e:Ex)(hk:e.2.2.length<=1048576)(hin:e.2.2.all (lA r.1.length)=true)(K:ByteArray->Option (ByteArray×Bool))(s:By)(hs:s.length<=9000000):
  dd.l1 n o e K n (bt s) 0=K (bt (s++KG ((aO e).map (bf r.1)) [44,32])):=by
 obtain⟨n',rfl⟩:∃n',n=n'+1:=⟨n - 1,by omega⟩
 by_cases hne:e.2.2=[]
 ·conv=>lhs;unfold dd.l1
  rw[ao (by simp[hne])];have:aO e=[]:=by unfold aO;rw[hne];rfl
  rw[this]
  simp[Lib.join_nil]
 ·obtain⟨a,l,hq⟩:=NL hne
  have h0:0<e.2.2.length:=Ly.2 hne;have ha:=Kf.1 hin a (by rw[hq];simp);obtain⟨g1,g2,g3⟩:=jD r ho ha (JU _);have hN:aO e=a.toNat::l.map Jt:=by unfold aO;rw[hq];rfl
  have ga:Jv e.2.2 (Jt 0) 0=a:=by rw[hq];rfl
  conv=>lhs;unfold dd.l1
  rw[ga,ab (by simp;omega),ao (by simp),ab (by omega),ab g1,g2,ab (by simp only[ap,ah,Jx,aT];omega),ap,show Ju.wrap ((0:Int)+1)=((1:Nat):Int)from rfl];rw[Er (n'+1) r ho e hk hin K n' 1 _ (by omega) (by omega) (JU _) (by
   simp only[Jx];have:(e.2.2.length - 1)*3002<=1048576*3002:=Kk _ (by omega)
   omega),hN]
  simp only[OB,JY,JM,kO,Ka]
theorem ye (hn:1100000<=n){o:List ByteArray}(ho:oX r.1 o r.1.length)(l:Ex)(hname:l.2.1.size<=8000000)(hk:l.2.2.length<=1048576)(hA:yn r.1.length l=true):
  (vH l=true->dd.F n l o=some (bt (ey r.1 l),true)/\(ey r.1 l).length<=3200000000)/\(¬vH l=true->∃s,dd.F n l o=some (s,false)):=by
 have hin:l.2.2.all (lA r.1.length)=true:=hA;have e1:l.2.1=bt l.2.1.data.toList:=jK _;have es:l.2.1.data.toList.length<=8000000:=hname;have hj:=Cm r ho hk hin;have hkL:vH l=true↔(1<=l.1/\l.1<=3)/\(l.1=3->l.2.2.length=2):=by
  unfold vH;simp only[Jz,dg,Lo,L0,vK]
  constructor
  ·rintro⟨h1,h2⟩
   exact⟨h1,λe=>h2.resolve_left (λh=>h e)⟩
  ·rintro⟨h1,h2⟩
   refine⟨h1,?_⟩
   by_cases h3:l.1=3
   ·exact .inr (h2 h3)
   ·exact .inl h3
 unfold dd.F ey
 by_cases c3:l.1=3
 ·rw[ab (by simp[c3]),ab c3]
  by_cases hl:l.2.2.length=2
  ·rw[ao (by simp[hl])]
   refine⟨λ_=>?_,λh=>bH (hkL.2 ⟨by omega,λ_=>hl⟩) h⟩
   match hab:l.2.2,hl with
   |[a,b],_=>
    have ha:=Kf.1 hin a (by rw[hab];simp);have hb:=Kf.1 hin b (by rw[hab];simp);obtain⟨a1,a2,a3⟩:=jD r ho ha (JU _);obtain⟨b1,b2,b3⟩:=jD r ho hb (JU _);have hN:aO l=[a.toNat,b.toNat]:=by unfold aO;rw[hab];rfl
    rw[hN,show Jv [a,b] 0 0=a from rfl,show Jv [a,b] 1 0=b from rfl,a2,b2,e1,show(⟨#[32]⟩:ByteArray)=bt [32]from rfl,ab (by simp),ab a1,
     ab (by simp only[ah,Jw,JB,aT];omega),ab (by simp only[ap,ah,Jx,Jw,JB,aT];omega),
     ab (by simp only[ap,ah,Jx,Jw,JB,aT];omega),ab (by simp),ab b1,ab (by simp only[ap,ah,Jx,Jw,JB,aT];omega)]
    simp only[ap,eB,true_and];simp only[Jx,Jw,JB];omega
  ·have:¬(l.2.2.length:Int)=2:=by omega
   rw[ab (by simp[this])];exact⟨λh=>bH ((hkL.1 h).2 c3) hl,λ_=>⟨_,rfl⟩⟩
 ·rw[ao (by simpa using c3),ao c3,e1,show(⟨#[40]⟩:ByteArray)=bt [40]from rfl,show(⟨#[33]⟩:ByteArray)=bt [33]from rfl,ab (by simp only[ah,Jw,JB,aT];omega)]
  have hj0:∀(s:By),s.length<=9000000->dd.j0 n o (bt s) l=some (bt (s++KG ((aO l).map (bf r.1)) [44,32]++[41]),if(decide (l.1=1))=false then decide (l.1=2)else true):=by
   intro s hs;unfold dd.j0;rw[G7 n r hn ho l hk hin _ s hs,show(⟨#[41]⟩:ByteArray)=bt [41]from rfl,ab (by simp only[ah,Jx,Jw,JB,aT];omega),ap];cases decide (l.1=1)<;>rfl
  have hj0':∀(s:By),s.length<=9000000->dd.j0 n o (bt s) (l.1,(bt l.2.1.data.toList,l.2.2))=some (bt (s++KG ((aO l).map (bf r.1)) [44,32]++[41]),if(decide (l.1=1))=false then decide (l.1=2)else true):=by
   intro s hs;have:=hj0 s hs;rw[← e1];exact this
  simp only[ap,eB,ah]
  by_cases c2:l.1=2
  ·rw[ab (by simp[c2]),ab (by simp only[Jx,Jw,JB,aT];omega),hj0 _ (by simp only[Jx,Jw,JB];omega),ab c2]
   refine⟨λ_=>⟨?_,?_⟩,λh=>bH (hkL.2 ⟨by omega,λh=>bH h c3⟩) h⟩
   ·simp[c2,Ka]
   ·simp only[Jx,Jw,JB]
    omega
  ·rw[ao (by simpa using c2),hj0 _ (by simp only[Jx,Jw,JB];omega),ao c2]
   by_cases c1:l.1=1
   ·refine⟨λ_=>⟨?_,?_⟩,λh=>bH (hkL.2 ⟨by omega,λh=>bH h c3⟩) h⟩
    ·simp[c1]
    ·simp only[Jx,Jw,JB]
     omega
   ·refine⟨λh=>?_,λ_=>⟨bt (l.2.1.data.toList++[40]++KG ((aO l).map (bf r.1)) [44,32]++[41]),?_⟩⟩
    ·have:=(hkL.1 h).1
     omega
    ·simp[c1,c2]
def tB:List By->By
 |[]=>[]
 |x::l=>[32,58,45,32]++x++jE [44,32] l
theorem yf (r:Ru):jL r=ey r.1 r.2.1++tB (r.2.2.map (ey r.1))++[46]:=by
 unfold jL;cases hq:r.2.2 with
 |nil=>simp[tB]
 |cons l ls=>simp[tB,kO]
theorem G8 (l:List By)(x:By):tB (l++[x])=tB l++(if l=[]then [32,58,45,32]else [44,32])++x:=by
 cases l with
 |nil=>simp[tB,jE]
 |cons y l=>simp[tB,jE]
theorem Ia (l m:List By):∃t,tB (l++m)=tB l++t:=by
 cases l with
 |nil=>exact⟨tB m,by simp[tB]⟩
 |cons x l=>exact⟨jE [44,32] m,by simp[tB,jE]⟩
theorem Es (hn:1100000<=n)(S:I8 r)(hA:yc r)(hb3:r.2.2.length<=3000)(hh:r.2.1.1=1)(hokH:vH r.2.1=true):∀(k j:Nat),j<=r.2.2.length->r.2.2.length - j<k->(∀i (h:i<r.2.2.length),i<j->vH r.2.2[i]=true)->
  (ey r.1 r.2.1++tB ((r.2.2.take j).map (ey r.1))).length<=3200004000->
  bN.l1 n (jM r.1) r (λt24=>
   if Js t24+Js ⟨#[46]⟩<=aT then
   if decide ((Js (t24++⟨#[46]⟩):Int)>3000)=true then
   some Jq
   else
   some (t24++⟨#[46]⟩)
   else
   none) k (bt (ey r.1 r.2.1++tB ((r.2.2.take j).map (ey r.1)))) (j:Int)=some (fP r)
 |0,j,_,hj,_,_=>bH hj (JL _)
 |k+1,j,hj,hk,hok,hlen=>by
  have ho:=Be hA.2.2.1;have hend:∀s:By,s.length<=3200004000->(if Js (bt s)+Js ⟨#[46]⟩<=aT then
   if decide ((Js (bt s++⟨#[46]⟩):Int)>3000)=true then
   some Jq
   else
   some (bt s++⟨#[46]⟩)
   else
   none)=some (if(s++[46]).length<=3000 then bt (s++[46])else Jq):=by
   intro s hs;rw[show(⟨#[46]⟩:ByteArray)=bt [46]from rfl,ab (by simp only[ah,Jw,JB,aT];omega),ap,ah]
   by_cases h:(s++[46]).length<=3000
   ·rw[ao (by rw[dg];omega),ab h]
   ·rw[ab (by rw[dg];omega),ao h]
  have hform:(∀i (h:i<r.2.2.length),vH r.2.2[i]=true)->qt r=true:=by
   intro hall;rw[jW];refine⟨hA.1,λi h=>by have:=lU.1 hA.2.1 i h;rwa [Ll]at this,hh,λl hl=>?_,λx hx=>?_⟩
   ·refine⟨?_,Kf.1 hA.2.2.2.1 l hl⟩
    rcases JX.1 hl with rfl|hl
    ·exact hokH
    ·obtain⟨i,hi,rfl⟩:=LF.1 hl
     exact hall i hi
   ·have:=Mo.1 hA.2.2.2.2 x hx
    simpa using this
  conv=>lhs;unfold bN.l1
  by_cases h:j<r.2.2.length
  ·rw[ab (jq h)]
   by_cases hs:(ey r.1 r.2.1++tB ((r.2.2.take j).map (ey r.1))).length<=3000
   ·rw[ab (by rw[ah,dg];omega)]
    have hmem:r.2.2[j]∈dV r:=JR _ (JK h);obtain⟨l1,l2⟩:=ye n r hn ho r.2.2[j] (S.name _ hmem) (S.args _ hmem) (Kf.1 hA.2.2.2.1 _ hmem);have hj3:∀(s:By) (Kn:ByteArray->Option ByteArray),s.length<=3004->(vH r.2.2[j]=true->bN.j3 n (jM r.1) (bt s) (j:Int) r Kn=Kn (bt (s++ey r.1 r.2.2[j])))/\(¬vH r.2.2[j]=true->bN.j3 n (jM r.1) (bt s) (j:Int) r Kn=some Jq):=by
     intro s Kn hs;unfold bN.j3;simp only[aE _ h];rw[ab (inl' h)]
     constructor
     ·intro hk
      obtain⟨e1,e2⟩:=l1 hk;rw[e1,Jp,ao (by simp),ab (by simp only[ah,aT];omega),ap]
     ·intro hk
      obtain⟨s',e1⟩:=l2 hk;rw[e1,Jp,ab (by simp)]
    have hsep:bN.j2 n (jM r.1) (bt (ey r.1 r.2.1++tB ((r.2.2.take j).map (ey r.1)))) (j:Int) r (λt22 t23=>bN.l1 n (jM r.1) r (λt24=>
      if Js t24+Js ⟨#[46]⟩<=aT then
      if decide ((Js (t24++⟨#[46]⟩):Int)>3000)=true then
      some Jq
      else
      some (t24++⟨#[46]⟩)
      else
      none) k t22 t23)=bN.j3 n (jM r.1) (bt (ey r.1 r.2.1++tB ((r.2.2.take j).map (ey r.1))++(if(r.2.2.take j).map (ey r.1)=[]then [32,58,45,32]else [44,32]))) (j:Int) r (λt=>bN.l1 n (jM r.1) r (λt24=>
      if Js t24+Js ⟨#[46]⟩<=aT then
      if decide ((Js (t24++⟨#[46]⟩):Int)>3000)=true then
      some Jq
      else
      some (t24++⟨#[46]⟩)
      else
      none) k t ((j+1:Nat):Int)):=by
     unfold bN.j2;rw[iY (by omega)]
     by_cases hj0:j=0
     ·subst hj0
      rw[ab (by simp),show(⟨#[32,58,45,32]⟩:ByteArray)=bt [32,58,45,32]from rfl,ab (by simp only[ah,Jw,JB,aT];omega),ap,ab (by simp)]
     ·have hne:¬(r.2.2.take j).map (ey r.1)=[]:=by
       intro e;have:((r.2.2.take j).map (ey r.1)).length=0:=by rw[e];rfl
       rw[Kp,Li]at this;omega
      rw[ao (by simp;omega),show(⟨#[44,32]⟩:ByteArray)=bt [44,32]from rfl,ab (by simp only[ah,Jw,JB,aT];omega),ap,ao hne]
    rw[hsep];obtain⟨q1,q2⟩:=hj3 (ey r.1 r.2.1++tB ((r.2.2.take j).map (ey r.1))++(if(r.2.2.take j).map (ey r.1)=[]then [32,58,45,32]else [44,32])) (λt=>bN.l1 n (jM r.1) r (λt24=>
      if Js t24+Js ⟨#[46]⟩<=aT then
      if decide ((Js (t24++⟨#[46]⟩):Int)>3000)=true then
      some Jq
      else
      some (t24++⟨#[46]⟩)
      else
      none) k t ((j+1:Nat):Int)) (by
     rw[Jx]
     split<;>simp only[Jw,JB]<;>omega)
    by_cases hk':vH r.2.2[j]=true
    ·rw[q1 hk']
     have hst:ey r.1 r.2.1++tB ((r.2.2.take j).map (ey r.1))++(if(r.2.2.take j).map (ey r.1)=[]then [32,58,45,32]else [44,32])++ey r.1 r.2.2[j]=ey r.1 r.2.1++tB ((r.2.2.take (j+1)).map (ey r.1)):=by
      rw[JG h,Kz,JM,KI,G8];simp only[Ka]
     rw[hst];refine Es hn S hA hb3 hh hokH k (j+1) (by omega) (by omega) (λi hi hij=>?_) ?_
     ·by_cases e:i=j
      ·subst e;exact hk'
      ·exact hok i hi (by omega)
     ·rw[← hst]
      have:=(l1 hk').2;simp only[Jx]at hs⊢
      split<;>simp only[Jw,JB]<;>omega
    ·rw[q2 hk']
     unfold fP;rw[ao];rintro⟨hf,_⟩;exact hk' ((jW.1 hf).lits _ hmem).1
   ·rw[ao (by rw[ah,dg];omega),hend _ hlen,ao (by simp only[Jx]at hs⊢;omega)]
    unfold fP;rw[ao];rintro⟨_,hl⟩;rw[yf]at hl;obtain⟨t,ht⟩:=Ia ((r.2.2.take j).map (ey r.1)) ((r.2.2.drop j).map (ey r.1));rw[← Kz,KR]at ht;rw[ht]at hl;simp only[Jx]at hl hs;omega
  ·have hj':j=r.2.2.length:=by omega
   rw[ao (km h),hend _ hlen];have hf:=hform λi hi=>hok i hi (by omega)
   have e:(r.2.2.take j)=r.2.2:=JT (by omega);rw[e,← yf];unfold fP
   by_cases hl:(jL r).length<=3000
   ·rw[ab hl,ab ⟨hf,hl⟩]
   ·rw[ao hl,ao (λhh=>hl hh.2)]
theorem yg (hn:1100000<=n)(S:I8 r):bN.F n r=some (fP r):=by
 have hB:=S.body;have hneg:¬(qt r=true/\(jL r).length<=3000)->fP r=Jq:=λh=>by unfold fP;rw[ao h]
 unfold bN.F
 by_cases c3:r.2.2.length<=3000
 ·rw[ao (by simp;omega)]
  obtain⟨p,q⟩:=G6 n r hn S
  by_cases cA:yc r
  ·rw[p cA,Jp,ao (by simp)]
   have ho:=Be cA.2.2.1;have hmem:r.2.1∈dV r:=JN;obtain⟨l1,l2⟩:=ye n r hn ho r.2.1 (S.name _ hmem) (S.args _ hmem) (Kf.1 cA.2.2.2.1 _ hmem)
   by_cases hk:vH r.2.1=true
   ·obtain⟨e1,e2⟩:=l1 hk
    rw[e1,Jp,ab (by simp)]
    by_cases c1:r.2.1.1=1
    ·rw[ao (by simp[c1])]
     unfold bN.j0;have:=Es n r hn S cA c3 c1 hk n 0 (JQ _) (by omega) (λi _ h=>bH h (JL _)) (by simp[tB];omega);simp only[KF,KI,tB,KA,show((0:Nat):Int)=0 from rfl]at this;exact this
    ·rw[ab (by simp[c1]),hneg λh=>c1 (jW.1 h.1).head]
   ·obtain⟨s,e1⟩:=l2 hk
    rw[e1,Jp,ao (by simp),hneg λh=>hk ((jW.1 h.1).lits _ hmem).1]
  ·obtain⟨o,e⟩:=q cA
   rw[e,Jp,ab (by simp),hneg];rintro⟨hf,hl⟩;have F:=jW.1 hf;refine cA ⟨F.few,lU.2 λj h=>by rw[Ll];exact F.exps j h,λj hj=>Me (Ed F.form hj) hl,Kf.2 λl hl=>(F.lits l hl).2,?_⟩;rw[Mo];intro x hx;simpa using F.once x hx
 ·rw[ab (by simp;omega),hneg]
  rintro⟨hf,hl⟩;have:=B5 (jW.1 hf).form;omega
end
theorem gX (a b:ByteArray):Abs.seq a b=decide (a=b):=by
 rw[jK a,jK b,gz]
 by_cases h:a.data.toList=b.data.toList
 ·rw[h];simp
 ·have:¬bt a.data.toList=bt b.data.toList:=λe=>h (by have:=congrArg (λx=>x.data.toList) e;simpa[eB]using this)
  rw[dq this,beq_eq_false_iff_ne];exact h
theorem sY {α:Type}{x y:α}{l m:List α}:x::l=y::m↔x=y/\l=m:=⟨λh=>by cases h;exact⟨rfl,rfl⟩,λ⟨h1,h2⟩=>by rw[h1,h2]⟩
theorem dO {α:Type} [DecidableEq α](x y:α)(l m:List α):decide (x::l=y::m)=(decide (x=y)&&decide (l=m)):=by
 by_cases h1:x=y<;>by_cases h2:l=m<;>simp[h1,h2]
section
variable (n:Nat) (hn:1100000<=n)
theorem sZ (a b:List Int)(hab:a.length=b.length)(ha:a.length<=1048576):∀(k i:Nat),i<=a.length->a.length - i<k->eD.l0 n a b (λ_=>some true) k (i:Int)=some (decide (a.drop i=b.drop i))
 |0,i,_,hk=>bH hk (JL _)
 |k+1,i,hi,hk=>by
  by_cases h:i<a.length
  ·have h2:i<b.length:=by omega
   conv=>lhs;unfold eD.l0
   rw[ab (jq h),ab (inl' h),ab (inl' h2),aE _ h,aE _ h2,JH h,JH h2]
   by_cases e:a[i]=b[i]
   ·rw[ao (by simp[e]),iY (by omega),sZ a b hab ha k (i+1) (by omega) (by omega),dO,iX e,KD]
   ·rw[ab (by simp[e]),dO,dq e,LG]
  ·conv=>lhs;unfold eD.l0
   rw[ao (km h),JJ (by omega),JJ (by omega)]
   rfl
theorem qw (hn:1100000<=n)(a b:List Int)(ha:a.length<=1048576):eD.F n a b=some (decide (a=b)):=by
 unfold eD.F
 by_cases hab:a.length=b.length
 ·rw[ao (by simp[hab])]
  have:=sZ n a b hab ha n 0 (JQ _) (by omega);rw[show((0:Nat):Int)=0 from rfl,JY,JY]at this;exact this
 ·have:¬(a.length:Int)=(b.length:Int):=by omega
  rw[ab (by simp[this]),dq (λe=>hab (by rw[e]))]
theorem ta (a b:List Int)(hab:a.length=b.length)(ha:a.length<=1048576):∀(k i:Nat),i<=a.length->a.length - i<k->ci.l0 n a b (a.length:Int) (λ_=>some true) k (i:Int)=some (decide (a.drop i=b.drop i))
 |0,i,_,hk=>bH hk (JL _)
 |k+1,i,hi,hk=>by
  by_cases h:i<a.length
  ·have h2:i<b.length:=by omega
   conv=>lhs;unfold ci.l0
   rw[ab (jq h),ab (inl' h),ab (inl' h2),aE _ h,aE _ h2,JH h,JH h2]
   by_cases e:a[i]=b[i]
   ·rw[ao (by simp[e]),iY (by omega),ta a b hab ha k (i+1) (by omega) (by omega),dO,iX e,KD]
   ·rw[ab (by simp[e]),dO,dq e,LG]
  ·conv=>lhs;unfold ci.l0
   rw[ao (km h),JJ (by omega),JJ (by omega)]
   rfl
theorem qx (hn:1100000<=n)(a b:List Int)(ha:a.length<=1048576):ci.F n a b=some (decide (a=b)):=by
 unfold ci.F
 by_cases hab:a.length=b.length
 ·rw[ao (by simp[hab])]
  have:=ta n a b hab ha n 0 (JQ _) (by omega);rw[show((0:Nat):Int)=0 from rfl,JY,JY]at this;exact this
 ·have:¬(a.length:Int)=(b.length:Int):=by omega
  rw[ab (by simp[this]),dq (λe=>hab (by rw[e]))]
theorem oY (x y:Ex):decide (x=y)=(decide (x.1=y.1)&&(decide (x.2.1=y.2.1)&&decide (x.2.2=y.2.2))):=by
 obtain⟨a,b,c⟩:=x;obtain⟨d,e,f⟩:=y
 by_cases h1:a=d<;>by_cases h2:b=e<;>by_cases h3:c=f<;>simp[h1,h2,h3]
theorem tc (hn:1100000<=n)(x y:Ex)(hx:x.2.2.length<=1048576):fI.F n x y=some (decide (x=y)):=by
 unfold fI.F;rw[qw n hn _ _ hx,gX,oY];cases decide (x.1=y.1)<;>cases decide (x.2.1=y.2.1)<;>cases decide (x.2.2=y.2.2)<;>rfl
theorem td (hn:1100000<=n)(x y:Ex)(hx:x.2.2.length<=1048576):gY.F n x y=some (decide (x=y)):=by
 unfold gY.F;rw[qx n hn _ _ hx,gX,oY];cases decide (x.1=y.1)<;>cases decide (x.2.1=y.2.1)<;>cases decide (x.2.2=y.2.2)<;>rfl
theorem zR (hn:1100000<=n)(x y:Ex)(hx:x.2.2.length<=1048576):fF.F n x y=some (decide (x=y)):=by
 unfold fF.F;rw[qx n hn _ _ hx,gX,oY];cases decide (x.1=y.1)<;>cases decide (x.2.1=y.2.1)<;>cases decide (x.2.2=y.2.2)<;>rfl
theorem Et (a b:List Ex)(f:Ex×Ex×Unit->Option Bool)(hf:∀x∈a,∀y,f (x,y,())=some (decide (x=y)))(hab:a.length=b.length)(ha:a.length<=1048576):∀(k i:Nat),i<=a.length->a.length - i<k->bw.l0 n b f a (a.length:Int) (λ_=>some true) k (i:Int)=some (decide (a.drop i=b.drop i))
 |0,i,_,hk=>bH hk (JL _)
 |k+1,i,hi,hk=>by
  by_cases h:i<a.length
  ·have h2:i<b.length:=by omega
   conv=>lhs;unfold bw.l0
   rw[ab (jq h),ab (inl' h),ab (inl' h2),aE _ h,aE _ h2,hf _ (JK h),Jp,JH h,JH h2]
   by_cases e:a[i]=b[i]
   ·rw[ao (by simp[e]),iY (by omega),Et a b f hf hab ha k (i+1) (by omega) (by omega),dO,iX e,KD]
   ·rw[ab (by simp[e]),dO,dq e,LG]
  ·conv=>lhs;unfold bw.l0
   rw[ao (km h),JJ (by omega),JJ (by omega)]
   rfl
theorem G9 (hn:1100000<=n)(a b:List Ex)(f:Ex×Ex×Unit->Option Bool)(hf:∀x∈a,∀y,f (x,y,())=some (decide (x=y)))(ha:a.length<=1048576):bw.F n a b f=some (decide (a=b)):=by
 unfold bw.F
 by_cases hab:a.length=b.length
 ·rw[ao (by simp[hab])]
  have:=Et n a b f hf hab ha n 0 (JQ _) (by omega);rw[show((0:Nat):Int)=0 from rfl,JY,JY]at this;exact this
 ·have:¬(a.length:Int)=(b.length:Int):=by omega
  rw[ab (by simp[this]),dq (λe=>hab (by rw[e]))]
theorem Eu (a b:List Ex)(f:Ex×Ex×Unit->Option Bool)(hf:∀x∈a,∀y,f (x,y,())=some (decide (x=y)))(hab:a.length=b.length)(ha:a.length<=1048576):∀(k i:Nat),i<=a.length->a.length - i<k->bv.l0 n b f a (a.length:Int) (λ_=>some true) k (i:Int)=some (decide (a.drop i=b.drop i))
 |0,i,_,hk=>bH hk (JL _)
 |k+1,i,hi,hk=>by
  by_cases h:i<a.length
  ·have h2:i<b.length:=by omega
   conv=>lhs;unfold bv.l0
   rw[ab (jq h),ab (inl' h),ab (inl' h2),aE _ h,aE _ h2,hf _ (JK h),Jp,JH h,JH h2]
   by_cases e:a[i]=b[i]
   ·rw[ao (by simp[e]),iY (by omega),Eu a b f hf hab ha k (i+1) (by omega) (by omega),dO,iX e,KD]
   ·rw[ab (by simp[e]),dO,dq e,LG]
  ·conv=>lhs;unfold bv.l0
   rw[ao (km h),JJ (by omega),JJ (by omega)]
   rfl
theorem Ga (hn:1100000<=n)(a b:List Ex)(f:Ex×Ex×Unit->Option Bool)(hf:∀x∈a,∀y,f (x,y,())=some (decide (x=y)))(ha:a.length<=1048576):bv.F n a b f=some (decide (a=b)):=by
 unfold bv.F
 by_cases hab:a.length=b.length
 ·rw[ao (by simp[hab])]
  have:=Eu n a b f hf hab ha n 0 (JQ _) (by omega);rw[show((0:Nat):Int)=0 from rfl,JY,JY]at this;exact this
 ·have:¬(a.length:Int)=(b.length:Int):=by omega
  rw[ab (by simp[this]),dq (λe=>hab (by rw[e]))]
theorem yh (x y:Ru):decide (x=y)=(decide (x.1=y.1)&&(decide (x.2.1=y.2.1)&&decide (x.2.2=y.2.2))):=by
 obtain⟨a,b,c⟩:=x;obtain⟨d,e,f⟩:=y
 by_cases h1:a=d<;>by_cases h2:b=e<;>by_cases h3:c=f<;>simp[h1,h2,h3]
theorem qy (hn:1100000<=n)(a b:Ru)(S:SmR a):fg.F n a b=some (decide (a=b)):=by
 unfold fg.F;rw[td n hn _ _ (S.args _ JN),G9 n hn _ _ _ (λx hx y=>by
  show((gY.F n x y).bind some)=_;rw[td n hn x y (S.args _ (JR _ hx))]
  rfl) S.body,Ga n hn _ _ _ (λx hx y=>by
  show((fF.F n x y).bind some)=_;rw[zR n hn x y (S.kids _ hx)]
  rfl) S.exps,yh]
 cases decide (a.1=b.1)<;>cases decide (a.2.1=b.2.1)<;>cases decide (a.2.2=b.2.2)<;>rfl
theorem qz (hn:1100000<=n)(a b:Ru)(S:SmR a)(hab:a.1.length=b.1.length)(K:Unit->Option Bool):∀(k i:Nat),i<=a.1.length->a.1.length - i<k->ca.l1 n a b K k (i:Int)=if a.1.drop i=b.1.drop i then K ()else some false
 |0,i,_,hk=>bH hk (JL _)
 |k+1,i,hi,hk=>by
  have hE:=S.exps
  by_cases h:i<a.1.length
  ·have h2:i<b.1.length:=by omega
   conv=>lhs;unfold ca.l1
   simp only[aE _ h,aE _ h2,ab (inl' h),ab (inl' h2)];rw[ab (jq h),qw n hn _ _ (S.kids _ (JK h)),Jp,gX,iY (by omega),qz hn a b S hab K k (i+1) (by omega) (by omega),JH h,JH h2];have e:=oY a.1[i] b.1[i];have hc:(a.1[i]::a.1.drop (i+1)=b.1[i]::b.1.drop (i+1))↔(a.1[i]=b.1[i]/\a.1.drop (i+1)=b.1.drop (i+1)):=sY
   by_cases c:a.1[i]=b.1[i]
   ·rw[iX c]at e
    have e':=e.symm;simp only[Jz,dg]at e';rw[ab (by simp[e'.1]),ab (by simp[e'.2.1]),ao (by simp[e'.2.2])]
    by_cases d:a.1.drop (i+1)=b.1.drop (i+1)
    ·rw[ab d,ab (hc.2 ⟨c,d⟩)]
    ·rw[ao d,ao (λh=>d (hc.1 h).2)]
   ·rw[dq c]at e
    rw[ao (λh=>c (hc.1 h).1)]
    revert e
    cases decide ((a.1[i]).1=(b.1[i]).1)<;>cases decide ((a.1[i]).2.1=(b.1[i]).2.1)<;>cases decide ((a.1[i]).2.2=(b.1[i]).2.2)<;>intro e<;>first|rfl|(simp at e)
  ·conv=>lhs;unfold ca.l1
   rw[ao (km h),JJ (by omega),JJ (by omega),ab rfl]
theorem qA (hn:1100000<=n)(a b:Ru)(S:SmR a)(hab:a.2.2.length=b.2.2.length)(K:Unit->Option Bool):∀(k i:Nat),i<=a.2.2.length->a.2.2.length - i<k->ca.l2 n a b K k (i:Int)=if a.2.2.drop i=b.2.2.drop i then K ()else some false
 |0,i,_,hk=>bH hk (JL _)
 |k+1,i,hi,hk=>by
  have hB:=S.body
  by_cases h:i<a.2.2.length
  ·have h2:i<b.2.2.length:=by omega
   conv=>lhs;unfold ca.l2
   rw[ab (jq h),ab (inl' h),ab (inl' h2),aE _ h,aE _ h2,tc n hn _ _ (S.args _ (JR _ (JK h))),Jp,iY (by omega),qA hn a b S hab K k (i+1) (by omega) (by omega),JH h,JH h2];have hc:(a.2.2[i]::a.2.2.drop (i+1)=b.2.2[i]::b.2.2.drop (i+1))↔(a.2.2[i]=b.2.2[i]/\a.2.2.drop (i+1)=b.2.2.drop (i+1)):=sY
   by_cases c:a.2.2[i]=b.2.2[i]
   ·rw[ao (by simp[c])]
    by_cases d:a.2.2.drop (i+1)=b.2.2.drop (i+1)
    ·rw[ab d,ab (hc.2 ⟨c,d⟩)]
    ·rw[ao d,ao (λh=>d (hc.1 h).2)]
   ·rw[ab (by simp[c]),ao (λh=>c (hc.1 h).1)]
  ·conv=>lhs;unfold ca.l2
   rw[ao (km h),JJ (by omega),JJ (by omega),ab rfl]
theorem qB (hn:1100000<=n)(a b:Ru)(S:SmR a):ca.F n a b=some (decide (a=b)):=by
 have hE:=S.exps;have hB:=S.body;unfold ca.F;have hr:=yh a b
 by_cases h1:a.1.length=b.1.length
 ·rw[ab (by simp[h1])]
  by_cases h2:a.2.2.length=b.2.2.length
  ·rw[ab (by simp[h2]),tc n hn _ _ (S.args _ JN),Jp]
   by_cases c:a.2.1=b.2.1
   ·rw[ao (by simp[c])]
    unfold ca.j0;have e1:=λK=>qz n hn a b S h1 K n 0 (JQ _) (by omega)
    have e2:=λK=>qA n hn a b S h2 K n 0 (JQ _) (by omega)
    simp only[show((0:Nat):Int)=0 from rfl,JY]at e1 e2;rw[e1,e2,hr]
    by_cases d1:a.1=b.1<;>by_cases d2:a.2.2=b.2.2<;>simp[c,d1,d2]
   ·rw[ab (by simp[c]),hr]
    simp[c]
  ·have:¬(a.2.2.length:Int)=(b.2.2.length:Int):=by omega
   rw[ao (by simp[this]),dq (λe=>h2 (by rw[e]))]
 ·have:¬(a.1.length:Int)=(b.1.length:Int):=by omega
  rw[ao (by simp[this]),dq (λe=>h1 (by rw[e]))]
end
theorem tf (k:Nat)(h:k<=1000000):(KW (k:Int)).length<=8:=by
 have e:KW (k:Int)=Lib.decDigits k:=by
  unfold KW;rw[ao (by omega),JS]
 rw[e];have:=oR 6 k (by omega);omega
def vT (p:Nat):ByteArray:=bt (118::KW (((p+1:Nat)):Int))
def tz (names:List ByteArray)(e:Ex):Ex:=if e.1=1 then(e.1,(vT (kF names e.2.1),e.2.2))else e
def gA (r:Ru):Ru:=(r.1.map (tz (bL [] r.1)),r.2)
theorem H1 (p:Nat)(h:p<=100000):Js ⟨#[118]⟩+Js (bt (KW (((p+1:Nat)):Int)))<=aT/\(⟨#[118]⟩:ByteArray)++bt (KW (((p+1:Nat)):Int))=vT p:=by
 have:=tf (p+1) (by omega);rw[show(⟨#[118]⟩:ByteArray)=bt [118]from rfl];refine⟨by simp only[ah,Jw,JB,aT];omega,?_⟩;rw[ap]
 rfl
section
variable (n:Nat) (hn:1100000<=n)
theorem IN (l:List ByteArray)(s:ByteArray)(hl:l.length<=1048576):∀(k i:Nat),i<=l.length->l.length - i<k->iM.l0 n l s (λ_=>some false) k (i:Int)=some (pV (l.drop i) s)
 |0,i,_,hk=>bH hk (JL _)
 |k+1,i,hi,hk=>by
  by_cases h:i<l.length
  ·conv=>lhs;unfold iM.l0
   rw[ab (jq h),ab (inl' h),aE _ h,gX,JH h];unfold pV;rw[MP]
   by_cases e:l[i]=s
   ·rw[ab (by simp[e]),iX e,Bool.true_or]
   ·rw[ao (by simp[e]),iY (by omega),IN l s hl k (i+1) (by omega) (by omega),dq e,Bool.false_or]
    rfl
  ·conv=>lhs;unfold iM.l0
   rw[ao (km h),JJ (by omega)]
   rfl
theorem Ev (hn:1100000<=n)(l:List ByteArray)(s:ByteArray)(hl:l.length<=1048576):iM.F n l s=some (pV l s):=by
 unfold iM.F;have:=IN n l s hl n 0 (JQ _) (by omega);rw[show((0:Nat):Int)=0 from rfl,JY]at this;exact this
theorem Bf (l:List ByteArray)(s:ByteArray)(hl:l.length<=1048576):∀(k i:Nat),i<=l.length->l.length - i<k->bB.l0 n l s (l.length:Int) (λ_=>some (-1)) k (i:Int)=some (if pV (l.drop i) s=true then((i+kF (l.drop i) s:Nat):Int)else -1)
 |0,i,_,hk=>bH hk (JL _)
 |k+1,i,hi,hk=>by
  by_cases h:i<l.length
  ·conv=>lhs;unfold bB.l0
   rw[ab (jq h),ab (inl' h),aE _ h,gX,JH h];unfold kF;rw[List.findIdx_cons]
   by_cases e:s=l[i]
   ·rw[ab (by simp[e]),ab (jC.2 (by rw[e];exact JN)),iX e.symm]
    rfl
   ·have e':¬l[i]=s:=λh=>e h.symm
    rw[ao (by simp[e]),iY (by omega),Bf l s hl k (i+1) (by omega) (by omega),dq e']
    by_cases hm:pV (l.drop (i+1)) s=true
    ·rw[ab hm,ab (jC.2 (JR _ (jC.1 hm)))]
     simp only[cond_false];unfold kF
     congr 2
     omega
    ·rw[ao hm,ao (λh=>by
      rcases JX.1 (jC.1 h)with h|h
      ·exact e h
      ·exact hm (jC.2 h))]
  ·conv=>lhs;unfold bB.l0
   rw[ao (km h),JJ (by omega),ao (λh=>by cases jC.1 h)]
theorem yi (hn:1100000<=n)(l:List ByteArray)(s:ByteArray)(hl:l.length<=1048576):bB.F n l s=some (if pV l s=true then(kF l s:Int)else -1):=by
 unfold bB.F;have:=Bf n l s hl n 0 (JQ _) (by omega);rw[show((0:Nat):Int)=0 from rfl,JY,Ll]at this;exact this
theorem yj (hn:1100000<=n)(l:List ByteArray)(s:ByteArray)(hl:l.length<=1048576):cX.F n l s=some (pV l s):=by
 unfold cX.F;rw[yi n hn l s hl,Jp]
 by_cases h:pV l s=true
 ·rw[ab h,h]
  simp
 ·rw[ao h,Bool.eq_false_iff.2 h]
  rfl
theorem uz (hn:1100000<=n)(E:List Ex)(hE:E.length<=1000)(K:List ByteArray->Option (List ByteArray)):∀(k i:Nat),i<=E.length->E.length - i<k->dC.l0 n E (E.length:Int) K k (i:Int) (bL [] (E.take i))=K (bL [] E)
 |0,i,_,hk=>bH hk (JL _)
 |k+1,i,hi,hk=>by
  have hlen:=lT (E.take i) [];rw[Li]at hlen;simp only[JB]at hlen
  by_cases h:i<E.length
  ·have hs:=sU h []
   have ih:=uz hn E hE K k (i+1) (by omega) (by omega);rw[hs]at ih
   conv=>lhs;unfold dC.l0
   simp only[aE _ h];rw[ab (jq h),ab (inl' h),iY (by omega)];unfold jm at ih
   by_cases c1:(E[i]).1=1
   ·rw[ab c1]at ih
    rw[ab (by simp[c1]),yj n hn _ _ (by omega),Jp]
    by_cases c2:pV (bL [] (E.take i)) (E[i]).2.1=true
    ·rw[ab c2]at ih
     rw[ao (by simp[c2])];exact ih
    ·rw[ao c2]at ih
     rw[ab (by simpa using c2),ab (by simp[aT];omega)];exact ih
   ·rw[ao c1]at ih
    rw[ao (by simpa using c1)];exact ih
  ·conv=>lhs;unfold dC.l0
   rw[ao (km h),JT (by omega)]
theorem zS (hn:1100000<=n)(r:Ru)(hE:r.1.length<=1000):dC.F n r=some (bL [] r.1):=by
 unfold dC.F;have:=uz n hn r.1 hE (λx=>some x) n 0 (JQ _) (by omega);rw[show((0:Nat):Int)=0 from rfl]at this;exact this
theorem Cn (hn:1100000<=n)(t:Int)(e:Ex)(names:List ByteArray)(hm:e.1=1->e.2.1∈names)(hl:names.length<=1000):fT.F n t e names=some (tz names e):=by
 unfold fT.F tz
 by_cases c1:e.1=1
 ·have hlt:=sT (hm c1)
  obtain⟨v1,v2⟩:=H1 (kF names e.2.1) (by omega);rw[ab (by simp[c1]),ab c1,yi n hn _ _ (by omega),ab (jC.2 (hm c1)),Jp,iY (by omega)];unfold cI.F;rw[ab (by omega),Jp];rw[show(⟨(KW (((kF names e.2.1+1:Nat)):Int)).toArray⟩:ByteArray)=bt (KW (((kF names e.2.1+1:Nat)):Int))from rfl,ab v1,v2]
 ·rw[ao (by simpa using c1),ao c1]
theorem Ew (hn:1100000<=n)(r:Ru)(S:SmR r)(hE:r.1.length<=1000)(r8 r9:Ru)(x:Ex×List Ex)(K:Ru->Option Ru):∀(k i:Nat),i<=r.1.length->r.1.length - i<k->
  cb.l0 n (bL [] r.1) r.1 (r.1.length:Int) r8 r9 K k (i:Int) ((r.1.take i).map (tz (bL [] r.1)),x)=K (r.1.map (tz (bL [] r.1)),x)
 |0,i,_,hk=>bH hk (JL _)
 |k+1,i,hi,hk=>by
  have hlen:=lT r.1 [];simp only[JB]at hlen
  by_cases h:i<r.1.length
  ·have hke:=S.kids _ (JK h)
   have hm:(r.1[i]).1=1->(r.1[i]).2.1∈bL [] r.1:=λh1=>by
    obtain⟨h2,_⟩:=xY h h1 [];obtain⟨t,ht⟩:=pW (r.1.drop (i+1)) (bL [] (r.1.take (i+1)));have:bL [] r.1=bL [] (r.1.take (i+1))++t:=by
     rw[← ht];unfold bL;rw[← L6,KR]
    rw[this];exact List.mem_append_left _ h2
   have ih:=Ew hn r S hE r8 r9 x K k (i+1) (by omega) (by omega);rw[JG h,Kz]at ih
   conv=>lhs;unfold cb.l0
   simp only[aE _ h,Kx];rw[ab (jq h),ab (inl' h),ab (by simp[aT];omega)];rw[show((r.1[i]).1,((r.1[i]).2.1,(r.1[i]).2.2))=r.1[i]from rfl,Cn n hn _ _ _ hm (by omega),Jp,ab (by simp[aT];omega),iY (by omega)];exact ih
  ·conv=>lhs;unfold cb.l0
   rw[ao (km h),JT (by omega)]
theorem mu (l:Ex)(h:l.2.2.length<=1048576):fb.F n l=some l:=by
 unfold fb.F;rw[ab (by simp[aT];omega),Kx]
theorem Ey (r:Ru)(S:SmR r)(t16:Ru)(E:List Ex)(hd:Ex)(K:Ru->Option Ru):∀(k i:Nat),i<=r.2.2.length->r.2.2.length - i<k->
  cb.l1 n r.2.2 (r.2.2.length:Int) t16 K k (i:Int) (E,(hd,r.2.2.take i))=K (E,(hd,r.2.2))
 |0,i,_,hk=>bH hk (JL _)
 |k+1,i,hi,hk=>by
  have hB:=S.body
  by_cases h:i<r.2.2.length
  ·have ih:=Ey r S t16 E hd K k (i+1) (by omega) (by omega)
   rw[JG h]at ih
   conv=>lhs;unfold cb.l1
   rw[ab (jq h),ab (inl' h),aE _ h,mu n _ (S.args _ (JR _ (JK h))),Jp,ab (by simp[aT];omega),iY (by omega)];exact ih
  ·conv=>lhs;unfold cb.l1
   rw[ao (km h),JT (by omega)]
theorem oZ (hn:1100000<=n)(r:Ru)(S:SmR r)(hE:r.1.length<=1000):fG.F n r=some (gA r):=by
 have hB:=S.body;unfold fG.F cb.F;rw[zS n hn r hE,Jp,mu n _ (S.args _ JN),Jp];have e0:=λK=>Ew n hn r S hE r ([],(kY,[])) (r.2.1,[]) K n 0 (JQ _) (by omega)
 simp only[KF,KI,show((0:Nat):Int)=0 from rfl]at e0;rw[e0];have e1:=λK=>Ey n r S ([],(kY,[])) (r.1.map (tz (bL [] r.1))) r.2.1 K n 0 (JQ _) (by omega)
 simp only[KF,show((0:Nat):Int)=0 from rfl]at e1;rw[e1]
 rfl
theorem Bg (r:Ru)(S:SmR r)(t4:Ru)(x:Ex×List Ex)(K:Ru->Option Ru):∀(k i:Nat),i<=r.1.length->r.1.length - i<k->dw.l0 n r t4 K k (i:Int) (r.1.take i,x)=K (r.1,x)
 |0,i,_,hk=>bH hk (JL _)
 |k+1,i,hi,hk=>by
  have hE:=S.exps
  by_cases h:i<r.1.length
  ·have hke:=S.kids _ (JK h)
   have ih:=Bg r S t4 x K k (i+1) (by omega) (by omega);rw[JG h]at ih
   conv=>lhs;unfold dw.l0
   simp only[aE _ h,Kx,ab (inl' h)];rw[ab (jq h),ab (by simp[aT];omega),ab (by simp[aT];omega),iY (by omega)];exact ih
  ·conv=>lhs;unfold dw.l0
   rw[ao (km h),JT (by omega)]
theorem Bh (r:Ru)(S:SmR r)(t9:Ru)(E:List Ex)(hd:Ex)(K:Ru->Option Ru):∀(k i:Nat),i<=r.2.2.length->r.2.2.length - i<k->dw.l1 n r t9 K k (i:Int) (E,(hd,r.2.2.take i))=K (E,(hd,r.2.2))
 |0,i,_,hk=>bH hk (JL _)
 |k+1,i,hi,hk=>by
  have hB:=S.body
  by_cases h:i<r.2.2.length
  ·have hke:=S.args _ (JR _ (JK h))
   have ih:=Bh r S t9 E hd K k (i+1) (by omega) (by omega);rw[JG h]at ih
   conv=>lhs;unfold dw.l1
   simp only[aE _ h,Kx,ab (inl' h)];rw[ab (jq h),ab (by simp[aT];omega),ab (by simp[aT];omega),iY (by omega)];exact ih
  ·conv=>lhs;unfold dw.l1
   rw[ao (km h),JT (by omega)]
theorem Bi (hn:1100000<=n)(r:Ru)(S:SmR r):dw.F n r=some r:=by
 have hE:=S.exps;have hB:=S.body;have hh:=S.args _ (show r.2.1∈dV r from JN);unfold dw.F;rw[ab (by simp[aT];omega),Kx];have e0:=λK=>Bg n r S ([],(kY,[])) (r.2.1,[]) K n 0 (JQ _) (by omega)
 simp only[KF,show((0:Nat):Int)=0 from rfl]at e0;have e1:=λK=>Bh n r S ([],(kY,[])) r.1 r.2.1 K n 0 (JQ _) (by omega)
 simp only[KF,show((0:Nat):Int)=0 from rfl]at e1;refine(e0 _).trans ?_;refine(e1 _).trans ?_
 rfl
theorem Ez (hn:1100000<=n)(r t17:Ru){i:Nat}(hi:i<r.1.length)(names:List ByteArray)(hnd:names.Nodup)(hm:(r.1[i]).2.1∈names)(hl:names.length<=1000)(K:Ru->Option Ru)(D:List Ex)(hD:i<D.length)(x:Ex×List Ex):∀(k j:Nat),j<=names.length->names.length - j<k->
  cT.l2 n (i:Int) r t17 names K k (j:Int) (D,x)=K (if j<=kF names (r.1[i]).2.1 then D.set i ((D[i]).1,(vT (kF names (r.1[i]).2.1),(D[i]).2.2))else D,x)
 |0,j,_,hk=>bH hk (JL _)
 |k+1,j,hj,hk=>by
  have hlt:=sT hm
  by_cases h:j<names.length
  ·conv=>lhs;unfold cT.l2
   simp only[aE _ h,aE _ hi,aE _ hD];rw[ab (jq h),ab (inl' h),ab (inl' hi),gX,iY (by omega)]
   by_cases e:names[j]=(r.1[i]).2.1
   ·have hp:=Ee hnd h e
    obtain⟨v1,v2⟩:=H1 j (by omega);rw[ab (by simp[e]),qY n _ (by omega) (by omega) (by omega),Jp,ab v1,ab (inl' hD),v2,JS];have hD2:i<(D.set i ((D[i]).1,(vT j,(D[i]).2.2))).length:=by rw[Mx];exact hD
    refine(Ez hn r t17 hi names hnd hm hl K _ hD2 x k (j+1) (by omega) (by omega)).trans ?_;rw[ao (by omega),ab (by omega),← hp]
   ·rw[ao (by simp[e]),Ez hn r t17 hi names hnd hm hl K D hD x k (j+1) (by omega) (by omega)]
    have hne:j≠kF names (r.1[i]).2.1:=λh=>e (by
     have:=Ba hm;simp only[← h]at this;exact this)
    by_cases c:j<=kF names (r.1[i]).2.1
    ·rw[ab c,ab (by omega)]
    ·rw[ao c,ao (by omega)]
  ·conv=>lhs;unfold cT.l2
   rw[ao (km h),ao (by omega)]
theorem EA {α:Type}(A:List α)(x y:α)(B:List α){i:Nat}(h:A.length=i):(A++x::B).set i y=A++y::B:=by
 subst h;rw[List.set_append_right _ _ (JU _),Nat.sub_self,List.set_cons_zero]
theorem Ib {E:List Ex}{f:Ex->Ex}{i:Nat}(hi:i<E.length)(y:Ex)(hy:y=f E[i]):((E.take i).map f++E.drop i).set i y=(E.take (i+1)).map f++E.drop (i+1):=by
 have h1:((E.take i).map f).length=i:=by simp;omega
 rw[JH hi,JG hi,Kz,EA _ _ _ _ h1,hy]
 simp
theorem H2 (hn:1100000<=n)(r t5:Ru)(S:SmR r)(hE:r.1.length<=900)(K:Ru->Option Ru):∀(k i:Nat),i<=r.1.length->r.1.length - i<k->
  cT.l0 n r t5 K k (i:Int) ((r.1.take i).map (tz (bL [] r.1))++r.1.drop i,r.2) (bL [] (r.1.take i))=K (gA r)
 |0,i,_,hk=>bH hk (JL _)
 |k+1,i,hi,hk=>by
  have hlen:=lT (r.1.take i) [];rw[Li]at hlen;simp only[JB]at hlen
  by_cases h:i<r.1.length
  ·have hs:=sU h []
   have ih:=H2 hn r t5 S hE K k (i+1) (by omega) (by omega);rw[hs]at ih;have hDl:i<((r.1.take i).map (tz (bL [] r.1))++r.1.drop i).length:=by simp;omega
   have hDi:((r.1.take i).map (tz (bL [] r.1))++r.1.drop i)[i]=r.1[i]:=by
    rw[List.getElem_append_right (by simp;omega)]
    simp[Nat.min_eq_left (Nq h)]
   conv=>lhs;unfold cT.l0
   simp only[aE _ h,ab (inl' h)];rw[ab (jq h),iY (by omega)]
   by_cases c1:(r.1[i]).1=1
   ·rw[ao (by simp[c1]),Ev n hn _ _ (by omega),Jp]
    obtain⟨hm,hx⟩:=xY h c1 [];rw[hs]at hm hx;have hnd:(jm (bL [] (r.1.take i)) r.1[i]).Nodup:=qr (qs _ List.nodup_nil) _;have hl2:=ux (bL [] (r.1.take i)) r.1[i];have hj:∀Kn:Ru->Option Ru,cT.j1 n (i:Int) r t5 ((r.1.take i).map (tz (bL [] r.1))++r.1.drop i,r.2) (jm (bL [] (r.1.take i)) r.1[i]) Kn=Kn ((r.1.take (i+1)).map (tz (bL [] r.1))++r.1.drop (i+1),r.2):=by
     intro Kn;unfold cT.j1;have:=Ez n hn r t5 h _ hnd hm (by omega) (λt22=>Kn t22) _ hDl r.2 n 0 (JQ _) (by omega);rw[show((0:Nat):Int)=0 from rfl]at this;rw[this,ab (JQ _),hDi,← hx,Ib h _ (by unfold tz;rw[ab c1])]
    unfold jm at hj ih;rw[ab c1]at ih;simp only[ab c1]at hj
    by_cases c2:pV (bL [] (r.1.take i)) (r.1[i]).2.1=true
    ·rw[ab c2]at ih
     simp only[ab c2]at hj;rw[ao (by simp[c2]),hj];exact ih
    ·rw[ao c2]at ih
     simp only[ao c2]at hj;rw[ab (by simpa using c2),ab (by simp[aT];omega),hj];exact ih
   ·have hc:tz (bL [] r.1) r.1[i]=r.1[i]:=by unfold tz;rw[ao c1]
    have he:(r.1.take (i+1)).map (tz (bL [] r.1))++r.1.drop (i+1)=(r.1.take i).map (tz (bL [] r.1))++r.1.drop i:=by
     rw[JG h,Kz,JM,KI,hc]
     conv=>rhs;rw[JH h]
     simp
    have hna:jm (bL [] (r.1.take i)) r.1[i]=bL [] (r.1.take i):=by unfold jm;rw[ao c1]
    rw[he,hna]at ih;rw[ab (by simp[c1])];exact ih
  ·conv=>lhs;unfold cT.l0
   rw[ao (km h),JT (by omega),JJ (by omega),KA]
   rfl
theorem pa (hn:1100000<=n)(r:Ru)(S:SmR r)(hE:r.1.length<=900):cT.F n r=some (gA r):=by
 unfold cT.F;rw[Bi n hn r S,Jp];have:=H2 n hn r ([],(kY,[])) S hE (λx=>some x) n 0 (JQ _) (by omega);simp only[KF,KI,Kx,JY,show((0:Nat):Int)=0 from rfl]at this;exact this
end
end Go.Abs
