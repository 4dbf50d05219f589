/- Names that are always the same: both sides. Conditions: none. -/
import Derived.Lib.Join
import Derived.Test.YtkelpajcfmghiaaGreatDoorT7
open Bool renaming and_eq_true → Jm,decide_and → Np,false_and → Li,not_eq_true' → LM,or_eq_true → KY,true_and → Kf
open ByteArray renaming empty → Jd,size → Jf
open Go.IntKind renaming i64 → Jh
open Go.Lib renaming join → Kp
open Int renaming eq_ofNat_of_zero_le → L4,toNat → Jg,toNat_natCast → JD
open List renaming all_cons → Kh,all_eq_true → JS,any_cons → NE,any_eq_false → L9,append_assoc → JO,append_nil → Kv,dropLast_concat_getLast → No,drop_eq_getElem_cons → Jv,drop_of_length_le → Jw,drop_succ_cons → Oj,drop_zero → JN,exists_cons_of_ne_nil → Nt,flatMap_cons → Ln,getD → Ji,getD_eq_getElem?_getD → KB,getElem?_replicate → NJ,getElem?_set → O2,getElem_mem → JB,length → Je,length_append → Jk,length_cons → Jj,length_map → JT,length_nil → Jo,length_pos_iff → Lj,length_set → MN,map_append → Kk,map_congr_left → Ml,map_cons → Jy,map_map → Lc,map_nil → Kz,mem_cons → JJ,mem_cons_of_mem → JE,mem_cons_self → JA,mem_flatMap → Ma,mem_iff_getElem → Lp,mem_map → KG,nil_append → Kg,replicate → JZ,sum_cons → JY,sum_nil → MA,take_of_length_le → JI,take_succ_eq_append_getElem → Ju,take_zero → KD
open Nat renaming add_mul → Ku,le_of_lt → N5,le_refl → JG,le_trans → LW,mul_le_mul_right → JW,not_lt_zero → Jx,one_mul → KQ,zero_add → KT,zero_le → JF
open Option renaming bind_some → Jc
set_option linter.unusedVariables false
set_option linter.unusedSimpArgs false
namespace Go.Abs
def dy (f:Nat->Nat):Nat->Nat
 |0=>0
 |n+1=>dy f n+f n
theorem ke {f g:Nat->Nat}:∀{n:Nat},(∀j,j<n->f j=g j)->dy f n=dy g n
 |0,_=>rfl
 |n+1,h=>by simp only[dy];rw[ke (n:=n) λj hj=>h j (by omega),h n (by omega)]
theorem pL (f g:Nat->Nat):∀n,dy (λj=>f j+g j) n=dy f n+dy g n
 |0=>rfl
 |n+1=>by simp only[dy];rw[pL f g n];omega
theorem nV:∀n,dy (λ_=>0) n=0
 |0=>rfl
 |n+1=>by simp only[dy];rw[nV n]
theorem tW (a:Nat)(x:Nat):∀n,a<n->dy (λj=>if j=a then x else 0) n=x
 |0,h=>bJ h (Jx _)
 |n+1,h=>by
  simp only[dy]
  by_cases e:n=a
  ·subst e
   rw[ab rfl,ke (g:=λ_=>0) λj hj=>by rw[ao (by omega)],nV];omega
  ·rw[ao e,tW a x n (by omega)]
   omega
theorem DF {f:Nat->Nat}{n j:Nat}(h:j<n):f j<=dy f n:=by
 induction n with
 |zero=>omega
 |succ n ih=>
  simp only[dy]
  by_cases e:j=n
  ·subst e;omega
  ·have:=ih (by omega);omega
theorem n9 (f:Nat->Nat)(n:Nat):∀(l:List Nat),(∀a∈l,a<n)->dy (λj=>l.count j*f j) n=(l.map f).sum
 |[],_=>by simp only[List.count_nil,Nat.zero_mul];exact nV n
 |a::l,h=>by
  have ih:=n9 f n l λx hx=>h x (JE _ hx)
  have e:dy (λj=>(a::l).count j*f j) n=dy (λj=>l.count j*f j+(if j=a then f a else 0)) n:=ke λj _=>by
   rw[List.count_cons]
   by_cases ha:j=a
   ·subst ha
    simp[Ku]
   ·have:¬a=j:=λe=>ha e.symm
    simp[ha,this]
  rw[e,pL,ih,tW a (f a) n (h a JA),Jy,JY];omega
structure Once (n:Nat) (kids:Nat->List Nat) (args:List Nat) (len own:Nat->Nat):Prop where
 low:∀i,i<n->∀k∈kids i,k<i
 arg:∀a∈args,a<n
 once:∀j,j<n->args.count j+dy (λk=>(kids k).count j) n=1
 len:∀i,i<n->len i=own i+((kids i).map len).sum
section
variable {n:Nat} {kids:Nat->List Nat} {args:List Nat} {len own:Nat->Nat} (h:Once n kids args len own)
def mj (n:Nat)(kids:Nat->List Nat)(args:List Nat)(i j:Nat):Nat:=args.count j+(dy (λk=>(kids k).count j) n - dy (λk=>(kids k).count j) i)
theorem sy (f:Nat->Nat){i n:Nat}(hi:i<=n):dy f i<=dy f n:=by
 induction n with
 |zero=>
  have:i=0:=by omega
  subst this;exact JG _
 |succ n ih=>
  by_cases e:i=n+1
  ·subst e;exact JG _
  ·have:=ih (by omega)
   simp only[dy];omega
include h in
theorem Once.low0 {i j:Nat}(hj:j<n)(hi:i<=j+1):dy (λk=>(kids k).count j) i=0:=by
 induction i with
 |zero=>rfl
 |succ i ih=>
  simp only[dy];rw[ih (by omega)];have:(kids i).count j=0:=List.count_eq_zero.2 λhm=>by
   have:=h.low i (by omega) j hm;omega
  rw[this]
include h in
theorem Once.step {i:Nat}(hi:i<n):dy (λj=>mj n kids args (i+1) j*len j) (i+1)=dy (λj=>mj n kids args i j*len j) i+own i:=by
 have h1:mj n kids args (i+1) i=1:=by
  unfold mj;rw[h.low0 hi (JG _),Nat.sub_zero];exact h.once i hi
 simp only[dy];rw[h1,KQ,h.len i hi,← n9 len i (kids i) (h.low i hi)];have e:dy (λj=>mj n kids args i j*len j) i=dy (λj=>mj n kids args (i+1) j*len j+(kids i).count j*len j) i:=ke λj hj=>by
  rw[← Ku]
  congr 1
  unfold mj;have hm:=sy (λk=>(kids k).count j) (i:=i+1) (n:=n) hi;simp only[dy]at hm⊢;omega
 rw[e,pL];omega
include h in
theorem Once.part:∀i,i<=n->dy (λj=>mj n kids args i j*len j) i=dy own i
 |0,_=>rfl
 |i+1,hi=>by
  rw[h.step (by omega),Once.part i (by omega)]
  rfl
include h in
theorem Once.total:(args.map len).sum=dy own n:=by
 rw[← h.part n (JG _),← n9 len n args h.arg];refine ke λj hj=>?_
 unfold mj;rw[Nat.sub_self,Nat.add_zero]
include h in
theorem Once.each {i:Nat}(hi:i<n):len i<=dy own n:=by
 have h1:mj n kids args (i+1) i=1:=by
  unfold mj;rw[h.low0 hi (JG _),Nat.sub_zero];exact h.once i hi
 have h2:=h.part (i+1) hi;have h3:=DF (f:=λj=>mj n kids args (i+1) j*len j) (n:=i+1) (j:=i) (Nat.lt_succ_self _);rw[h1,KQ]at h3;have h4:=sy own (i:=i+1) (n:=n) hi;omega
end
abbrev By:Type:=List UInt8
abbrev Ex:Type:=Int×ByteArray×List Int
abbrev Ru:Type:=List Ex×Ex×List Ex
abbrev ll:Ex:=(0,Jd,[])
def aP (e:Ex):List Nat:=e.2.2.map Jg
def GF (k:Int):By:=if k=5 then [32,43,32]else if k=6 then [32,45,32]else [32,42,32]
def gQ (k:Int):Bool:=decide (5<=k)&&decide (k<=7)
def ml (k:Int)(t:By):By:=if gQ k=true then [40]++t++[41]else t
def mw (kd:Nat->Int)(tb:Nat->By)(e:Ex):By:=
 if e.1=2 then [95]
 else if e.1=4/\e.2.2≠[]then e.2.1.data.toList++[40]++Kp ((aP e).map tb) [44,32]++[41]
 else if gQ e.1=true then match aP e with
  |[a,b]=>ml (kd a) (tb a)++GF e.1++ml (kd b) (tb b)
  |_=>[]
 else e.2.1.data.toList
def ek (E:List Ex)(i:Nat):Int:=(E.getD i ll).1
def AE (E:List Ex):Nat->Nat->By
 |0,_=>[]
 |f+1,i=>mw (ek E) (AE E f) (E.getD i ll)
def be (E:List Ex)(i:Nat):By:=AE E (i+1) i
theorem nr {kd:Nat->Int}{t1 t2:Nat->By}{e:Ex}(h:∀k∈aP e,t1 k=t2 k):mw kd t1 e=mw kd t2 e:=by
 unfold mw
 split
 ·rfl
 ·split
  ·rw[Ml h]
  ·split
   ·split
    ·rename_i a b hk
     rw[h a (by rw[hk];simp),h b (by rw[hk];simp)]
    ·rfl
   ·rfl
def FA (E:List Ex):Prop:=∀i,i<E.length->∀k∈aP (E.getD i ll),k<i
theorem sA {E:List Ex}(h:FA E):∀(f i:Nat),i<f->i<E.length->AE E f i=be E i
 |0,i,hi,_=>bJ hi (Jx _)
 |f+1,i,hi,hE=>by
  show mw _ _ _=mw _ _ _;refine nr λk hk=>?_
  have:=h i hE k hk;rw[sA h f k (by omega) (by omega),sA h i k this (by omega)]
termination_by f i=>f+i
theorem tX {E:List Ex}(h:FA E){i:Nat}(hi:i<E.length):be E i=mw (ek E) (be E) (E.getD i ll):=by
 show mw _ _ _=mw _ _ _;refine nr λk hk=>?_
 have:=h i hi k hk;exact sA h i k this (by omega)
theorem kf (sep:By):∀(l:List By),(Kp l sep).length=(l.map Je).sum+sep.length*(l.length - 1)
 |[]=>rfl
 |[x]=>by rw[Lib.join_one];simp
 |x::y::r=>by
  have h:=Lib.join_length x (y::r) sep;rw[h,show(x::y::r).length - 1=(y::r).length from rfl];unfold Lib.lens;exact Nat.add_comm _ _
def vg (E:List Ex)(e:Ex):Nat:=
 if e.1=2 then 1
 else if e.1=4/\e.2.2≠[]then e.2.1.data.toList.length+2+2*(e.2.2.length - 1)
 else if gQ e.1=true then 3+((aP e).map λk=>if gQ (ek E k)=true then 2 else 0).sum
 else e.2.1.data.toList.length
theorem xx (E:List Ex)(t:Nat->By):∀l:List Nat,(l.map λk=>(ml (ek E k) (t k)).length).sum=(l.map λk=>if gQ (ek E k)=true then 2 else 0).sum+(l.map λk=>(t k).length).sum
 |[]=>rfl
 |k::l=>by
  have h:=xx E t l;simp only[Jy,JY,h];unfold ml
  split<;>simp<;>omega
structure GG (E:List Ex):Prop where
 low:FA E
 leaf:∀i,i<E.length->(E.getD i ll).1≠4->gQ (E.getD i ll).1=false->(E.getD i ll).2.2=[]
 two:∀i,i<E.length->gQ (E.getD i ll).1=true->(E.getD i ll).2.2.length=2
theorem DG {E:List Ex}(h:GG E){i:Nat}(hi:i<E.length):(be E i).length=vg E (E.getD i ll)+((aP (E.getD i ll)).map λk=>(be E k).length).sum:=by
 rw[tX h.low hi];have h1:=h.leaf i hi;have h2:=h.two i hi;generalize E.getD i ll=e at h1 h2⊢;unfold mw vg
 by_cases c2:e.1=2
 ·rw[ab c2,ab c2]
  have:e.2.2=[]:=h1 (by omega) (by rw[c2];rfl)
  simp[aP,this]
 ·rw[ao c2,ao c2]
  by_cases c4:e.1=4/\e.2.2≠[]
  ·rw[ab c4,ab c4]
   simp only[Jk,Jj,Jo,kf,Lc];have:(aP e).length=e.2.2.length:=JT ..;simp only[JT,this];show _+_+(((aP e).map (λk=>(be E k).length)).sum+_)+_=_;omega
  ·rw[ao c4,ao c4]
   by_cases cs:gQ e.1=true
   ·rw[ab cs,ab cs]
    have hk:(aP e).length=2:=by unfold aP;rw[JT];exact h2 cs
    match hq:aP e,hk with
    |[a,b],_=>
     have:=xx E (be E) [a,b];simp only[Jy,Kz,JY,MA,Jk]at this⊢;have ho:(GF e.1).length=3:=by
      unfold GF
      split
      ·rfl
      ·split<;>rfl
     omega
   ·rw[ao cs,ao cs]
    by_cases hk:e.2.2=[]
    ·simp[aP,hk]
    ·have:e.1≠4:=λe4=>c4 ⟨e4,hk⟩
     exact bJ (h1 this (by simpa using cs)) hk
def er (E:List Ex)(l:Ex):By:=
 if l.1=3 then(match aP l with|[a,b]=>be E a++[32]++l.2.1.data.toList++[32]++be E b|_=>[])
 else(if l.1=2 then [33]else [])++l.2.1.data.toList++[40]++Kp ((aP l).map (be E)) [44,32]++[41]
def jE (r:Ru):By:=er r.1 r.2.1++(if r.2.2=[]then []else [32,58,45,32]++Kp (r.2.2.map (er r.1)) [44,32])++[46]
def dQ (r:Ru):List Ex:=r.2.1::r.2.2
def kB (r:Ru):List Nat:=(dQ r).flatMap aP
structure DH (m:Nat) (l:Ex):Prop where
 kind:1<=l.1/\l.1<=3
 two:l.1=3->l.2.2.length=2
 arg:∀a∈l.2.2,0<=a/\a<(m:Int)
structure FormR (r:Ru):Prop where
 few:r.1.length<=60
 kind:∀e∈r.1,1<=e.1/\e.1<=7
 nn:∀e∈r.1,∀k∈e.2.2,0<=k
 exps:GG r.1
 head:r.2.1.1=1
 lits:∀l∈dQ r,DH r.1.length l
 once:∀j,j<r.1.length->(kB r).count j+dy (λk=>(aP (r.1.getD k ll)).count j) r.1.length=1
theorem FormR.tree {r:Ru}(h:FormR r):Once r.1.length (λk=>aP (r.1.getD k ll)) (kB r) (λi=>(be r.1 i).length) (λi=>vg r.1 (r.1.getD i ll)) where
 low:=h.exps.low
 arg:=by
  intro a ha;obtain⟨l,hl,ha⟩:=Ma.1 ha;obtain⟨k,hk,rfl⟩:=KG.1 ha;have:=(h.lits l hl).arg k hk;omega
 once:=h.once
 len:=λi hi=>DG h.exps hi
theorem HH {E:List Ex}{l:Ex}(h:DH E.length l):1+((aP l).map λa=>(be E a).length).sum<=(er E l).length:=by
 unfold er
 by_cases c:l.1=3
 ·rw[ab c]
  have hk:(aP l).length=2:=by unfold aP;rw[JT];exact h.two c
  match hq:aP l,hk with
  |[a,b],_=>
   simp only[Jy,Kz,JY,MA,Jk,Jj,Jo];omega
 ·rw[ao c]
  simp only[Jk,Jj,Jo,kf,Lc];show _<=_+_+_+(((aP l).map (λa=>(be E a).length)).sum+_)+_;omega
theorem AF {E:List Ex}:∀{ls:List Ex},(∀l∈ls,DH E.length l)->ls.length+((ls.flatMap aP).map λa=>(be E a).length).sum<=((ls.map (er E)).map Je).sum
 |[],_=>JF _
 |l::ls,h=>by
  have h1:=HH (h l JA);have h2:=AF (ls:=ls) λx hx=>h x (JE _ hx)
  simp only[Ln,Kk,List.sum_append,Jy,JY,Jj];omega
theorem AG {r:Ru}(h:FormR r):r.2.2.length+((kB r).map λa=>(be r.1 a).length).sum<=(jE r).length:=by
 have h1:=AF h.lits;unfold dQ at h1;unfold kB dQ jE;simp only[Jy,JY,Jj]at h1;simp only[Jk,Jj,Jo]
 by_cases hb:r.2.2=[]
 ·rw[ab hb]
  rw[hb]at h1⊢;simp only[Kz,MA,Jo]at h1⊢;omega
 ·rw[ao hb]
  simp only[Jk,kf];omega
theorem DI {r:Ru}(h:FormR r){i:Nat}(hi:i<r.1.length):(be r.1 i).length<=(jE r).length:=by
 have h1:=h.tree.each hi;have h2:=h.tree.total;have h3:=AG h;omega
def bump (u:List Int)(k:Nat):List Int:=u.set k (u.getD k 0+1)
def bumps (u:List Int)(ks:List Nat):List Int:=ks.foldl bump u
theorem sB (u:List Int)(k:Nat):(bump u k).length=u.length:=MN ..
theorem jO:∀(ks:List Nat) (u:List Int),(bumps u ks).length=u.length
 |[],_=>rfl
 |k::ks,u=>(jO ks (bump u k)).trans (sB u k)
theorem kC (u:List Int)(a b:List Nat):bumps u (a++b)=bumps (bumps u a) b:=List.foldl_append
theorem xy {u:List Int}{k:Nat}(hk:k<u.length)(j:Nat):(bump u k).getD j 0=u.getD j 0+(if j=k then 1 else 0):=by
 unfold bump;simp only[KB,O2]
 by_cases e:k=j
 ·subst e
  simp[hk]
 ·have:¬j=k:=λh=>e h.symm
  simp[e,this]
theorem pM:∀(ks:List Nat) (u:List Int),(∀k∈ks,k<u.length)->∀j,(bumps u ks).getD j 0=u.getD j 0+(ks.count j:Int)
 |[],u,_,j=>by simp[bumps]
 |k::ks,u,h,j=>by
  have hk:=h k JA;have ih:=pM ks (bump u k) (λx hx=>by rw[sB];exact h x (JE _ hx)) j;show(bumps (bump u k) ks).getD j 0=_;rw[ih,xy hk,List.count_cons]
  by_cases e:j=k
  ·subst e
   simp
   omega
  ·have:¬k=j:=λh=>e h.symm
   simp[e,this]
def BP (e:Ex):Bool:=decide (1<=e.1)&&decide (e.1<=7)&&(if gQ e.1=true then decide (e.2.2.length=2)else decide (e.1=4)||e.2.2.isEmpty)
def IQ (i:Nat)(e:Ex):Bool:=e.2.2.all λk=>decide (0<=k)&&decide (k<(i:Int))
def xT (m:Nat)(l:Ex):Bool:=l.2.2.all λa=>decide (0<=a)&&decide (a<(m:Int))
def vh (l:Ex):Bool:=decide (1<=l.1)&&decide (l.1<=3)&&(!decide (l.1=3)||decide (l.2.2.length=2))
def nE (r:Ru):List Int:=bumps (bumps (JZ r.1.length 0) (r.1.flatMap aP)) (kB r)
structure FormB (r:Ru):Prop where
 few:r.1.length<=60
 exps:∀i (h:i<r.1.length),IQ i r.1[i]=true/\BP r.1[i]=true
 head:r.2.1.1=1
 lits:∀l∈dQ r,vh l=true/\xT r.1.length l=true
 once:∀x∈nE r,x=1
theorem zt (E:List Ex)(j:Nat):(E.flatMap aP).count j=dy (λk=>(aP (E.getD k ll)).count j) E.length:=by
 have key:∀(pre post:List Ex),((pre++post).take pre.length |>.flatMap aP).count j=dy (λk=>(aP ((pre++post).getD k ll)).count j) pre.length:=by
  intro pre
  induction hn:pre.length generalizing pre with
  |zero=>intro post;rfl
  |succ n ih=>
   intro post;obtain⟨a,x,rfl⟩:∃a x,pre=a++[x]:=⟨pre.dropLast,pre.getLast (by intro e;rw[e]at hn;cases hn),(No _).symm⟩
   have ha:a.length=n:=by simpa using hn
   have:=ih a ha ([x]++post);rw[JO];simp only[dy];rw[← this,Ju (by simp[ha]),List.flatMap_append,List.count_append]
   congr 1
   have hg:(a++([x]++post)).getD n ll=x:=by simp[ha]
   rw[hg]
   simp[ha]
 have:=key E [];simpa using this
theorem FormB.low {r:Ru}(h:FormB r):FA r.1:=by
 intro i hi k hk;have e:r.1.getD i ll=r.1[i]:=by simp[hi]
 rw[e]at hk;obtain⟨a,ha,rfl⟩:=KG.1 hk;have:=JS.1 (h.exps i hi).1 a ha;simp only[Jm,db]at this;omega
theorem zu {e:Ex}(h:BP e=true):1<=e.1/\e.1<=7/\(gQ e.1=true->e.2.2.length=2)/\(e.1≠4->gQ e.1=false->e.2.2=[]):=by
 unfold BP at h;simp only[Jm,db]at h;refine⟨h.1.1,h.1.2,λhs=>?_,λh4 hs=>?_⟩
 ·have h2:=h.2
  rw[ab hs]at h2;exact of_decide_eq_true h2
 ·have h2:=h.2
  rw[ao (by simp[hs])]at h2;simpa[h4]using h2
theorem FormB.args {r:Ru}(h:FormB r):∀a∈kB r,a<r.1.length:=by
 intro a ha;obtain⟨l,hl,ha⟩:=Ma.1 ha;obtain⟨k,hk,rfl⟩:=KG.1 ha;have:=JS.1 (h.lits l hl).2 k hk;simp only[Jm,db]at this;omega
theorem FormB.form {r:Ru}(h:FormB r):FormR r:=by
 have hget:∀i (hi:i<r.1.length),r.1.getD i ll=r.1[i]:=λi hi=>by simp[hi]
 refine⟨h.few,λe he=>?_,λe he k hk=>?_,⟨h.low,λi hi=>?_,λi hi=>?_⟩,h.head,λl hl=>?_,λj hj=>?_⟩
 ·obtain⟨i,hi,rfl⟩:=Lp.1 he
  have:=zu (h.exps i hi).2;exact⟨this.1,this.2.1⟩
 ·obtain⟨i,hi,rfl⟩:=Lp.1 he
  have:=JS.1 (h.exps i hi).1 k hk;simp only[Jm,db]at this;exact this.1
 ·rw[hget i hi]
  exact(zu (h.exps i hi).2).2.2.2
 ·rw[hget i hi]
  exact(zu (h.exps i hi).2).2.2.1
 ·obtain⟨h1,h2⟩:=h.lits l hl
  unfold vh at h1;simp only[Jm,db,KY,LM,vk]at h1;refine⟨h1.1,λe=>h1.2.resolve_left (λh=>h e),λa ha=>?_⟩;have:=JS.1 h2 a ha;simpa only[Jm,db]using this
 ·have hk:∀k∈r.1.flatMap aP,k<(JZ r.1.length (0:Int)).length:=by
   intro k hk;obtain⟨e,he,hk⟩:=Ma.1 hk;obtain⟨i,hi,rfl⟩:=Lp.1 he;have:=h.low i hi k (by rw[hget i hi];exact hk)
   simp
   omega
  have hlen:(bumps (JZ r.1.length (0:Int)) (r.1.flatMap aP)).length=r.1.length:=by rw[jO];simp
  have e1:=pM (kB r) (bumps (JZ r.1.length 0) (r.1.flatMap aP)) (λk hk=>by rw[hlen];exact h.args k hk) j;rw[pM _ _ hk j]at e1;have hj':j<(nE r).length:=by unfold nE;rw[jO,hlen];exact hj
  have h1:=h.once _ (JB hj');have e2:(nE r).getD j 0=(nE r)[j]:=by simp[hj']
  have e0:(JZ r.1.length (0:Int)).getD j 0=0:=by simp[hj]
  show(kB r).count j+dy (λk=>(aP (r.1.getD k ll)).count j) r.1.length=1;rw[← zt];have e3:(nE r).getD j 0=_:=e1;rw[e2,h1,e0]at e3;omega
def bx (e:Ex):Nat:=3+e.2.1.size+e.2.2.length
def DJ (r:Ru):Nat:=(r.1.map bx).sum+bx r.2.1+(r.2.2.map bx).sum
theorem jx (s:ByteArray):s.data.toList.length=s.size:=rfl
theorem AH (E:List Ex):∀l:List Nat,(l.map λk=>if gQ (ek E k)=true then 2 else 0).sum<=2*l.length
 |[]=>JF _
 |k::l=>by
  have:=AH E l;simp only[Jy,JY,Jj]
  split<;>omega
theorem HI (E:List Ex)(e:Ex):vg E e<=3*bx e:=by
 unfold vg bx
 split
 ·omega
 ·split
  ·rw[jx];omega
  ·split
   ·have:=AH E (aP e)
    have hk:(aP e).length=e.2.2.length:=JT ..;omega
   ·rw[jx];omega
theorem BQ (f:Ex->Nat)(E:List Ex):dy (λi=>f (E.getD i ll)) E.length=(E.map f).sum:=by
 have key:∀(pre post:List Ex),dy (λi=>f ((pre++post).getD i ll)) pre.length=(pre.map f).sum:=by
  intro pre
  induction hn:pre.length generalizing pre with
  |zero=>intro post;rw[List.length_eq_zero_iff.1 hn];rfl
  |succ n ih=>
   intro post;obtain⟨a,x,rfl⟩:∃a x,pre=a++[x]:=⟨pre.dropLast,pre.getLast (by intro e;rw[e]at hn;cases hn),(No _).symm⟩
   have ha:a.length=n:=by simpa using hn
   have:=ih a ha ([x]++post);rw[JO];simp only[dy];have hg:(a++([x]++post)).getD n ll=x:=by simp[ha]
   rw[this,hg]
   simp
 have:=key E [];simpa using this
theorem AI (E:List Ex):∀l:List Ex,(l.map (vg E)).sum<=3*(l.map bx).sum
 |[]=>JG _
 |e::l=>by
  have h1:=HI E e;have h2:=AI E l;simp only[Jy,JY];omega
theorem HJ (E:List Ex)(l:Ex):(er E l).length<=3*bx l+((aP l).map λa=>(be E a).length).sum:=by
 unfold er
 split
 ·split
  ·rename_i a b hk
   simp only[Jy,Kz,JY,MA,Jk,Jj,Jo,hk,jx,bx];omega
  ·exact JF _
 ·have hk:(aP l).length=l.2.2.length:=JT ..
  simp only[Jk,Jj,Jo,kf,Lc,jx,bx];show _+_+_+(((aP l).map (λa=>(be E a).length)).sum+_)+_<=_;have h1:(if l.1=2 then [33]else([]:By)).length<=1:=by split<;>simp
  rw[JT,hk];omega
theorem AJ (E:List Ex):∀ls:List Ex,((ls.map (er E)).map Je).sum<=3*(ls.map bx).sum+((ls.flatMap aP).map λa=>(be E a).length).sum
 |[]=>JF _
 |l::ls=>by
  have h1:=HJ E l;have h2:=AJ E ls;simp only[Ln,Kk,List.sum_append,Jy,JY];omega
theorem AK:∀l:List Ex,3*l.length<=(l.map bx).sum
 |[]=>JF _
 |e::l=>by
  have:=AK l;simp only[Jy,JY,Jj,bx]at this⊢;omega
theorem FB {r:Ru}(h:FormR r):(jE r).length<=7*DJ r+10:=by
 have h1:=AJ r.1 (dQ r);have h2:=h.tree.total;have h3:dy (λi=>vg r.1 (r.1.getD i ll)) r.1.length=(r.1.map (vg r.1)).sum:=BQ (vg r.1) r.1;have h4:=AI r.1 r.1;have h5:=AK r.2.2;unfold kB dQ at h2;unfold dQ at h1;unfold jE DJ;simp only[Jy,JY]at h1;simp only[Jk,Jj,Jo]
 by_cases hb:r.2.2=[]
 ·rw[ab hb]
  rw[hb]at h1 h2⊢;simp only[Kz,MA,Jo]at h1 h2⊢;omega
 ·rw[ao hb]
  simp only[Jk,kf,Jj,Jo,JT];omega
def sC (l:List ByteArray)(s:ByteArray):Bool:=l.any λx=>decide (x=s)
theorem lM {l:List ByteArray}{s:ByteArray}:sC l s=true↔s∈l:=by
 unfold sC;rw[List.any_eq_true];exact⟨λ⟨x,h1,h2⟩=>of_decide_eq_true h2▸h1,λh=>⟨s,h,iN rfl⟩⟩
def FC (l:List ByteArray)(s:ByteArray):Nat:=l.findIdx λx=>decide (x=s)
section
variable {α:Type}
theorem jj {l:List α}{i:Nat}(h:i<l.length):decide ((i:Int)<(l.length:Int))=true:=by simp[h]
theorem kl {l:List α}{i:Nat}(h:¬i<l.length):¬decide ((i:Int)<(l.length:Int))=true:=by simp;omega
theorem inl' {l:List α}{i:Nat}(h:i<l.length):(0:Int)<=(i:Int)/\(i:Int)<(l.length:Int):=by omega
theorem aN {l:List α}{i:Nat}(d:α)(h:i<l.length):Ji l (Jg (i:Int)) d=l[i]:=by simp[h]
end
theorem ja {i:Nat}(h:i<=4294967296):Jh.wrap ((i:Int)+1)=((i+1:Nat):Int):=by rw[aJ _ (by omega) (by omega)];omega
def Cnt (u:List Int)(m:Nat)(C:Int):Prop:=u.length=m/\∀q,0<=u.getD q 0/\u.getD q 0<=C
theorem Cnt.bump {u:List Int}{m:Nat}{C:Int}(h:Cnt u m C){k:Nat}(hk:k<m):Cnt (bump u k) m (C+1):=by
 refine⟨(sB u k).trans h.1,λq=>?_⟩;rw[xy (by rw[h.1];exact hk)];have:=h.2 q
 split<;>omega
theorem Cnt.mono {u:List Int}{m:Nat}{C D:Int}(h:Cnt u m C)(hc:C<=D):Cnt u m D:=⟨h.1,λq=>⟨(h.2 q).1,Int.le_trans (h.2 q).2 hc⟩⟩
def lp (m:Nat)(k:Int):Bool:=decide (0<=k)&&decide (k<(m:Int))
theorem oN {β:Type}(f:Nat->Int->List Int->Option β)(kids:List Int)(m i:Nat)(R:Option β)(K:List Int->Option β)(hi:i<=m)
  (hs:∀k j u (h:j<kids.length),u.length=m->(∀q,0<=u.getD q 0/\u.getD q 0<=4000000000000000000)->f (k+1) (j:Int) u=if lp i kids[j]=true then f k ((j+1:Nat):Int) (bump u kids[j].toNat)else R)
  (he:∀k u,f (k+1) (kids.length:Int) u=K u):∀(k j:Nat) (u:List Int) (C:Int),j<=kids.length->kids.length - j<k->Cnt u m C->C+(kids.length:Int)<=4000000000000000000+j->
  f k (j:Int) u=if(kids.drop j).all (lp i)=true then K (bumps u ((kids.drop j).map Jg))else R
 |0,j,u,C,_,hk,_,_=>bJ hk (Jx _)
 |k+1,j,u,C,hj,hk,hu,hC=>by
  by_cases h:j<kids.length
  ·rw[hs k j u h hu.1 (λq=>⟨(hu.2 q).1,by have:=(hu.2 q).2;omega⟩),Jv h]
   by_cases hin:lp i kids[j]=true
   ·have hlt:kids[j].toNat<m:=by
     unfold lp at hin;simp only[Jm,db]at hin;omega
    rw[ab hin,oN f kids m i R K hi hs he k (j+1) _ (C+1) (by omega) (by omega) (hu.bump hlt) (by omega)];simp only[Kh,hin,Kf,Jy]
    rfl
   ·rw[ao hin,ao (λh'=>by
     rw[Kh,Jm]at h';exact hin h'.1)]
  ·obtain rfl:j=kids.length:=by omega
   rw[he,Jw (JG _)]
   rfl
theorem sD (n:Nat)(a b c:Int):dX.F n a b c=some (decide (b<=a/\a<=c)):=by
 unfold dX.F
 by_cases h1:b<=a<;>by_cases h2:a<=c<;>simp[h1,h2]
theorem vi {i:Nat}{k:Int}:decide ((0:Int)<=k/\k<=(i:Int) - 1)=lp i k:=by
 unfold lp
 by_cases h1:(0:Int)<=k<;>by_cases h2:k<(i:Int)
 ·simp[h1,h2];omega
 ·simp[h1,h2];omega
 ·simp[h1]
 ·simp[h1]
def mg:List Ex->Nat->Bool
 |[],_=>true
 |e::l,i=>IQ i e&&BP e&&mg l (i+1)
def oO (m:Nat):List Ex->Nat->Bool
 |[],_=>true
 |l::ls,i=>(if i=0 then decide (l.1=1)else true)&&vh l&&xT m l&&oO m ls (i+1)
theorem zv (i:Nat)(e:Ex):IQ i e=e.2.2.all (lp i):=rfl
theorem oP {u:List Int}{k:Int}{m i:Nat}(hm:u.length=m)(hi:i<=m)(hk:lp i k=true)(hu:∀q,0<=u.getD q 0/\u.getD q 0<=4000000000000000000):
  ((0:Int)<=k/\k<(u.length:Int))/\List.set u (Jg k) (Jh.wrap (Ji u (Jg k) 0+1))=bump u k.toNat:=by
 unfold lp at hk;simp only[Jm,db]at hk;refine⟨by omega,?_⟩;have:=hu k.toNat;rw[aJ _ (by omega) (by omega)]
 rfl
section
variable (n:Nat) (hn:1100000<=n) (r:Ru) (hE:r.1.length<=1048576) (hkids:∀e∈r.1,e.2.2.length<=1048576)
theorem HK (i:Nat)(t8:List Ex)(t9 t10:Int)(kids:List Int)(hk:kids.length<=1048576)(t16:Ex)(K:List Int->Option Bool)(m:Nat)(hi:i<=m)(him:i<=4294967296){C:Int}{u:List Int}(hu:Cnt u m C)(hC:C<=4000000000000)(hn:1100000<=n):
  bH.l1 n (i:Int) t8 t9 t10 kids (kids.length:Int) r t16 K n 0 u=if kids.all (lp i)=true then K (bumps u (kids.map Jg))else some false:=by
 have:=oN (λk j u=>bH.l1 n (i:Int) t8 t9 t10 kids (kids.length:Int) r t16 K k j u) kids m i (some false) K hi (λk j u h hm hq=>by
   conv=>lhs;unfold bH.l1
   rw[ab (jj h),ab (inl' h),aN _ h,aJ _ (by omega) (by omega),sD,vi,Jc,ja (by omega)]
   by_cases hin:lp i kids[j]=true
   ·obtain⟨h1,h2⟩:=oP hm hi hin hq
    rw[ao (by simp[hin]),ab h1,ab h1,h2,ab hin]
   ·rw[ab (by simpa using hin),ao hin]) (λk u=>by
   conv=>lhs;unfold bH.l1
   rw[ao (by simp)]) n 0 u C (JF _) (by omega) hu (by omega)
 rw[JN]at this;exact this
theorem HL (t38:List Ex)(t39 t40:Int)(kids:List Int)(hk:kids.length<=1048576)(K:List Int->Option Bool)(hE:r.1.length<=1048576){C:Int}{u:List Int}(hu:Cnt u r.1.length C)(hC:C<=4000000000000)(hn:1100000<=n):
  bH.l4 n t38 t39 t40 kids (kids.length:Int) r K n 0 u=if kids.all (lp r.1.length)=true then K (bumps u (kids.map Jg))else some false:=by
 have:=oN (λk j u=>bH.l4 n t38 t39 t40 kids (kids.length:Int) r K k j u) kids r.1.length r.1.length (some false) K (JG _) (λk j u h hm hq=>by
   conv=>lhs;unfold bH.l4
   rw[ab (jj h),ab (inl' h),aN _ h,aJ _ (by omega) (by omega),sD,vi,Jc,ja (by omega)]
   by_cases hin:lp r.1.length kids[j]=true
   ·obtain⟨h1,h2⟩:=oP hm (JG _) hin hq
    rw[ao (by simp[hin]),ab h1,ab h1,h2,ab hin]
   ·rw[ab (by simpa using hin),ao hin]) (λk u=>by
   conv=>lhs;unfold bH.l4
   rw[ao (by simp)]) n 0 u C (JF _) (by omega) hu (by omega)
 rw[JN]at this;exact this
theorem Cnt.bumps {u:List Int}{m:Nat}{C:Int}(h:Cnt u m C):∀(ks:List Nat),(∀k∈ks,k<m)->Cnt (bumps u ks) m (C+(ks.length:Int)):=by
 intro ks
 induction ks generalizing u C with
 |nil=>intro _;exact h.mono (by simp)
 |cons k ks ih=>
  intro hk;have:=ih (h.bump (hk k JA)) λx hx=>hk x (JE _ hx)
  exact this.mono (by simp;omega)
theorem pN {m:Nat}{ks:List Int}(h:ks.all (lp m)=true):∀k∈ks.map Jg,k<m:=by
 intro k hk;obtain⟨a,ha,rfl⟩:=KG.1 hk;have:=JS.1 h a ha;unfold lp at this;simp only[Jm,db]at this;omega
theorem all_lt' {m i:Nat}(hi:i<=m){ks:List Int}(h:ks.all (lp i)=true):∀k∈ks.map Jg,k<m:=λk hk=>Nat.lt_of_lt_of_le (pN h k hk) hi
theorem DK (hn:1100000<=n)(hE:r.1.length<=1048576)(hkids:∀e∈r.1,e.2.2.length<=1048576)(K:List Int->Option Bool):∀(k i:Nat) (u:List Int),i<=r.1.length->r.1.length - i<k->Cnt u r.1.length ((i:Int)*1048576)->
  bH.l0 n r.1 (r.1.length:Int) r K k (i:Int) u=if mg (r.1.drop i) i=true then K (bumps u ((r.1.drop i).flatMap aP))else some false
 |0,i,u,_,hk,_=>bJ hk (Jx _)
 |k+1,i,u,hi,hk,hu=>by
  by_cases h:i<r.1.length
  ·have hke:=hkids _ (JB h)
   conv=>lhs;unfold bH.l0
   rw[ab (jj h),ab (inl' h)];simp only[aN _ h];rw[HK n r i r.1 _ _ _ hke _ _ r.1.length (by omega) (by omega) hu (by omega) hn,Jv h];generalize r.1[i]=e at hke⊢
   by_cases hK:e.2.2.all (lp i)=true
   ·rw[ab hK]
    have hu2:=(hu.bumps _ (all_lt' (N5 h) hK)).mono (D:=((i+1:Nat):Int)*1048576) (by rw[JT];omega);have ih:=DK hn hE hkids K k (i+1) _ (by omega) (by omega) hu2;have hc:mg (e::r.1.drop (i+1)) i=(BP e&&mg (r.1.drop (i+1)) (i+1)):=by simp[mg,zv,hK]
    have hfl:bumps u ((e::r.1.drop (i+1)).flatMap aP)=bumps (bumps u (e.2.2.map Jg)) ((r.1.drop (i+1)).flatMap aP):=by
     rw[Ln,kC];rfl
    rw[hc,hfl,ja (by omega),ih];unfold gU.F;simp only[sD,Jc];unfold BP gQ
    by_cases h1:1<=e.1/\e.1<=7
    ·by_cases h5:5<=e.1
     ·by_cases hl:e.2.2.length=2
      ·simp[h1,h5,hl,show¬e.1<=3 by omega]
      ·have:¬(e.2.2.length:Int)=2:=by omega
       simp[h1,h5,hl,this]
     ·by_cases h4:e.1=4
      ·simp[h4]
      ·have h3:e.1<=3:=by omega
       cases hq:e.2.2 with
       |nil=>simp[h1,h5,h3,h4]
       |cons a l=>simp[h1,h5,h3,h4]
    ·have hd:decide (1<=e.1/\e.1<=7)=false:=by simpa using h1
     have hd2:(decide (1<=e.1)&&decide (e.1<=7))=false:=by
      cases ha:decide (1<=e.1)<;>cases hb:decide (e.1<=7)<;>simp_all
     simp[hd,hd2]
   ·rw[ao hK,ao (by simp[mg,zv,hK])]
  ·obtain rfl:i=r.1.length:=by omega
   conv=>lhs;unfold bH.l0
   rw[ao (by simp),Jw (JG _)]
   rfl
theorem HM (hn:1100000<=n)(hE:r.1.length<=1048576)(t32:List Ex)(t33 t34:Int)(l:Ex)(hl:l.2.2.length<=1048576)(K:List Int->Option Bool){C:Int}{u:List Int}(hu:Cnt u r.1.length C)(hC:C<=4000000000000):
  bH.j3 n t32 t33 t34 r u l K=if xT r.1.length l=true then K (bumps u (aP l))else some false:=by
 unfold bH.j3;rw[HL n r t32 t33 t34 _ hl _ hE hu hC hn]
 rfl
theorem DL (hn:1100000<=n)(hE:r.1.length<=1048576)(ts:List Ex)(hts:ts.length<=1048577)(hargs:∀l∈ts,l.2.2.length<=1048576)(K:List Int->Option Bool):∀(k i:Nat) (u:List Int),i<=ts.length->ts.length - i<k->Cnt u r.1.length (1048576*1048576+(i:Int)*1048576)->
  bH.l2 n ts (ts.length:Int) r K k (i:Int) u=if oO r.1.length (ts.drop i) i=true then K (bumps u ((ts.drop i).flatMap aP))else some false
 |0,i,u,_,hk,_=>bJ hk (Jx _)
 |k+1,i,u,hi,hk,hu=>by
  by_cases h:i<ts.length
  ·have hle:=hargs _ (JB h)
   conv=>lhs;unfold bH.l2
   rw[ab (jj h),ab (inl' h)];simp only[aN _ h];rw[Jv h];generalize ts[i]=l at hle⊢;have hj:=λK'=>HM n r hn hE ts (ts.length:Int) (i:Int) l hle K' hu (by omega)
   simp only[hj,sD,Jc];have hfl:bumps u ((l::ts.drop (i+1)).flatMap aP)=bumps (bumps u (aP l)) ((ts.drop (i+1)).flatMap aP):=by
    rw[Ln,kC]
   have hc:oO r.1.length (l::ts.drop (i+1)) i=((if i=0 then decide (l.1=1)else true)&&(vh l&&(xT r.1.length l&&oO r.1.length (ts.drop (i+1)) (i+1)))):=by
    simp only[oO,Bool.and_assoc]
   rw[hfl,hc,ja (by omega)];have main:(if xT r.1.length l=true then bH.l2 n ts (ts.length:Int) r K k ((i+1:Nat):Int) (bumps u (aP l))else some false)=
     if(xT r.1.length l&&oO r.1.length (ts.drop (i+1)) (i+1))=true then K (bumps (bumps u (aP l)) ((ts.drop (i+1)).flatMap aP))else some false:=by
    by_cases hA:xT r.1.length l=true
    ·have hu2:=(hu.bumps _ (pN (show l.2.2.all (lp r.1.length)=true from hA))).mono (D:=1048576*1048576+((i+1:Nat):Int)*1048576) (by rw[JT];omega)
     have ih:=DL hn hE ts hts hargs K k (i+1) _ (by omega) (by omega) hu2;rw[ab hA,hA,Kf];exact ih
    ·rw[ao hA,ao (by simp[hA])]
   rw[main];generalize(xT r.1.length l&&oO r.1.length (ts.drop (i+1)) (i+1))=b;generalize K (bumps (bumps u (aP l)) ((ts.drop (i+1)).flatMap aP))=y;have hi0:decide ((i:Int)=0)=decide (i=0):=by simp
   have hl2:decide ((l.2.2.length:Int)=2)=decide (l.2.2.length=2):=by
    by_cases hl:l.2.2.length=2
    ·simp[hl]
    ·have:¬(l.2.2.length:Int)=2:=by omega
     simp[hl,this]
   have hk3:vh l=(decide (1<=l.1/\l.1<=3)&&(!decide (l.1=3)||decide (l.2.2.length=2))):=by
    unfold vh;rw[Np]
   rw[hi0,hl2,hk3]
   by_cases c0:i=0
   ·simp only[c0,decide_true,if_true]
    cases decide (l.1=1)<;>cases decide (1<=l.1/\l.1<=3)<;>cases decide (l.1=3)<;>cases decide (l.2.2.length=2)<;>cases b<;>rfl
   ·simp only[c0,decide_false,if_false]
    cases decide (1<=l.1/\l.1<=3)<;>cases decide (l.1=3)<;>cases decide (l.2.2.length=2)<;>cases b<;>rfl
  ·obtain rfl:i=ts.length:=by omega
   conv=>lhs;unfold bH.l2
   rw[ao (by simp),Jw (JG _)]
   rfl
end
theorem xz (n:Nat)(u:List Int)(hu:u.length<=1048576)(hn:1100000<=n):dd.F n u (λa55=>(fy.F n a55.1).bind some)=some (u.any λx=>!decide (x=1)):=by
 have key:∀(k i:Nat),i<=u.length->u.length - i<k->∃z:Int,cK.l0 n u (λa55=>(fy.F n a55.1).bind some) (u.length:Int) (λ_=>some (-1)) k (i:Int)=some z/\decide (z>=0)=(u.drop i).any λx=>!decide (x=1):=by
  intro k
  induction k with
  |zero=>intro i _ h;exact bJ h (Jx _)
  |succ k ih=>
   intro i hi hk
   by_cases h:i<u.length
   ·conv=>enter [1,z,1,1];unfold cK.l0
    simp only[ab (jj h),ab (inl' h),aN _ h,fy.F,Jc];rw[Jv h]
    by_cases e:u[i]=1
    ·obtain⟨z,z1,z2⟩:=ih (i+1) (by omega) (by omega)
     refine⟨z,?_,?_⟩
     ·rw[ao (by simp[e]),ja (by omega)]
      exact z1
     ·rw[z2,NE]
      simp[e]
    ·exact⟨(i:Int),by rw[ab (by simp[e])],by rw[NE];simp[e]⟩
   ·refine⟨-1,?_,?_⟩
    ·conv=>lhs;unfold cK.l0
     rw[ao (kl h)]
    ·rw[Jw (by omega)]
     rfl
 obtain⟨z,z1,z2⟩:=key n 0 (JF _) (by omega);unfold dd.F cK.F;rw[show(0:Int)=((0:Nat):Int)from rfl,z1,Jc];rw[JN]at z2;show some (decide (z>=0))=_;rw[z2]
theorem lN:∀{l:List Ex} {i:Nat},mg l i=true↔∀j (h:j<l.length),IQ (i+j) l[j]=true/\BP l[j]=true
 |[],i=>⟨λ_ j h=>bJ h (Jx _),λ_=>rfl⟩
 |e::l,i=>by
  have ih:=lN (l:=l) (i:=i+1);simp only[mg,Jm];rw[ih]
  constructor
  ·rintro⟨h1,h2⟩ j hj
   cases j with
   |zero=>exact h1
   |succ j=>
    have:=h2 j (by simpa using hj);rw[show i+(j+1)=i+1+j by omega];exact this
  ·intro h
   refine⟨h 0 (by simp),λj hj=>?_⟩;have:=h (j+1) (by simpa using hj);rw[show i+(j+1)=i+1+j by omega]at this;exact this
theorem xA {m:Nat}:∀{l:List Ex} {i:Nat},oO m l (i+1)=true↔∀x∈l,vh x=true/\xT m x=true
 |[],i=>⟨λ_ _ h=>by(cases h),λ_=>rfl⟩
 |e::l,i=>by
  have ih:=xA (m:=m) (l:=l) (i:=i+1);simp only[oO,Nat.add_eq_zero_iff,Nat.one_ne_zero,and_false,if_false,Kf,Jm];rw[ih]
  constructor
  ·rintro⟨h1,h2⟩ x hx
   rcases JJ.1 hx with rfl|hx
   ·exact h1
   ·exact h2 x hx
  ·intro h
   exact⟨h e JA,λx hx=>h x (JE _ hx)⟩
def qh (r:Ru):Bool:=mg r.1 0&&oO r.1.length (dQ r) 0&&decide (r.1.length<=60)&& !((nE r).any λx=>!decide (x=1))
theorem jP {r:Ru}:qh r=true↔FormB r:=by
 unfold qh;simp only[Jm,db,LM,L9,Bool.not_eq_false',Bool.not_eq_true];rw[lN];have hl:oO r.1.length (dQ r) 0=true↔r.2.1.1=1/\∀l∈dQ r,vh l=true/\xT r.1.length l=true:=by
  unfold dQ;simp only[oO,if_true,Jm,db];rw[xA]
  constructor
  ·rintro⟨⟨⟨h1,h2⟩,h3⟩,h4⟩
   refine⟨h1,λx hx=>?_⟩;rcases JJ.1 hx with rfl|hx
   ·exact⟨h2,h3⟩
   ·exact h4 x hx
  ·rintro⟨h1,h2⟩
   exact⟨⟨⟨h1,(h2 _ JA).1⟩,(h2 _ JA).2⟩,λx hx=>h2 x (JE _ hx)⟩
 rw[hl]
 constructor
 ·rintro⟨⟨⟨h1,h2,h3⟩,h4⟩,h5⟩
  exact⟨h4,λi h=>by have:=h1 i h;rwa [KT]at this,h2,h3,λx hx=>by simpa using h5 x hx⟩
 ·intro h
  exact⟨⟨⟨λi hi=>by have:=h.exps i hi;rwa [KT],h.head,h.lits⟩,h.few⟩,λx hx=>by simpa using h.once x hx⟩
structure SmR (r:Ru):Prop where
 exps:r.1.length<=1048576
 body:r.2.2.length<=1048576
 kids:∀e∈r.1,e.2.2.length<=1048576
 args:∀l∈dQ r,l.2.2.length<=1048576
 all:DJ r<=8000000
theorem xB (n:Nat)(hn:1100000<=n)(r:Ru)(S:SmR r):bH.F n r=some (qh r):=by
 have hE:=S.exps;have hB:=S.body;have hlen:(dQ r).length=r.2.2.length+1:=rfl;unfold bH.F;rw[ab (by refine⟨by omega,Int.le_refl _,?_⟩;simp[aU];omega),JD];have h0:Cnt (JZ r.1.length (0:Int)) r.1.length (((0:Nat):Int)*1048576):=⟨by simp,λq=>by
  rw[KB,NJ]
  split<;>simp⟩
 have e0:=λK=>DK n r hn hE S.kids K n 0 _ (JF _) (by omega) h0
 simp only[show((0:Nat):Int)=0 from rfl,JN]at e0;rw[e0];unfold qh
 by_cases c1:mg r.1 0=true
 ·rw[ab c1,c1,Kf]
  have hk:∀k∈r.1.flatMap aP,k<r.1.length:=by
   intro k hk;obtain⟨e,he,hk⟩:=Ma.1 hk;obtain⟨i,hi,rfl⟩:=Lp.1 he;have:=pN (show r.1[i].2.2.all (lp i)=true by have:=(lN.1 c1 i hi).1;rwa [KT]at this) k hk;omega
  have hC:((r.1.flatMap aP).length:Int)<=1048576*1048576:=by
   have:∀l:List Ex,(∀e∈l,e.2.2.length<=1048576)->(l.flatMap aP).length<=l.length*1048576:=by
    intro l
    induction l with
    |nil=>intro _;simp
    |cons e l ih=>
     intro h;have h1:=ih λx hx=>h x (JE _ hx)
     have h2:=h e JA;rw[Ln,Jk,Jj];have:(aP e).length=e.2.2.length:=JT ..;omega
   have h1:=this r.1 S.kids;have:r.1.length*1048576<=1048576*1048576:=JW _ hE;omega
  have hu:=(Cnt.bumps h0 _ hk).mono (D:=1048576*1048576+((0:Nat):Int)*1048576) (by omega);unfold jA.F;rw[ab (by simp[aU];omega),Jc];have e2:=λK=>DL n r hn hE ([r.2.1]++r.2.2) (by simp;omega) S.args K n 0 _ (JF _) (by simp;omega) hu
  simp only[show((0:Nat):Int)=0 from rfl,JN]at e2;rw[e2,show [r.2.1]++r.2.2=dQ r from rfl]
  by_cases c2:oO r.1.length (dQ r) 0=true
  ·rw[ab c2,c2,Kf]
   by_cases c3:r.1.length<=60
   ·rw[ab (by simp;omega),iN c3,Kf]
    have hul:(bumps (bumps (JZ r.1.length 0) (r.1.flatMap aP)) ((dQ r).flatMap aP)).length<=1048576:=by rw[jO,jO];simp;omega
    rw[xz n _ hul hn,Jc]
    rfl
   ·rw[ao (by simp;omega),dp c3]
    rfl
  ·rw[ao c2]
   have:oO r.1.length (dQ r) 0=false:=by simpa using c2
   rw[this]
   rfl
 ·rw[ao c1]
  have:mg r.1 0=false:=by simpa using c1
  rw[this]
  rfl
theorem DM (n:Nat)(k:Int):gU.F n k=some (gQ k):=by
 unfold gU.F;rw[sD,Jc];unfold gQ;rw[Np]
section
variable {r:Ru} (h:FormB r) (S:SmR r)
theorem FormB.total (h:FormB r)(S:SmR r):(jE r).length<=56000010:=by
 have h1:=FB h.form;have h2:=S.all;omega
theorem FormB.tlen (h:FormB r)(S:SmR r){i:Nat}(hi:i<r.1.length):(be r.1 i).length<=56000010:=LW (DI h.form hi) (h.total S)
abbrev Tx (r:Ru)(k:Int):ByteArray:=bt (be r.1 k.toNat)
theorem xC (g:Nat)(s75:Ru->Int->Option ByteArray)(s76:Ru->List Int->Option ByteArray)(s82:Int->Ru->Option ByteArray)(kids:List Int)(hk:kids.length<=1048576)(hself:∀k∈kids,s75 r k=some (Tx r k))(K:List ByteArray->Option ByteArray):∀(k j:Nat),j<=kids.length->kids.length - j<k->
  ar.l0 g s75 s76 s82 kids (kids.length:Int) r K k (j:Int) ((kids.take j).map (Tx r))=K (kids.map (Tx r))
 |0,j,_,hj=>bJ hj (Jx _)
 |k+1,j,hj,hk1=>by
  by_cases h:j<kids.length
  ·conv=>lhs;unfold ar.l0
   rw[ab (jj h),ab (inl' h),aN _ h,hself _ (JB h),Jc,ab (by simp[aU];omega),ja (by omega)];have:=xC g s75 s76 s82 kids hk hself K k (j+1) (by omega) (by omega);rw[Ju h,Kk]at this;exact this
  ·conv=>lhs;unfold ar.l0
   rw[ao (kl h),JI (by omega)]
theorem AL (n:Nat)(l:List By)(hl:l.length<=4294967296)(hj:(Kp l [44,32]).length<=4294967296):cJ.F n (l.map bt) ⟨#[44,32]⟩=some (bt (Kp l [44,32])):=by
 unfold cJ.F;have e:(l.map bt).map (λx=>x.data.toList)=l:=by
  rw[Lc]
  conv=>rhs;rw[← List.map_id l]
  exact Ml λa _=>ez a
 have e2:((⟨#[44,32]⟩:ByteArray).data.toList)=[44,32]:=rfl;rw[e,e2,ab ⟨by rw[JT];exact hl,hj⟩]
 rfl
theorem xD (g:Nat)(s75:Ru->Int->Option ByteArray)(s76:Ru->List Int->Option ByteArray)(s82:Int->Ru->Option ByteArray)(kids:List Int)(hk:kids.length<=1048576)(hg:1048577<=g)(hself:∀k∈kids,s75 r k=some (Tx r k))
  (hj:(Kp ((kids.map Jg).map (be r.1)) [44,32]).length<=4294967296):ar.G g s75 s76 s82 r kids=some (bt (Kp ((kids.map Jg).map (be r.1)) [44,32])):=by
 unfold ar.G;have:=xC g s75 s76 s82 kids hk hself (λout9=>(cJ.F g out9 ⟨#[44,32]⟩).bind λr10=>some r10) g 0 (JF _) (by omega);rw[show((0:Nat):Int)=0 from rfl]at this;rw[KD]at this;refine this.trans ?_;have e:kids.map (Tx r)=((kids.map Jg).map (be r.1)).map bt:=by simp[Lc,Function.comp_def]
 rw[e,AL g _ (by simp;omega) hj,Jc]
theorem AN (g:Nat)(s75:Ru->Int->Option ByteArray)(s76:Ru->List Int->Option ByteArray)(s82:Int->Ru->Option ByteArray){k:Nat}(hk:k<r.1.length)(hself:s75 r (k:Int)=some (bt (be r.1 k)))(ht:(be r.1 k).length<=56000010):
  aL.G g s75 s76 s82 (k:Int) r=some (bt (ml (ek r.1 k) (be r.1 k))):=by
 unfold aL.G;have e0:Ji r.1 (Jg (k:Int)) (0,(Jd,[]))=r.1.getD k ll:=by rw[JD]
 rw[ab (inl' hk),e0,DM,Jc,hself];unfold ml ek
 by_cases c:gQ (r.1.getD k ll).1=true
 ·rw[ab c,ab c,Jc]
  rw[show(⟨#[40]⟩:ByteArray)=bt [40]from rfl,show(⟨#[41]⟩:ByteArray)=bt [41]from rfl];simp only[ap,ah,Jk,Jj,Jo];rw[ab (by simp only[aU];omega),ab (by simp only[aU];omega)]
 ·rw[ao c,ao c,Jc]
theorem HN (g:Nat)(s75:Ru->Int->Option ByteArray)(s76:Ru->List Int->Option ByteArray)(s82:Int->Ru->Option ByteArray)(e:Ex)(hs:gQ e.1=true){a b:Int}(hab:e.2.2=[a,b]){A B:By}(hA:s82 a r=some (bt A))(hB:s82 b r=some (bt B))
  (hl:A.length+B.length<=60000000) (Kn:Unit->Option ByteArray):ax.j0 g s75 s76 s82 true r e Kn=some (bt (A++GF e.1++B)):=by
 have hop:∃c:UInt8,((0:Int)<=Jh.wrap (e.1 - 5)/\Jh.wrap (e.1 - 5)<(Je ([⟨#[43]⟩,⟨#[45]⟩,⟨#[42]⟩]:List ByteArray):Int))/\Ji ([⟨#[43]⟩,⟨#[45]⟩,⟨#[42]⟩]:List ByteArray) (Jg (Jh.wrap (e.1 - 5))) Jd=bt [c]/\GF e.1=[32,c,32]:=by
  unfold gQ at hs;simp only[Jm,db]at hs;have:e.1=5\/e.1=6\/e.1=7:=by omega
  rcases this with h|h|h<;>rw[h]
  ·exact⟨43,by decide,rfl,rfl⟩
  ·exact⟨45,by decide,rfl,rfl⟩
  ·exact⟨42,by decide,rfl,rfl⟩
 obtain⟨c,h1,h2,h3⟩:=hop;unfold ax.j0;rw[hab,show(⟨#[32]⟩:ByteArray)=bt [32]from rfl,ab rfl,ab (by simp),show Ji [a,b] 0 0=a from rfl,hA,Jc,ab (by simp only[ah,Jj,Jo,aU];omega),ab h1,h2,
  ab (by simp only[ap,ah,Jk,Jj,Jo,aU];omega),ab (by simp only[ap,ah,Jk,Jj,Jo,aU];omega),ab (by simp),
  show Ji [a,b] 1 0=b from rfl,hB,Jc,ab (by simp only[ap,ah,Jk,Jj,Jo,aU];omega),h3]
 simp only[ap]
 congr 2
 simp
theorem IE (h:FormB r)(S:SmR r):∀(i f:Nat),i<r.1.length->1048600+3*i<=f->(eM f).1 r (i:Int)=some (bt (be r.1 i)):=by
 intro i
 induction i using Nat.strongRecOn with
 |ind i ih=>
  intro f hi hf;obtain⟨g,rfl⟩:∃g,f=g+2:=⟨f - 2,by omega⟩
  show ax.G (g+1) (eM (g+1)).1 (eM (g+1)).2.1 (eM (g+1)).2.2 r (i:Int)=_;have hlow:=h.low i hi;have hT:=h.tlen S hi;have hF:=h.form.exps;rw[tX h.low hi]at hT⊢;have e0:Ji r.1 (Jg (i:Int)) (0,(Jd,[]))=r.1.getD i ll:=by rw[JD]
  have hmem:r.1.getD i ll∈r.1:=by
   have:r.1.getD i ll=r.1[i]:=by simp[hi]
   rw[this];exact JB hi
  have hkn:=h.form.nn _ hmem;have hkl:=S.kids _ hmem;have htwo:=hF.two i hi;unfold ax.G;rw[ab (inl' hi),e0];generalize r.1.getD i ll=e at*;have hkid:∀k∈e.2.2,∃q:Nat,k=(q:Int)/\q<i/\q<r.1.length/\q∈aP e:=λk hk=>by
   obtain⟨q,rfl⟩:=L4 (hkn k hk);have hq:q∈aP e:=KG.2 ⟨_,hk,JD q⟩;have:=hlow q hq;exact⟨q,rfl,this,by omega,hq⟩
  by_cases c2:e.1=2
  ·rw[ab (by simp[c2])]
   unfold mw;rw[ab c2]
   rfl
  rw[ao (by simpa using c2)]
  by_cases c4:e.1=4
  ·rw[ab (by simp[c4])]
   have hs4:¬gQ e.1=true:=by rw[c4];decide
   by_cases hk:e.2.2=[]
   ·rw[ao (by simp[hk])]
    unfold mw;rw[ao c2,ao (λhh=>hh.2 hk),ao hs4,← jv]
   ·have hpos:0<e.2.2.length:=Lj.2 hk
    have hT':=hT;unfold mw at hT'⊢;rw[ao c2,ab (show e.1=4/\e.2.2≠[]from⟨c4,hk⟩)]at hT'⊢;simp only[Jk,Jj,Jo]at hT';have hte:=xD g (eM g).1 (eM g).2.1 (eM g).2.2 e.2.2 hkl (by omega) (λk hk'=>by
     obtain⟨q,rfl,h1,h2,_⟩:=hkid k hk';rw[ih q h1 g h2 (by omega)]
     rfl) (by
     show(Kp ((aP e).map (be r.1)) [44,32]).length<=_
     omega)
    have hte2:(eM (g+1)).2.1 r e.2.2=some (bt (Kp ((aP e).map (be r.1)) [44,32])):=hte;rw[ab (by simp;omega),hte2];have e1:e.2.1=bt e.2.1.data.toList:=jv _;rw[e1,show(⟨#[40]⟩:ByteArray)=bt [40]from rfl,show(⟨#[41]⟩:ByteArray)=bt [41]from rfl];simp only[ez,ap,ah,Jk,Jj,Jo,Jc];rw[ab (by simp only[aU];omega),ab (by simp only[aU];omega),ab (by simp only[aU];omega)]
  rw[ao (by simpa using c4)]
  by_cases hs:gQ e.1=true
  ·have hlen:=htwo hs
   match hab:e.2.2,hlen with
   |[a,b],_=>
    obtain⟨p,rfl,p1,p2,p3⟩:=hkid a (by rw[hab];simp);obtain⟨q,rfl,q1,q2,q3⟩:=hkid b (by rw[hab];simp);have hA:=AN g (eM g).1 (eM g).2.1 (eM g).2.2 p2 (ih p p1 g p2 (by omega)) (h.tlen S p2);have hB:=AN g (eM g).1 (eM g).2.1 (eM g).2.2 q2 (ih q q1 g q2 (by omega)) (h.tlen S q2);have hN:aP e=[p,q]:=by unfold aP;rw[hab];simp
    have hx:mw (ek r.1) (be r.1) e=ml (ek r.1 p) (be r.1 p)++GF e.1++ml (ek r.1 q) (be r.1 q):=by
     unfold mw;rw[ao c2,ao (λhh=>c4 hh.1),ab hs,hN]
    rw[hx]at hT⊢;simp only[Jk]at hT;have key:=λKn=>HN (r:=r) (g+1) (eM (g+1)).1 (eM (g+1)).2.1 (eM (g+1)).2.2 e hs hab (show(eM (g+1)).2.2 (p:Int) r=_ from hA) (show(eM (g+1)).2.2 (q:Int) r=_ from hB) (by omega) Kn
    by_cases c5:e.1=5
    ·rw[ab (by simp[c5]),show decide (e.1=5)=true by simp[c5],key]
    ·rw[ao (by simpa using c5)]
     by_cases c6:e.1=6
     ·rw[ab (by simp[c6]),show decide (e.1=6)=true by simp[c6],key]
     ·rw[ao (by simpa using c6)]
      have c7:e.1=7:=by
       unfold gQ at hs;simp only[Jm,db]at hs;omega
      rw[show decide (e.1=7)=true by simp[c7],key]
  ·have hns:¬(5<=e.1/\e.1<=7):=by
    unfold gQ at hs;simpa using hs
   have hx:mw (ek r.1) (be r.1) e=e.2.1.data.toList:=by
    unfold mw;rw[ao c2,ao (λhh=>c4 hh.1),ao hs]
   rw[hx,ao (by simp;omega),ao (by simp;omega),show decide (e.1=7)=false by simp;omega];unfold ax.j0;rw[ao (by simp),← jv]
theorem sE (h:FormB r)(S:SmR r){n:Nat}(hn:1100000<=n){i:Nat}(hi:i<r.1.length):ax.F n r (i:Int)=some (bt (be r.1 i)):=
 IE h S i n hi (by have:=h.few;omega)
theorem xE (h:FormB r)(S:SmR r){n:Nat}(hn:1100000<=n)(kids:List Int)(hk:kids.length<=1048576)(hin:kids.all (lp r.1.length)=true)
  (hj:(Kp ((kids.map Jg).map (be r.1)) [44,32]).length<=4294967296):ar.F n r kids=some (bt (Kp ((kids.map Jg).map (be r.1)) [44,32])):=by
 obtain⟨g,rfl⟩:∃g,n=g+1:=⟨n - 1,by omega⟩
 show ar.G g (eM g).1 (eM g).2.1 (eM g).2.2 r kids=_;refine xD g _ _ _ kids hk (by omega) (λk hk'=>?_) hj;have:=JS.1 hin k hk';unfold lp at this;simp only[Jm,db]at this;obtain⟨q,rfl⟩:=L4 this.1;have hq:q<r.1.length:=by omega
 rw[IE h S q g hq (by have:=h.few;omega)]
 rfl
end
theorem qJ {α:Type}(f:α->Nat):∀{l:List α} {x:α},x∈l->f x<=(l.map f).sum
 |y::l,x,h=>by
  simp only[Jy,JY];rcases JJ.1 h with rfl|h
  ·omega
  ·have:=qJ f h
   omega
theorem DN {r:Ru}{l:Ex}(hl:l∈dQ r):(er r.1 l).length<=(jE r).length:=by
 unfold jE;simp only[Jk];rcases JJ.1 hl with rfl|hl
 ·omega
 ·have hne:r.2.2≠[]:=λe=>by rw[e]at hl;cases hl
  rw[ao hne];simp only[Jk,kf,Lc];have:=qJ (Je∘er r.1) hl;have e:(Je∘er r.1) l=(er r.1 l).length:=rfl;omega
section
variable {r:Ru}
theorem sG (h:FormB r)(S:SmR r){n:Nat}(hn:1100000<=n){l:Ex}(hl:l∈dQ r):eQ.F n r l=some (bt (er r.1 l)):=by
 have hlen:=LW (DN hl) (h.total S);obtain⟨hok,hA⟩:=h.lits l hl;have hF:=h.form.lits l hl;have hargs:=S.args l hl;have e1:l.2.1=bt l.2.1.data.toList:=jv _;unfold eQ.F;unfold er at hlen⊢
 by_cases c3:l.1=3
 ·rw[ab c3]at hlen⊢
  rw[ab (by simp[c3])]
  match hab:l.2.2,hF.two c3 with
  |[a,b],_=>
   have ha:=hF.arg a (by rw[hab];simp);have hb:=hF.arg b (by rw[hab];simp);obtain⟨p,rfl⟩:=L4 ha.1;obtain⟨q,rfl⟩:=L4 hb.1;have hN:aP l=[p,q]:=by unfold aP;rw[hab];simp
   rw[hN]at hlen⊢;simp only[Jk,Jj,Jo]at hlen;rw[ab (by simp),show Ji [(p:Int),(q:Int)] 0 0=(p:Int)from rfl,sE h S hn (by omega),Jc,e1,show(⟨#[32]⟩:ByteArray)=bt [32]from rfl,
    ab (by simp only[ah,Jj,Jo,aU];omega),ab (by simp only[ap,ah,Jk,Jj,Jo,aU];omega),
    ab (by simp only[ap,ah,Jk,Jj,Jo,aU];omega),ab (by simp),show Ji [(p:Int),(q:Int)] 1 0=(q:Int)from rfl,sE h S hn (by omega),Jc,
    ab (by simp only[ap,ah,Jk,Jj,Jo,aU];omega)]
   simp only[ap,ez]
 ·rw[ao c3]at hlen⊢
  rw[ao (by simpa using c3)];simp only[Jk,Jj,Jo]at hlen;have ht:=xE h S hn l.2.2 hargs hA (by
   show(Kp ((aP l).map (be r.1)) [44,32]).length<=_
   omega)
  have ht:ar.F n r l.2.2=some (bt (Kp ((aP l).map (be r.1)) [44,32])):=ht
  by_cases c2:l.1=2
  ·rw[ab c2]at hlen⊢
   simp only[Jj,Jo]at hlen;rw[ab (by simp[c2]),ht,e1,show(⟨#[33]⟩:ByteArray)=bt [33]from rfl,show(⟨#[40]⟩:ByteArray)=bt [40]from rfl,show(⟨#[41]⟩:ByteArray)=bt [41]from rfl,
    ab (by simp only[ap,ah,Jk,Jj,Jo,aU];omega),ab (by simp only[ap,ah,Jk,Jj,Jo,aU];omega),Jc,
    ab (by simp only[ap,ah,Jk,Jj,Jo,aU];omega),ab (by simp only[ap,ah,Jk,Jj,Jo,aU];omega)]
   simp only[ap,ez]
  ·rw[ao c2]at hlen⊢
   simp only[Jo,KT]at hlen;rw[ao (by simpa using c2),ht,e1,show(⟨#[40]⟩:ByteArray)=bt [40]from rfl,show(⟨#[41]⟩:ByteArray)=bt [41]from rfl,
    ab (by simp only[ap,ah,Jk,Jj,Jo,aU];omega),Jc,
    ab (by simp only[ap,ah,Jk,Jj,Jo,aU];omega),ab (by simp only[ap,ah,Jk,Jj,Jo,aU];omega)]
   simp only[ap,ez,Kg]
theorem qi (h:FormB r)(S:SmR r){n:Nat}(hn:1100000<=n)(out4:ByteArray)(K:List ByteArray->Option ByteArray):∀(k j:Nat),j<=r.2.2.length->r.2.2.length - j<k->
  fa.l0 n out4 r.2.2 (r.2.2.length:Int) r K k (j:Int) (((r.2.2.take j).map (er r.1)).map bt)=K ((r.2.2.map (er r.1)).map bt)
 |0,j,_,hj=>bJ hj (Jx _)
 |k+1,j,hj,hk1=>by
  have hB:=S.body
  by_cases hlt:j<r.2.2.length
  ·conv=>lhs;unfold fa.l0
   rw[ab (jj hlt),ab (inl' hlt),aN _ hlt,sG h S hn (JE _ (JB hlt)),Jc,ab (by simp[aU];omega),ja (by omega)];have:=qi h S hn out4 K k (j+1) (by omega) (by omega);rw[Ju hlt,Kk,Kk]at this;exact this
  ·conv=>lhs;unfold fa.l0
   rw[ao (kl hlt),JI (by omega)]
noncomputable def gh (r:Ru):ByteArray:=if qh r=true/\(jE r).length<=3000 then bt (jE r)else Jd
theorem xF (n:Nat)(hn:1100000<=n)(r:Ru)(S:SmR r):fa.F n r=some (gh r):=by
 have hB:=S.body;unfold fa.F gh;rw[xB n hn r S,Jc]
 by_cases hf:qh r=true
 ·have h:=jP.1 hf
  have hT:=h.total S;have hH:er r.1 r.2.1=er r.1 r.2.1:=rfl;rw[ao (by simp[hf]),sG h S hn JA,Jc];have hl:=λK=>qi h S hn (bt (er r.1 r.2.1)) K n 0 (JF _) (by omega)
  simp only[show((0:Nat):Int)=0 from rfl,KD,Kz]at hl;rw[hl]
  by_cases hb:r.2.2=[]
  ·have hr:jE r=er r.1 r.2.1++[46]:=by unfold jE;rw[ab hb,Kv]
   rw[hr]at hT⊢;simp only[Jk,Jj,Jo]at hT;rw[ao (by simp[hb]),show(⟨#[46]⟩:ByteArray)=bt [46]from rfl,ab (by simp only[ah,Jj,Jo,aU];omega),ap,ah]
   by_cases hs:(er r.1 r.2.1++[46]).length<=3000
   ·rw[ao (by simp at hs⊢;omega),ab ⟨hf,hs⟩]
   ·rw[ab (by simp at hs⊢;omega),ao (λhh=>hs hh.2)]
  ·have hr:jE r=er r.1 r.2.1++([32,58,45,32]++Kp (r.2.2.map (er r.1)) [44,32])++[46]:=by unfold jE;rw[ao hb]
   have hpos:0<r.2.2.length:=Lj.2 hb;rw[hr]at hT⊢;have hT':=hT;simp only[Jk,Jj,Jo]at hT';rw[ab (by simp;omega),AL n _ (by simp;omega) (by omega),Jc,show(⟨#[46]⟩:ByteArray)=bt [46]from rfl,show(⟨#[32,58,45,32]⟩:ByteArray)=bt [32,58,45,32]from rfl,
    ab (by simp only[ap,ah,Jk,Jj,Jo,aU];omega),ab (by simp only[ap,ah,Jk,Jj,Jo,aU];omega),
    ab (by simp only[ap,ah,Jk,Jj,Jo,aU];omega)]
   simp only[ap,ah]
   by_cases hs:(er r.1 r.2.1++([32,58,45,32]++Kp (r.2.2.map (er r.1)) [44,32])++[46]).length<=3000
   ·rw[ao (by rw[db];omega),ab ⟨hf,hs⟩]
   ·rw[ab (by rw[db];omega),ao (λhh=>hs hh.2)]
 ·rw[ab (by simp[hf]),ao (λhh=>hf hh.1)]
end
theorem pO {E:List Ex}{b:Nat}(h:∀i,i<b->∀k∈aP (E.getD i ll),k<i):∀(f i:Nat),i<f->i<b->AE E f i=be E i
 |0,i,hi,_=>bJ hi (Jx _)
 |f+1,i,hi,hb=>by
  show mw _ _ _=mw _ _ _;refine nr λk hk=>?_
  have:=h i hb k hk;rw[pO h f k (by omega) (by omega),pO h i k this (by omega)]
termination_by f i=>f+i
theorem zw {E:List Ex}{i:Nat}(h:∀j,j<=i->∀k∈aP (E.getD j ll),k<j):be E i=mw (ek E) (be E) (E.getD i ll):=by
 show mw _ _ _=mw _ _ _;refine nr λk hk=>?_
 have:=h i (JG _) k hk;exact pO (b:=i+1) (λj hj=>h j (by omega)) i k this (by omega)
def oQ (E:List Ex)(o:List ByteArray)(i:Nat):Prop:=o.length=E.length/\∀j,j<i->o.getD j Jd=bt (be E j)/\(be E j).length<=3000
section
variable (n:Nat) (hn:1100000<=n) (r:Ru)
theorem HO (i:Nat)(o:List ByteArray)(e:Ex)(hk:e.2.2.length<=1048576)(K:List Int->Option (List ByteArray×Bool))(m:Nat)(hi:i<=m)(him:i<=4294967296){C:Int}{u:List Int}(hu:Cnt u m C)(hC:C<=4000000000000)(hn:1100000<=n):
  aw.l1 n (i:Int) r o e K n 0 u=if e.2.2.all (lp i)=true then K (bumps u (aP e))else some (o,false):=by
 have:=oN (λk j u=>aw.l1 n (i:Int) r o e K k j u) e.2.2 m i (some (o,false)) K hi (λk j u h hm hq=>by
   conv=>lhs;unfold aw.l1
   simp only[aN _ h];rw[ab (jj h),ab (inl' h),aJ _ (by omega) (by omega),dz,vi,Jc,ja (by omega)]
   by_cases hin:lp i e.2.2[j]=true
   ·obtain⟨h1,h2⟩:=oP hm hi hin hq
    rw[ao (by simp[hin]),ab (inl' h),ab h1,ab h1,h2,ab hin]
   ·rw[ab (by simpa using hin),ao hin]) (λk u=>by
   conv=>lhs;unfold aw.l1
   rw[ao (by simp)]) n 0 u C (JF _) (by omega) hu (by omega)
 rw[JN]at this;exact this
theorem jy {o:List ByteArray}{i:Nat}(ho:oQ r.1 o i){k:Int}(hk:lp i k=true)(hi:i<=r.1.length):((0:Int)<=k/\k<(o.length:Int))/\Ji o (Jg k) Jd=bt (be r.1 k.toNat)/\(be r.1 k.toNat).length<=3000:=by
 unfold lp at hk;simp only[Jm,db]at hk;have h1:=ho.1;exact⟨by omega,ho.2 k.toNat (by omega)⟩
def jz (sep:By)(l:List By):By:=(l.map (sep++·)).flatten
theorem mh (sep x:By)(l:List By):jz sep (x::l)=sep++x++jz sep l:=by simp[jz]
theorem kG (sep x:By)(l:List By):Kp (x::l) sep=x++jz sep l:=Lib.join_cons x l sep
theorem DO (t22:Int)(u:List Int){o:List ByteArray}{i:Nat}(ho:oQ r.1 o i)(hi:i<=r.1.length)(e:Ex)(hk:e.2.2.length<=1048576)(hin:e.2.2.all (lp i)=true)(K:ByteArray->Option (List ByteArray×Bool)):∀(k j:Nat) (s:By),j<=e.2.2.length->e.2.2.length - j<k->1<=j->
  s.length+(e.2.2.length - j)*3002<=4000000000->aw.l3 n t22 r u o e K k (bt s) (j:Int)=K (bt (s++jz [44,32] (((aP e).drop j).map (be r.1))))
 |0,j,s,_,hj,_,_=>bJ hj (Jx _)
 |k+1,j,s,hj,hk1,h1,hs=>by
  have hkn:(aP e).length=e.2.2.length:=JT ..
  by_cases h:j<e.2.2.length
  ·have hm:=JS.1 hin _ (JB h)
   obtain⟨g1,g2,g3⟩:=jy r ho hm hi;have hkj:(aP e).drop j=e.2.2[j].toNat::(aP e).drop (j+1):=by
    rw[Jv (by omega)]
    simp[aP]
   have hb:s.length+3002<=4000000000:=by
    have:1*3002<=(e.2.2.length - j)*3002:=JW _ (by omega);omega
   conv=>lhs;unfold aw.l3
   simp only[aN _ h];rw[ab (jj h),ao (by simp;omega),show(⟨#[44,32]⟩:ByteArray)=bt [44,32]from rfl,ab (by simp only[ah,Jj,Jo,aU];omega),ab (inl' h),ab g1,g2,
    ab (by simp only[ap,ah,Jk,Jj,Jo,aU];omega),ap,ap,ja (by omega),
    DO t22 u ho hi e hk hin K k (j+1) _ (by omega) (by omega) (by omega) (by
     simp only[Jk,Jj,Jo];have:(e.2.2.length - j)*3002=(e.2.2.length - (j+1))*3002+3002:=by
      rw[show e.2.2.length - j=(e.2.2.length - (j+1))+1 by omega,Ku,KQ]
     omega),hkj,Jy,mh]
   simp only[JO]
  ·conv=>lhs;unfold aw.l3
   rw[ao (kl h),Jw (by omega)]
   simp[jz]
theorem tY {o:List ByteArray}{i:Nat}(ho:oQ r.1 o i)(hi:i<=r.1.length){k:Int}(hk:lp i k=true):iM.F n r o k=some (bt (ml (ek r.1 k.toNat) (be r.1 k.toNat))):=by
 obtain⟨g1,g2,g3⟩:=jy r ho hk hi;have h1:=ho.1;unfold iM.F;rw[ab (by omega),dz,Jc];unfold ml ek gQ;have e0:Ji r.1 (Jg k) (0,(Jd,[]))=r.1.getD k.toNat ll:=rfl;rw[e0,Np,ab g1,g2]
 by_cases c:(decide (5<=(r.1.getD k.toNat ll).1)&&decide ((r.1.getD k.toNat ll).1<=7))=true
 ·rw[ab c,ab c,show(⟨#[40]⟩:ByteArray)=bt [40]from rfl,show(⟨#[41]⟩:ByteArray)=bt [41]from rfl,ab (by simp only[ap,ah,Jk,Jj,Jo,aU];omega),
   ab (by simp only[ap,ah,Jk,Jj,Jo,aU];omega)]
  simp only[ap]
 ·rw[ao c,ao c,ab g1]
theorem xG {k:Int}{t:By}(h:t.length<=3000):(ml k t).length<=3002:=by
 unfold ml
 split
 ·simp;omega
 ·omega
theorem HQ (t30:Int)(u:List Int){o:List ByteArray}{i:Nat}(ho:oQ r.1 o i)(hi:i<=r.1.length)(e:Ex)(hin:e.2.2.all (lp i)=true)(hs:gQ e.1=true)(h2:e.1≠4)(h3:e.1≠2)(Kn:ByteArray->Option (List ByteArray×Bool)):
  aw.j4 n t30 true r u o e Kn=if e.2.2.length=2 then Kn (bt (mw (ek r.1) (be r.1) e))else some (o,false):=by
 unfold aw.j4;rw[ab rfl]
 by_cases hl:e.2.2.length=2
 ·rw[ao (by simp[hl]),ab hl]
  match hab:e.2.2,hl with
  |[a,b],_=>
   have ha:=JS.1 hin a (by rw[hab];simp);have hb:=JS.1 hin b (by rw[hab];simp);have la:=(jy r ho ha hi).2.2;have lb:=(jy r ho hb hi).2.2;have sa:=xG (k:=ek r.1 a.toNat) la;have sb:=xG (k:=ek r.1 b.toNat) lb;have hop:((0:Int)<=Jh.wrap (e.1 - 5)/\Jh.wrap (e.1 - 5)<(Je ([⟨#[32,43,32]⟩,⟨#[32,45,32]⟩,⟨#[32,42,32]⟩]:List ByteArray):Int))/\Ji ([⟨#[32,43,32]⟩,⟨#[32,45,32]⟩,⟨#[32,42,32]⟩]:List ByteArray) (Jg (Jh.wrap (e.1 - 5))) Jd=bt (GF e.1)/\(GF e.1).length=3:=by
    unfold gQ at hs;simp only[Jm,db]at hs;have:e.1=5\/e.1=6\/e.1=7:=by omega
    rcases this with h|h|h<;>rw[h]
    ·exact⟨by decide,rfl,rfl⟩
    ·exact⟨by decide,rfl,rfl⟩
    ·exact⟨by decide,rfl,rfl⟩
   obtain⟨o1,o2,o3⟩:=hop;rw[ab o1,ab (by simp),show Ji [a,b] 0 0=a from rfl,tY n r ho hi ha,Jc,o2,ab (by simp only[ap,ah,Jk,aU];omega),ab (by simp),show Ji [a,b] 1 0=b from rfl,tY n r ho hi hb,
    Jc,ab (by simp only[ap,ah,Jk,aU];omega)]
   simp only[ap]
   congr 2
   unfold mw;rw[ao h3,ao (λhh=>h2 hh.1),ab hs];have hN:aP e=[a.toNat,b.toNat]:=by unfold aP;rw[hab];rfl
   rw[hN]
 ·have:¬(e.2.2.length:Int)=2:=by omega
  rw[ab (by simp[this]),ao hl]
theorem HR (hn:1100000<=n)(u:List Int){o:List ByteArray}{i:Nat}(ho:oQ r.1 o i)(hi:i<=r.1.length)(e:Ex)(he:e.2.1.size<=8000000)(hk:e.2.2.length<=1048576)(hin:e.2.2.all (lp i)=true)(b:Bool)(hb:b=true↔e.1=1\/e.1=3)(Kn:ByteArray->Option (List ByteArray×Bool)):
  aw.j2 n (i:Int) e.1 b r u o e Kn=if(1<=e.1/\e.1<=7)/\(gQ e.1=true->e.2.2.length=2)then Kn (bt (mw (ek r.1) (be r.1) e))else some (o,false):=by
 have e1:e.2.1=bt e.2.1.data.toList:=jv _;have es:e.2.1.data.toList.length<=8000000:=he;unfold aw.j2
 by_cases c1:e.1=1\/e.1=3
 ·rw[ab (hb.2 c1)]
  have hs:¬gQ e.1=true:=by rcases c1 with h|h<;>rw[h]<;>decide
  rw[ab ⟨by omega,λh=>bJ h hs⟩];unfold mw;rw[ao (by omega),ao (by omega),ao hs,← e1]
 rw[ao (λh=>c1 (hb.1 h))]
 by_cases c2:e.1=2
 ·have hs:¬gQ e.1=true:=by rw[c2];decide
  rw[ab (by simp[c2]),ab ⟨by omega,λh=>bJ h hs⟩];unfold mw;rw[ab c2]
  rfl
 rw[ao (by simpa using c2)]
 by_cases c4:e.1=4
 ·have hs:¬gQ e.1=true:=by rw[c4];decide
  rw[ab (by simp[c4]),ab (show(1<=e.1/\e.1<=7)/\(gQ e.1=true->e.2.2.length=2)from⟨by omega,λh=>bJ h hs⟩)];unfold mw;rw[ao c2]
  by_cases hne:e.2.2=[]
  ·rw[ao (λh=>h.2 hne),ao hs]
   obtain⟨n',rfl⟩:∃n',n=n'+1:=⟨n - 1,by omega⟩
   unfold aw.l3;rw[ao (by simp[hne]),ao (by simp[hne]),← e1]
  ·obtain⟨a,l,hq⟩:=Nt hne
   have h0:0<e.2.2.length:=Lj.2 hne;have ha:=JS.1 hin a (by rw[hq];simp);obtain⟨g1,g2,g3⟩:=jy r ho ha hi;have hN:aP e=a.toNat::l.map Jg:=by unfold aP;rw[hq];rfl
   rw[ab (show e.1=4/\e.2.2≠[]from⟨c4,hne⟩)];obtain⟨n',rfl⟩:∃n',n=n'+1:=⟨n - 1,by omega⟩
   unfold aw.l3;have hll:l.length+1=e.2.2.length:=by rw[hq];rfl
   have ga:Ji e.2.2 (Jg 0) 0=a:=by rw[hq];rfl
   rw[ga];rw[ab (by simp;omega),ab (by simp),show(⟨#[40]⟩:ByteArray)=bt [40]from rfl];rw[e1,ab (by simp only[ah,Jj,Jo,aU];omega),ab (by omega),ab g1,g2,ab (by simp only[ap,ah,Jk,Jj,Jo,aU];omega),ap,ap];rw[show Jh.wrap ((0:Int)+1)=((1:Nat):Int)from rfl];have:=DO (n'+1) r (i:Int) u ho hi e hk hin (λt29=>
    if decide ((Je e.2.2:Int)>0)=true then
    if Jf t29+Jf ⟨#[41]⟩<=aU then
    Kn (t29++⟨#[41]⟩)
    else
    none
    else
    Kn t29) n' 1 (e.2.1.data.toList++[40]++be r.1 a.toNat) (by omega) (by omega) (JG _) (by
     simp only[Jk,Jj,Jo];have:(e.2.2.length - 1)*3002<=1048576*3002:=JW _ (by omega)
     omega)
   refine this.trans ?_;rw[ab (by simp;omega),show(⟨#[41]⟩:ByteArray)=bt [41]from rfl];have hlen:((e.2.1.data.toList++[40]++be r.1 a.toNat)++jz [44,32] (((aP e).drop 1).map (be r.1))).length<=4000000000:=by
    have hl:∀ks:List Nat,(∀k∈ks,(be r.1 k).length<=3000)->(jz [44,32] (ks.map (be r.1))).length<=ks.length*3002:=by
     intro ks
     induction ks with
     |nil=>intro _;exact JF _
     |cons k ks ih=>
      intro h;have h1:=ih λx hx=>h x (JE _ hx)
      have h2:=h k JA;rw[Jy,mh];simp only[Jk,Jj,Jo,Ku,KQ];omega
    have h1:=hl ((aP e).drop 1) (λk hk=>by
     have hk:=List.mem_of_mem_drop hk;obtain⟨x,hx,rfl⟩:=KG.1 hk;exact(jy r ho (JS.1 hin x hx) hi).2.2)
    have h2:((aP e).drop 1).length*3002<=1048576*3002:=JW _ (by
     rw[List.length_drop];have:(aP e).length=e.2.2.length:=JT ..
     omega)
    simp only[Jk,Jj,Jo];omega
   rw[ab (by simp only[ah,Jj,Jo,aU];omega),ap]
   congr 2
   rw[hN];simp only[Oj,JN,Jy,kG,ez,JO]
 rw[ao (by simpa using c4)]
 by_cases hs:gQ e.1=true
 ·have hk7:5<=e.1/\e.1<=7:=by
   unfold gQ at hs;simpa using hs
  have key:=λKn=>HQ n r (i:Int) u ho hi e hin hs c4 c2 Kn
  have hR:(if(1<=e.1/\e.1<=7)/\(gQ e.1=true->e.2.2.length=2)then Kn (bt (mw (ek r.1) (be r.1) e))else some (o,false))=if e.2.2.length=2 then Kn (bt (mw (ek r.1) (be r.1) e))else some (o,false):=by
   by_cases hl:e.2.2.length=2
   ·rw[ab hl,ab ⟨by omega,λ_=>hl⟩]
   ·rw[ao hl,ao (λh=>hl (h.2 hs))]
  rw[hR]
  by_cases c5:e.1=5
  ·rw[ab (by simp[c5]),show decide (e.1=5)=true by simp[c5],key]
  ·rw[ao (by simpa using c5)]
   by_cases c6:e.1=6
   ·rw[ab (by simp[c6]),show decide (e.1=6)=true by simp[c6],key]
   ·rw[ao (by simpa using c6),show decide (e.1=7)=true by simp;omega,key]
 ·have hns:¬(5<=e.1/\e.1<=7):=by
   unfold gQ at hs;simpa using hs
  rw[ao (by simp;omega),ao (by simp;omega),show decide (e.1=7)=false by simp;omega,ao (by omega)];unfold aw.j4;rw[ao (by simp)]
theorem HS {o:List ByteArray}{i:Nat}(ho:o.length=r.1.length)(hi:i<r.1.length)(u:List Int)(e:Ex)(t:By)(Kn:List ByteArray->Option (List ByteArray×Bool)):
  aw.j5 n (i:Int) (bt t) r u o e Kn=if(e.1<=3->e.2.2=[])/\t.length<=3000 then Kn (o.set i (bt t))else some (o,false):=by
 unfold aw.j5 aw.j6;have hin:(0:Int)<=(i:Int)/\(i:Int)<(o.length:Int):=by omega
 simp only[ab hin,JD,ah]
 by_cases c3:e.1<=3
 ·rw[ab (by simpa using c3)]
  by_cases hk:e.2.2=[]
  ·rw[ab (by simp[hk])]
   by_cases ht:t.length<=3000
   ·rw[ao (by simp;omega),ab ⟨λ_=>hk,ht⟩]
   ·rw[ab (by simp;omega),ao (λh=>ht h.2)]
  ·have:=Lj.2 hk
   rw[ao (by simp;omega),ao (λh=>hk (h.1 c3))]
 ·rw[ao (by simpa using c3)]
  by_cases ht:t.length<=3000
  ·rw[ao (by simp;omega),ab ⟨λh=>bJ h c3,ht⟩]
  ·rw[ab (by simp;omega),ao (λh=>ht h.2)]
end
def jF (E:List Ex):List ByteArray:=(List.range E.length).map λj=>bt (be E j)
theorem DP {E:List Ex}{o:List ByteArray}(h:oQ E o E.length):o=jF E:=by
 apply List.ext_getElem
 ·simp[jF,h.1]
 ·intro j h1 h2
  have hj:j<E.length:=by rw[← h.1];exact h1
  have:=(h.2 j hj).1;rw[KB,List.getElem?_eq_getElem h1]at this;simp only[jF,List.getElem_map,List.getElem_range];exact this
theorem vj {e:Ex}:BP e=true↔((1<=e.1/\e.1<=7)/\(gQ e.1=true->e.2.2.length=2))/\(e.1<=3->e.2.2=[]):=by
 unfold BP
 by_cases hs:gQ e.1=true
 ·have h5:5<=e.1/\e.1<=7:=by unfold gQ at hs;simpa using hs
  rw[ab hs];simp only[Jm,db]
  constructor
  ·rintro⟨h1,h2⟩
   exact⟨⟨h1,λ_=>h2⟩,λh=>by omega⟩
  ·rintro⟨⟨h1,h2⟩,_⟩
   exact⟨h1,h2 hs⟩
 ·have h5:¬(5<=e.1/\e.1<=7):=by unfold gQ at hs;simpa using hs
  rw[ao hs];simp only[Jm,db,KY,List.isEmpty_iff]
  constructor
  ·rintro⟨h1,h2⟩
   exact⟨⟨h1,λh=>bJ h hs⟩,λh=>h2.resolve_left (by omega)⟩
  ·rintro⟨⟨h1,h2⟩,h3⟩
   refine⟨h1,?_⟩
   by_cases h4:e.1=4
   ·exact .inl h4
   ·exact .inr (h3 (by omega))
structure HT (r:Ru):Prop extends SmR r where
 text:∀e∈r.1,e.2.1.size<=8000000
 name:∀l∈dQ r,l.2.1.size<=8000000
section
variable (n:Nat) (hn:1100000<=n) (r:Ru) (S:HT r)
theorem DQ (hn:1100000<=n){i:Nat}(hi:i<r.1.length){o:List ByteArray}(ho:oQ r.1 o i)(S:HT r){u:List Int}(hin:(r.1[i]).2.2.all (lp i)=true)(X:List ByteArray->Option (List ByteArray×Bool)):
  (if decide ((r.1[i]).1=1)=true then
   aw.j2 n (i:Int) (r.1[i]).1 (decide ((r.1[i]).1=1)) r u o r.1[i] (λt41=>aw.j5 n (i:Int) t41 r u o r.1[i] (λt55=>X t55))
   else aw.j2 n (i:Int) (r.1[i]).1 (decide ((r.1[i]).1=3)) r u o r.1[i] (λt56=>aw.j5 n (i:Int) t56 r u o r.1[i] (λt57=>X t57)))=
   if BP r.1[i]=true/\(mw (ek r.1) (be r.1) r.1[i]).length<=3000 then X (o.set i (bt (mw (ek r.1) (be r.1) r.1[i])))else some (o,false):=by
 have hm:=JB hi;have he:=S.text _ hm;have hk:=S.kids _ hm;generalize r.1[i]=e at*;have key:∀(b:Bool),(b=true↔e.1=1\/e.1=3)->aw.j2 n (i:Int) e.1 b r u o e (λt41=>aw.j5 n (i:Int) t41 r u o e (λt55=>X t55))=
   if BP e=true/\(mw (ek r.1) (be r.1) e).length<=3000 then X (o.set i (bt (mw (ek r.1) (be r.1) e)))else some (o,false):=by
  intro b hb;rw[HR n r hn u ho (N5 hi) e he hk hin b hb]
  by_cases c1:(1<=e.1/\e.1<=7)/\(gQ e.1=true->e.2.2.length=2)
  ·rw[ab c1,HS n r ho.1 hi u e]
   by_cases c2:(e.1<=3->e.2.2=[])/\(mw (ek r.1) (be r.1) e).length<=3000
   ·rw[ab c2,ab ⟨vj.2 ⟨c1,c2.1⟩,c2.2⟩]
   ·rw[ao c2,ao (λh=>c2 ⟨(vj.1 h.1).2,h.2⟩)]
  ·rw[ao c1,ao (λh=>c1 (vj.1 h.1).1)]
 by_cases c1:e.1=1
 ·rw[ab (by simp[c1])]
  exact key _ (by simp[c1])
 ·rw[ao (by simpa using c1)]
  exact key _ (by simp[c1])
theorem DR (hn:1100000<=n)(S:HT r)(K:List Int->List ByteArray->Option (List ByteArray×Bool)):∀(k i:Nat) (u:List Int) (o:List ByteArray),i<=r.1.length->r.1.length - i<k->(∀j,j<i->∀q∈aP (r.1.getD j ll),q<j)->oQ r.1 o i->Cnt u r.1.length ((i:Int)*1048576)->
  (mg (r.1.drop i) i=true/\(∀j,i<=j->j<r.1.length->(be r.1 j).length<=3000)->aw.l0 n r K k (i:Int) u o=K (bumps u ((r.1.drop i).flatMap aP)) (jF r.1))/\
  (¬(mg (r.1.drop i) i=true/\(∀j,i<=j->j<r.1.length->(be r.1 j).length<=3000))->∃o',aw.l0 n r K k (i:Int) u o=some (o',false))
 |0,i,u,o,_,hk,_,_,_=>bJ hk (Jx _)
 |k+1,i,u,o,hi,hk,hlow,ho,hu=>by
  have hE:=S.exps
  by_cases h:i<r.1.length
  ·have hke:=S.kids _ (JB h)
   have eg:r.1.getD i ll=r.1[i]:=by simp[h]
   have hl1:=λK'=>HO n r i o r.1[i] hke K' r.1.length (by omega) (by omega) hu (by omega) hn
   have hfull:aw.l0 n r K (k+1) (i:Int) u o=if(r.1[i]).2.2.all (lp i)=true then
     (if decide ((r.1[i]).1=1)=true then
      aw.j2 n (i:Int) (r.1[i]).1 (decide ((r.1[i]).1=1)) r (bumps u (aP r.1[i])) o r.1[i] (λt41=>aw.j5 n (i:Int) t41 r (bumps u (aP r.1[i])) o r.1[i] (λt55=>aw.l0 n r K k (Jh.wrap ((i:Int)+1)) (bumps u (aP r.1[i])) t55))
      else aw.j2 n (i:Int) (r.1[i]).1 (decide ((r.1[i]).1=3)) r (bumps u (aP r.1[i])) o r.1[i] (λt56=>aw.j5 n (i:Int) t56 r (bumps u (aP r.1[i])) o r.1[i] (λt57=>aw.l0 n r K k (Jh.wrap ((i:Int)+1)) (bumps u (aP r.1[i])) t57)))
     else some (o,false):=by
    conv=>lhs;unfold aw.l0
    simp only[aN _ h];rw[ab (jj h),ab (inl' h),hl1]
   rw[hfull,Jv h]
   by_cases hK:(r.1[i]).2.2.all (lp i)=true
   ·rw[ab hK]
    have hst:=DQ n r hn h ho S (u:=bumps u (aP r.1[i])) hK (λo'=>aw.l0 n r K k (Jh.wrap ((i:Int)+1)) (bumps u (aP r.1[i])) o');rw[hst];have hlow':∀j,j<i+1->∀q∈aP (r.1.getD j ll),q<j:=by
     intro j hj q hq
     by_cases e:j=i
     ·subst e
      rw[eg]at hq;exact pN hK q hq
     ·exact hlow j (by omega) q hq
    have htx:be r.1 i=mw (ek r.1) (be r.1) r.1[i]:=by
     rw[← eg];exact zw λj hj=>hlow' j (by omega)
    rw[← htx];have hc:mg (r.1[i]::r.1.drop (i+1)) i=(BP r.1[i]&&mg (r.1.drop (i+1)) (i+1)):=by simp[mg,zv,hK]
    have hfl:bumps u ((r.1[i]::r.1.drop (i+1)).flatMap aP)=bumps (bumps u (aP r.1[i])) ((r.1.drop (i+1)).flatMap aP):=by
     rw[Ln,kC]
    rw[hc,hfl,ja (by omega)]
    by_cases cE:BP r.1[i]=true/\(be r.1 i).length<=3000
    ·rw[ab cE]
     have hu2:=(hu.bumps _ (all_lt' (N5 h) hK)).mono (D:=((i+1:Nat):Int)*1048576) (by rw[JT];omega);have ho2:oQ r.1 (o.set i (bt (be r.1 i))) (i+1):=by
      refine⟨by rw[MN];exact ho.1,λj hj=>?_⟩
      by_cases e:j=i
      ·subst e
       refine⟨?_,cE.2⟩;have:j<o.length:=by rw[ho.1];exact h
       simp[this]
      ·obtain⟨h1,h2⟩:=ho.2 j (by omega)
       refine⟨?_,h2⟩;rw[← h1];have:¬i=j:=λh=>e h.symm
       simp[KB,O2,this]
     obtain⟨p,q⟩:=DR hn S K k (i+1) (bumps u (aP r.1[i])) _ (by omega) (by omega) hlow' ho2 hu2
     constructor
     ·rintro⟨h1,h2⟩
      rw[cE.1,Kf]at h1;exact p ⟨h1,λj hj=>h2 j (by omega)⟩
     ·intro hn'
      refine q λ⟨h1,h2⟩=>hn' ⟨by rw[cE.1,Kf];exact h1,λj hj hj2=>?_⟩
      by_cases e:j=i
      ·subst e;exact cE.2
      ·exact h2 j (by omega) hj2
    ·rw[ao cE]
     refine⟨λ⟨h1,h2⟩=>bJ ⟨by rw[Jm]at h1;exact h1.1,h2 i (JG _) h⟩ cE,λ_=>⟨o,rfl⟩⟩
   ·rw[ao hK]
    refine⟨λ⟨h1,_⟩=>?_,λ_=>⟨o,rfl⟩⟩;simp only[mg,Jm]at h1;exact bJ h1.1.1 hK
  ·obtain rfl:i=r.1.length:=by omega
   have hend:aw.l0 n r K (k+1) (r.1.length:Int) u o=K u o:=by
    conv=>lhs;unfold aw.l0
    rw[ao (by simp)]
   rw[hend,Jw (JG _)];refine⟨λ_=>?_,λhn'=>bJ ⟨rfl,λj h1 h2=>by omega⟩ hn'⟩;rw[DP ho]
   rfl
theorem HU (hn:1100000<=n)(hE:r.1.length<=1048576)(o:List ByteArray)(ts:List Ex){i:Nat}(hi:i<ts.length)(hk:(ts[i]).2.2.length<=1048576)(K:List Int->Option (List ByteArray×Bool)){C:Int}{u:List Int}(hu:Cnt u r.1.length C)(hC:C<=4000000000000):
  aw.l8 n (i:Int) o ts K n 0 u=if xT r.1.length ts[i]=true then K (bumps u (aP ts[i]))else some (o,false):=by
 have:=oN (λk j u=>aw.l8 n (i:Int) o ts K k j u) (ts[i]).2.2 r.1.length r.1.length (some (o,false)) K (JG _) (λk j u h hm hq=>by
   conv=>lhs;unfold aw.l8
   simp only[aN _ hi,aN _ h];rw[ab (inl' hi),ab (jj h),ab (inl' hi),ab (inl' h),hm,aJ _ (by omega) (by omega),dz,vi,Jc,ja (by omega)]
   by_cases hin:lp r.1.length (ts[i]).2.2[j]=true
   ·obtain⟨h1,h2⟩:=oP hm (JG _) hin hq
    rw[hm]at h1;rw[ao (by simp[hin]),ab (inl' hi),ab (inl' h),ab h1,ab h1,h2,ab hin]
   ·rw[ab (by simpa using hin),ao hin]) (λk u=>by
   conv=>lhs;unfold aw.l8
   simp only[aN _ hi];rw[ab (inl' hi),ao (by simp)]) n 0 u C (JF _) (by omega) hu (by omega)
 rw[JN]at this;exact this
theorem DS (hn:1100000<=n)(hE:r.1.length<=1048576)(o:List ByteArray)(ts:List Ex)(hts:ts.length<=1048577)(hargs:∀l∈ts,l.2.2.length<=1048576)(K:List Int->Option (List ByteArray×Bool)):∀(k i:Nat) (u:List Int),i<=ts.length->ts.length - i<k->Cnt u r.1.length (1048576*1048576+(i:Int)*1048576)->
  aw.l7 n o ts K k (i:Int) u=if(ts.drop i).all (xT r.1.length)=true then K (bumps u ((ts.drop i).flatMap aP))else some (o,false)
 |0,i,u,_,hk,_=>bJ hk (Jx _)
 |k+1,i,u,hi,hk,hu=>by
  by_cases h:i<ts.length
  ·have hle:=hargs _ (JB h)
   conv=>lhs;unfold aw.l7
   rw[ab (jj h),HU n r hn hE o ts h hle _ hu (by omega),Jv h,ja (by omega)]
   by_cases hA:xT r.1.length ts[i]=true
   ·have hu2:=(hu.bumps _ (pN (show(ts[i]).2.2.all (lp r.1.length)=true from hA))).mono (D:=1048576*1048576+((i+1:Nat):Int)*1048576) (by rw[JT];omega)
    have ih:=DS hn hE o ts hts hargs K k (i+1) _ (by omega) (by omega) hu2;rw[ab hA,Kh,hA,Kf,Ln,kC];exact ih
   ·rw[ao hA,ao (λh'=>by rw[Kh,Jm]at h';exact hA h'.1)]
  ·obtain rfl:i=ts.length:=by omega
   conv=>lhs;unfold aw.l7
   rw[ao (by simp),Jw (JG _)]
   rfl
theorem DT (o:List ByteArray)(u:List Int)(hu:u.length<=1048576)(K:Unit->Option (List ByteArray×Bool)):∀(k i:Nat),i<=u.length->u.length - i<k->
  aw.l9 n u o K k (i:Int)=if((u.drop i).any λx=>!decide (x=1))=true then some (o,false)else K ()
 |0,i,_,hk=>bJ hk (Jx _)
 |k+1,i,hi,hk=>by
  by_cases h:i<u.length
  ·conv=>lhs;unfold aw.l9
   simp only[aN _ h];rw[ab (jj h),ab (inl' h),Jv h,NE]
   by_cases e:u[i]=1
   ·rw[ao (by simp[e]),ja (by omega),DT o u hu K k (i+1) (by omega) (by omega),iN e]
    rfl
   ·rw[ab (by simp[e]),dp e]
    rfl
  ·conv=>lhs;unfold aw.l9
   rw[ao (kl h),Jw (by omega)]
   rfl
def xH (r:Ru):Prop:=r.1.length<=60/\mg r.1 0=true/\(∀j,j<r.1.length->(be r.1 j).length<=3000)/\(dQ r).all (xT r.1.length)=true/\((nE r).any λx=>!decide (x=1))=false
theorem FD (hn:1100000<=n)(S:HT r):(xH r->aw.F n r=some (jF r.1,true))/\(¬xH r->∃o,aw.F n r=some (o,false)):=by
 have hE:=S.exps;have hB:=S.body;unfold aw.F xH
 by_cases c60:r.1.length<=60
 ·rw[ao (by simp;omega)]
  have hr:(0:Int)<=(r.1.length:Int)/\(r.1.length:Int)<=(r.1.length:Int)/\(r.1.length:Int)<=(aU:Int):=⟨by omega,Int.le_refl _,by simp[aU];omega⟩;rw[ab hr,ab hr,JD];have h0:Cnt (JZ r.1.length (0:Int)) r.1.length (((0:Nat):Int)*1048576):=⟨by simp,λq=>by
   rw[KB,NJ]
   split<;>simp⟩
  have hl0:=λK=>DR n r hn S K n 0 (JZ r.1.length 0) (JZ r.1.length Jd) (JF _) (by omega) (λj hj=>bJ hj (Jx _)) ⟨by simp,λj hj=>bJ hj (Jx _)⟩ h0
  simp only[show((0:Nat):Int)=0 from rfl,JN,JF,true_implies]at hl0
  by_cases cE:mg r.1 0=true/\∀j,j<r.1.length->(be r.1 j).length<=3000
  ·rw[(hl0 _).1 cE,ab (by simp[aU];omega)]
   have hk:∀k∈r.1.flatMap aP,k<r.1.length:=by
    intro k hk;obtain⟨e,he,hk⟩:=Ma.1 hk;obtain⟨i,hi,rfl⟩:=Lp.1 he;have:=pN (show r.1[i].2.2.all (lp i)=true by have:=(lN.1 cE.1 i hi).1;rwa [KT]at this) k hk;omega
   have hC:((r.1.flatMap aP).length:Int)<=1048576*1048576:=by
    have:∀l:List Ex,(∀e∈l,e.2.2.length<=1048576)->(l.flatMap aP).length<=l.length*1048576:=by
     intro l
     induction l with
     |nil=>intro _;simp
     |cons e l ih=>
      intro h;have h1:=ih λx hx=>h x (JE _ hx)
      have h2:=h e JA;rw[Ln,Jk,Jj];have:(aP e).length=e.2.2.length:=JT ..;omega
    have h1:=this r.1 S.kids;have:r.1.length*1048576<=1048576*1048576:=JW _ hE;omega
   have hu:=(Cnt.bumps h0 _ hk).mono (D:=1048576*1048576+((0:Nat):Int)*1048576) (by omega);have e7:=λK=>DS n r hn hE (jF r.1) ([r.2.1]++r.2.2) (by simp;omega) S.args K n 0 _ (JF _) (by simp;omega) hu
   simp only[show((0:Nat):Int)=0 from rfl,JN]at e7;rw[e7,show [r.2.1]++r.2.2=dQ r from rfl]
   by_cases cA:(dQ r).all (xT r.1.length)=true
   ·rw[ab cA]
    have hul:(bumps (bumps (JZ r.1.length 0) (r.1.flatMap aP)) ((dQ r).flatMap aP)).length<=1048576:=by rw[jO,jO];simp;omega
    have e9:=λK=>DT n (jF r.1) _ hul K n 0 (JF _) (by omega)
    simp only[show((0:Nat):Int)=0 from rfl,JN]at e9;rw[e9];have hU:bumps (bumps (JZ r.1.length 0) (r.1.flatMap aP)) ((dQ r).flatMap aP)=nE r:=rfl;rw[hU]
    by_cases cu:((nE r).any λx=>!decide (x=1))=true
    ·rw[ab cu]
     exact⟨λh=>by rw[cu]at h;exact bJ h.2.2.2.2 (by simp),λ_=>⟨_,rfl⟩⟩
    ·rw[ao cu]
     exact⟨λ_=>rfl,λh=>bJ ⟨c60,cE.1,cE.2,cA,by simpa using cu⟩ h⟩
   ·rw[ao cA]
    exact⟨λh=>bJ h.2.2.2.1 cA,λ_=>⟨_,rfl⟩⟩
  ·obtain⟨o',ho'⟩:=(hl0 (λt58 t59=>
    if Je [r.2.1]+Je r.2.2<=aU then
    aw.l7 n t59 ([r.2.1]++r.2.2) (λt72=>
    aw.l9 n t72 t59 (λ_=>
    some (t59,true)) n 0) n 0 t58
    else
    none)).2 cE
   exact⟨λh=>bJ ⟨h.2.1,h.2.2.1⟩ cE,λ_=>⟨o',ho'⟩⟩
 ·rw[ab (by simp;omega)]
  exact⟨λh=>bJ h.1 c60,λ_=>⟨_,rfl⟩⟩
end
theorem AO {E:List Ex}(h:∀j,j<E.length->(be E j).length<=3000):oQ E (jF E) E.length:=
 ⟨by simp[jF],λj hj=>⟨by simp[jF,hj],h j hj⟩⟩
section
variable (n:Nat) (r:Ru)
theorem DU {o:List ByteArray}(ho:oQ r.1 o r.1.length)(e:Ex)(hk:e.2.2.length<=1048576)(hin:e.2.2.all (lp r.1.length)=true)(K:ByteArray->Option (ByteArray×Bool)):∀(k j:Nat) (s:By),j<=e.2.2.length->e.2.2.length - j<k->1<=j->
  s.length+(e.2.2.length - j)*3002<=4000000000->cY.l1 n o e K k (bt s) (j:Int)=K (bt (s++jz [44,32] (((aP e).drop j).map (be r.1))))
 |0,j,s,_,hj,_,_=>bJ hj (Jx _)
 |k+1,j,s,hj,hk1,h1,hs=>by
  have hkn:(aP e).length=e.2.2.length:=JT ..
  by_cases h:j<e.2.2.length
  ·have hm:=JS.1 hin _ (JB h)
   obtain⟨g1,g2,g3⟩:=jy r ho hm (JG _);have hkj:(aP e).drop j=e.2.2[j].toNat::(aP e).drop (j+1):=by
    rw[Jv (by omega)]
    simp[aP]
   have hb:s.length+3002<=4000000000:=by
    have:1*3002<=(e.2.2.length - j)*3002:=JW _ (by omega);omega
   conv=>lhs;unfold cY.l1
   simp only[aN _ h];rw[ab (jj h),ab (by simp;omega),show(⟨#[44,32]⟩:ByteArray)=bt [44,32]from rfl,ab (by simp only[ah,Jj,Jo,aU];omega),ab (inl' h),ab g1,g2,
    ab (by simp only[ap,ah,Jk,Jj,Jo,aU];omega),ap,ap,ja (by omega),
    DU ho e hk hin K k (j+1) _ (by omega) (by omega) (by omega) (by
     simp only[Jk,Jj,Jo];have:(e.2.2.length - j)*3002=(e.2.2.length - (j+1))*3002+3002:=by
      rw[show e.2.2.length - j=(e.2.2.length - (j+1))+1 by omega,Ku,KQ]
     omega),hkj,Jy,mh]
   simp only[JO]
  ·conv=>lhs;unfold cY.l1
   rw[ao (kl h),Jw (by omega)]
   simp[jz]
theorem xI (E:List Ex):∀ks:List Nat,(∀k∈ks,(be E k).length<=3000)->(jz [44,32] (ks.map (be E))).length<=ks.length*3002
 |[],_=>JF _
 |k::ks,h=>by
  have h1:=xI E ks λx hx=>h x (JE _ hx)
  have h2:=h k JA;rw[Jy,mh];simp only[Jk,Jj,Jo,Ku,KQ];omega
theorem BR {o:List ByteArray}(ho:oQ r.1 o r.1.length){e:Ex}(hk:e.2.2.length<=1048576)(hin:e.2.2.all (lp r.1.length)=true):(Kp ((aP e).map (be r.1)) [44,32]).length<=3147826000:=by
 have hall:∀k∈aP e,(be r.1 k).length<=3000:=λk hk=>by
  obtain⟨x,hx,rfl⟩:=KG.1 hk;exact(jy r ho (JS.1 hin x hx) (JG _)).2.2
 have hkn:(aP e).length=e.2.2.length:=JT ..;cases hq:aP e with
 |nil=>simp[Lib.join_nil]
 |cons a l=>
  rw[Jy,kG,Jk];have h1:=xI r.1 l λk hk=>hall k (by rw[hq];exact JE _ hk)
  have h2:=hall a (by rw[hq];exact JA);rw[hq,Jj]at hkn;have h3:l.length*3002<=1048575*3002:=JW _ (by omega);omega
theorem FE (hn:1100000<=n){o:List ByteArray}(ho:oQ r.1 o r.1.length)(e:Ex)(hk:e.2.2.length<=1048576)(hin:e.2.2.all (lp r.1.length)=true)(K:ByteArray->Option (ByteArray×Bool))(s:By)(hs:s.length<=9000000):
  cY.l1 n o e K n (bt s) 0=K (bt (s++Kp ((aP e).map (be r.1)) [44,32])):=by
 obtain⟨n',rfl⟩:∃n',n=n'+1:=⟨n - 1,by omega⟩
 by_cases hne:e.2.2=[]
 ·conv=>lhs;unfold cY.l1
  rw[ao (by simp[hne])];have:aP e=[]:=by unfold aP;rw[hne];rfl
  rw[this]
  simp[Lib.join_nil]
 ·obtain⟨a,l,hq⟩:=Nt hne
  have h0:0<e.2.2.length:=Lj.2 hne;have ha:=JS.1 hin a (by rw[hq];simp);obtain⟨g1,g2,g3⟩:=jy r ho ha (JG _);have hN:aP e=a.toNat::l.map Jg:=by unfold aP;rw[hq];rfl
  have ga:Ji e.2.2 (Jg 0) 0=a:=by rw[hq];rfl
  conv=>lhs;unfold cY.l1
  rw[ga,ab (by simp;omega),ao (by simp),ab (by omega),ab g1,g2,ab (by simp only[ap,ah,Jk,aU];omega),ap,show Jh.wrap ((0:Int)+1)=((1:Nat):Int)from rfl];rw[DU (n'+1) r ho e hk hin K n' 1 _ (by omega) (by omega) (JG _) (by
   simp only[Jk];have:(e.2.2.length - 1)*3002<=1048576*3002:=JW _ (by omega)
   omega),hN]
  simp only[Oj,JN,Jy,kG,JO]
theorem xJ (hn:1100000<=n){o:List ByteArray}(ho:oQ r.1 o r.1.length)(l:Ex)(hname:l.2.1.size<=8000000)(hk:l.2.2.length<=1048576)(hA:xT r.1.length l=true):
  (vh l=true->cY.F n l o=some (bt (er r.1 l),true)/\(er r.1 l).length<=3200000000)/\(¬vh l=true->∃s,cY.F n l o=some (s,false)):=by
 have hin:l.2.2.all (lp r.1.length)=true:=hA;have e1:l.2.1=bt l.2.1.data.toList:=jv _;have es:l.2.1.data.toList.length<=8000000:=hname;have hj:=BR r ho hk hin;have hkL:vh l=true↔(1<=l.1/\l.1<=3)/\(l.1=3->l.2.2.length=2):=by
  unfold vh;simp only[Jm,db,KY,LM,vk]
  constructor
  ·rintro⟨h1,h2⟩
   exact⟨h1,λe=>h2.resolve_left (λh=>h e)⟩
  ·rintro⟨h1,h2⟩
   refine⟨h1,?_⟩
   by_cases h3:l.1=3
   ·exact .inr (h2 h3)
   ·exact .inl h3
 unfold cY.F er
 by_cases c3:l.1=3
 ·rw[ab (by simp[c3]),ab c3]
  by_cases hl:l.2.2.length=2
  ·rw[ao (by simp[hl])]
   refine⟨λ_=>?_,λh=>bJ (hkL.2 ⟨by omega,λ_=>hl⟩) h⟩
   match hab:l.2.2,hl with
   |[a,b],_=>
    have ha:=JS.1 hin a (by rw[hab];simp);have hb:=JS.1 hin b (by rw[hab];simp);obtain⟨a1,a2,a3⟩:=jy r ho ha (JG _);obtain⟨b1,b2,b3⟩:=jy r ho hb (JG _);have hN:aP l=[a.toNat,b.toNat]:=by unfold aP;rw[hab];rfl
    rw[hN,show Ji [a,b] 0 0=a from rfl,show Ji [a,b] 1 0=b from rfl,a2,b2,e1,show(⟨#[32]⟩:ByteArray)=bt [32]from rfl,ab (by simp),ab a1,
     ab (by simp only[ah,Jj,Jo,aU];omega),ab (by simp only[ap,ah,Jk,Jj,Jo,aU];omega),
     ab (by simp only[ap,ah,Jk,Jj,Jo,aU];omega),ab (by simp),ab b1,ab (by simp only[ap,ah,Jk,Jj,Jo,aU];omega)]
    simp only[ap,ez,true_and];simp only[Jk,Jj,Jo];omega
  ·have:¬(l.2.2.length:Int)=2:=by omega
   rw[ab (by simp[this])];exact⟨λh=>bJ ((hkL.1 h).2 c3) hl,λ_=>⟨_,rfl⟩⟩
 ·rw[ao (by simpa using c3),ao c3,e1,show(⟨#[40]⟩:ByteArray)=bt [40]from rfl,show(⟨#[33]⟩:ByteArray)=bt [33]from rfl,ab (by simp only[ah,Jj,Jo,aU];omega)]
  have hj0:∀(s:By),s.length<=9000000->cY.j0 n o (bt s) l=some (bt (s++Kp ((aP l).map (be r.1)) [44,32]++[41]),if(decide (l.1=1))=false then decide (l.1=2)else true):=by
   intro s hs;unfold cY.j0;rw[FE n r hn ho l hk hin _ s hs,show(⟨#[41]⟩:ByteArray)=bt [41]from rfl,ab (by simp only[ah,Jk,Jj,Jo,aU];omega),ap];cases decide (l.1=1)<;>rfl
  have hj0':∀(s:By),s.length<=9000000->cY.j0 n o (bt s) (l.1,(bt l.2.1.data.toList,l.2.2))=some (bt (s++Kp ((aP l).map (be r.1)) [44,32]++[41]),if(decide (l.1=1))=false then decide (l.1=2)else true):=by
   intro s hs;have:=hj0 s hs;rw[← e1];exact this
  simp only[ap,ez,ah]
  by_cases c2:l.1=2
  ·rw[ab (by simp[c2]),ab (by simp only[Jk,Jj,Jo,aU];omega),hj0 _ (by simp only[Jk,Jj,Jo];omega),ab c2]
   refine⟨λ_=>⟨?_,?_⟩,λh=>bJ (hkL.2 ⟨by omega,λh=>bJ h c3⟩) h⟩
   ·simp[c2,JO]
   ·simp only[Jk,Jj,Jo]
    omega
  ·rw[ao (by simpa using c2),hj0 _ (by simp only[Jk,Jj,Jo];omega),ao c2]
   by_cases c1:l.1=1
   ·refine⟨λ_=>⟨?_,?_⟩,λh=>bJ (hkL.2 ⟨by omega,λh=>bJ h c3⟩) h⟩
    ·simp[c1]
    ·simp only[Jk,Jj,Jo]
     omega
   ·refine⟨λh=>?_,λ_=>⟨bt (l.2.1.data.toList++[40]++Kp ((aP l).map (be r.1)) [44,32]++[41]),?_⟩⟩
    ·have:=(hkL.1 h).1
     omega
    ·simp[c1,c2]
def tB:List By->By
 |[]=>[]
 |x::l=>[32,58,45,32]++x++jz [44,32] l
theorem xK (r:Ru):jE r=er r.1 r.2.1++tB (r.2.2.map (er r.1))++[46]:=by
 unfold jE;cases hq:r.2.2 with
 |nil=>simp[tB]
 |cons l ls=>simp[tB,kG]
theorem FG (l:List By)(x:By):tB (l++[x])=tB l++(if l=[]then [32,58,45,32]else [44,32])++x:=by
 cases l with
 |nil=>simp[tB,jz]
 |cons y l=>simp[tB,jz]
theorem HV (l m:List By):∃t,tB (l++m)=tB l++t:=by
 cases l with
 |nil=>exact⟨tB m,by simp[tB]⟩
 |cons x l=>exact⟨jz [44,32] m,by simp[tB,jz]⟩
theorem DV (hn:1100000<=n)(S:HT r)(hA:xH r)(hb3:r.2.2.length<=3000)(hh:r.2.1.1=1)(hokH:vh r.2.1=true):∀(k j:Nat),j<=r.2.2.length->r.2.2.length - j<k->(∀i (h:i<r.2.2.length),i<j->vh r.2.2[i]=true)->
  (er r.1 r.2.1++tB ((r.2.2.take j).map (er r.1))).length<=3200004000->
  ca.l1 n (jF r.1) r (λt24=>
   if Jf t24+Jf ⟨#[46]⟩<=aU then
   if decide ((Jf (t24++⟨#[46]⟩):Int)>3000)=true then
   some Jd
   else
   some (t24++⟨#[46]⟩)
   else
   none) k (bt (er r.1 r.2.1++tB ((r.2.2.take j).map (er r.1)))) (j:Int)=some (gh r)
 |0,j,_,hj,_,_=>bJ hj (Jx _)
 |k+1,j,hj,hk,hok,hlen=>by
  have ho:=AO hA.2.2.1;have hend:∀s:By,s.length<=3200004000->(if Jf (bt s)+Jf ⟨#[46]⟩<=aU then
   if decide ((Jf (bt s++⟨#[46]⟩):Int)>3000)=true then
   some Jd
   else
   some (bt s++⟨#[46]⟩)
   else
   none)=some (if(s++[46]).length<=3000 then bt (s++[46])else Jd):=by
   intro s hs;rw[show(⟨#[46]⟩:ByteArray)=bt [46]from rfl,ab (by simp only[ah,Jj,Jo,aU];omega),ap,ah]
   by_cases h:(s++[46]).length<=3000
   ·rw[ao (by rw[db];omega),ab h]
   ·rw[ab (by rw[db];omega),ao h]
  have hform:(∀i (h:i<r.2.2.length),vh r.2.2[i]=true)->qh r=true:=by
   intro hall;rw[jP];refine⟨hA.1,λi h=>by have:=lN.1 hA.2.1 i h;rwa [KT]at this,hh,λl hl=>?_,λx hx=>?_⟩
   ·refine⟨?_,JS.1 hA.2.2.2.1 l hl⟩
    rcases JJ.1 hl with rfl|hl
    ·exact hokH
    ·obtain⟨i,hi,rfl⟩:=Lp.1 hl
     exact hall i hi
   ·have:=L9.1 hA.2.2.2.2 x hx
    simpa using this
  conv=>lhs;unfold ca.l1
  by_cases h:j<r.2.2.length
  ·rw[ab (jj h)]
   by_cases hs:(er r.1 r.2.1++tB ((r.2.2.take j).map (er r.1))).length<=3000
   ·rw[ab (by rw[ah,db];omega)]
    have hmem:r.2.2[j]∈dQ r:=JE _ (JB h);obtain⟨l1,l2⟩:=xJ n r hn ho r.2.2[j] (S.name _ hmem) (S.args _ hmem) (JS.1 hA.2.2.2.1 _ hmem);have hj3:∀(s:By) (Kn:ByteArray->Option ByteArray),s.length<=3004->(vh r.2.2[j]=true->ca.j3 n (jF r.1) (bt s) (j:Int) r Kn=Kn (bt (s++er r.1 r.2.2[j])))/\(¬vh r.2.2[j]=true->ca.j3 n (jF r.1) (bt s) (j:Int) r Kn=some Jd):=by
     intro s Kn hs;unfold ca.j3;simp only[aN _ h];rw[ab (inl' h)]
     constructor
     ·intro hk
      obtain⟨e1,e2⟩:=l1 hk;rw[e1,Jc,ao (by simp),ab (by simp only[ah,aU];omega),ap]
     ·intro hk
      obtain⟨s',e1⟩:=l2 hk;rw[e1,Jc,ab (by simp)]
    have hsep:ca.j2 n (jF r.1) (bt (er r.1 r.2.1++tB ((r.2.2.take j).map (er r.1)))) (j:Int) r (λt22 t23=>ca.l1 n (jF r.1) r (λt24=>
      if Jf t24+Jf ⟨#[46]⟩<=aU then
      if decide ((Jf (t24++⟨#[46]⟩):Int)>3000)=true then
      some Jd
      else
      some (t24++⟨#[46]⟩)
      else
      none) k t22 t23)=ca.j3 n (jF r.1) (bt (er r.1 r.2.1++tB ((r.2.2.take j).map (er r.1))++(if(r.2.2.take j).map (er r.1)=[]then [32,58,45,32]else [44,32]))) (j:Int) r (λt=>ca.l1 n (jF r.1) r (λt24=>
      if Jf t24+Jf ⟨#[46]⟩<=aU then
      if decide ((Jf (t24++⟨#[46]⟩):Int)>3000)=true then
      some Jd
      else
      some (t24++⟨#[46]⟩)
      else
      none) k t ((j+1:Nat):Int)):=by
     unfold ca.j2;rw[ja (by omega)]
     by_cases hj0:j=0
     ·subst hj0
      rw[ab (by simp),show(⟨#[32,58,45,32]⟩:ByteArray)=bt [32,58,45,32]from rfl,ab (by simp only[ah,Jj,Jo,aU];omega),ap,ab (by simp)]
     ·have hne:¬(r.2.2.take j).map (er r.1)=[]:=by
       intro e;have:((r.2.2.take j).map (er r.1)).length=0:=by rw[e];rfl
       rw[JT,List.length_take]at this;omega
      rw[ao (by simp;omega),show(⟨#[44,32]⟩:ByteArray)=bt [44,32]from rfl,ab (by simp only[ah,Jj,Jo,aU];omega),ap,ao hne]
    rw[hsep];obtain⟨q1,q2⟩:=hj3 (er r.1 r.2.1++tB ((r.2.2.take j).map (er r.1))++(if(r.2.2.take j).map (er r.1)=[]then [32,58,45,32]else [44,32])) (λt=>ca.l1 n (jF r.1) r (λt24=>
      if Jf t24+Jf ⟨#[46]⟩<=aU then
      if decide ((Jf (t24++⟨#[46]⟩):Int)>3000)=true then
      some Jd
      else
      some (t24++⟨#[46]⟩)
      else
      none) k t ((j+1:Nat):Int)) (by
     rw[Jk]
     split<;>simp only[Jj,Jo]<;>omega)
    by_cases hk':vh r.2.2[j]=true
    ·rw[q1 hk']
     have hst:er r.1 r.2.1++tB ((r.2.2.take j).map (er r.1))++(if(r.2.2.take j).map (er r.1)=[]then [32,58,45,32]else [44,32])++er r.1 r.2.2[j]=er r.1 r.2.1++tB ((r.2.2.take (j+1)).map (er r.1)):=by
      rw[Ju h,Kk,Jy,Kz,FG];simp only[JO]
     rw[hst];refine DV hn S hA hb3 hh hokH k (j+1) (by omega) (by omega) (λi hi hij=>?_) ?_
     ·by_cases e:i=j
      ·subst e;exact hk'
      ·exact hok i hi (by omega)
     ·rw[← hst]
      have:=(l1 hk').2;simp only[Jk]at hs⊢
      split<;>simp only[Jj,Jo]<;>omega
    ·rw[q2 hk']
     unfold gh;rw[ao];rintro⟨hf,_⟩;exact hk' ((jP.1 hf).lits _ hmem).1
   ·rw[ao (by rw[ah,db];omega),hend _ hlen,ao (by simp only[Jk]at hs⊢;omega)]
    unfold gh;rw[ao];rintro⟨_,hl⟩;rw[xK]at hl;obtain⟨t,ht⟩:=HV ((r.2.2.take j).map (er r.1)) ((r.2.2.drop j).map (er r.1));rw[← Kk,List.take_append_drop]at ht;rw[ht]at hl;simp only[Jk]at hl hs;omega
  ·have hj':j=r.2.2.length:=by omega
   rw[ao (kl h),hend _ hlen];have hf:=hform λi hi=>hok i hi (by omega)
   have e:(r.2.2.take j)=r.2.2:=JI (by omega);rw[e,← xK];unfold gh
   by_cases hl:(jE r).length<=3000
   ·rw[ab hl,ab ⟨hf,hl⟩]
   ·rw[ao hl,ao (λhh=>hl hh.2)]
theorem xL (hn:1100000<=n)(S:HT r):ca.F n r=some (gh r):=by
 have hB:=S.body;have hneg:¬(qh r=true/\(jE r).length<=3000)->gh r=Jd:=λh=>by unfold gh;rw[ao h]
 unfold ca.F
 by_cases c3:r.2.2.length<=3000
 ·rw[ao (by simp;omega)]
  obtain⟨p,q⟩:=FD n r hn S
  by_cases cA:xH r
  ·rw[p cA,Jc,ao (by simp)]
   have ho:=AO cA.2.2.1;have hmem:r.2.1∈dQ r:=JA;obtain⟨l1,l2⟩:=xJ n r hn ho r.2.1 (S.name _ hmem) (S.args _ hmem) (JS.1 cA.2.2.2.1 _ hmem)
   by_cases hk:vh r.2.1=true
   ·obtain⟨e1,e2⟩:=l1 hk
    rw[e1,Jc,ab (by simp)]
    by_cases c1:r.2.1.1=1
    ·rw[ao (by simp[c1])]
     unfold ca.j0;have:=DV n r hn S cA c3 c1 hk n 0 (JF _) (by omega) (λi _ h=>bJ h (Jx _)) (by simp[tB];omega);simp only[KD,Kz,tB,Kv,show((0:Nat):Int)=0 from rfl]at this;exact this
    ·rw[ab (by simp[c1]),hneg λh=>c1 (jP.1 h.1).head]
   ·obtain⟨s,e1⟩:=l2 hk
    rw[e1,Jc,ao (by simp),hneg λh=>hk ((jP.1 h.1).lits _ hmem).1]
  ·obtain⟨o,e⟩:=q cA
   rw[e,Jc,ab (by simp),hneg];rintro⟨hf,hl⟩;have F:=jP.1 hf;refine cA ⟨F.few,lN.2 λj h=>by rw[KT];exact F.exps j h,λj hj=>LW (DI F.form hj) hl,JS.2 λl hl=>(F.lits l hl).2,?_⟩;rw[L9];intro x hx;simpa using F.once x hx
 ·rw[ab (by simp;omega),hneg]
  rintro⟨hf,hl⟩;have:=AG (jP.1 hf).form;omega
end
theorem ir (a b:ByteArray):Abs.seq a b=decide (a=b):=by
 rw[jv a,jv b,gv]
 by_cases h:a.data.toList=b.data.toList
 ·rw[h];simp
 ·have:¬bt a.data.toList=bt b.data.toList:=λe=>h (by have:=congrArg (λx=>x.data.toList) e;simpa[ez]using this)
  rw[dp this,beq_eq_false_iff_ne];exact h
theorem sI {α:Type}{x y:α}{l m:List α}:x::l=y::m↔x=y/\l=m:=⟨λh=>by cases h;exact⟨rfl,rfl⟩,λ⟨h1,h2⟩=>by rw[h1,h2]⟩
theorem dL {α:Type} [DecidableEq α](x y:α)(l m:List α):decide (x::l=y::m)=(decide (x=y)&&decide (l=m)):=by
 by_cases h1:x=y<;>by_cases h2:l=m<;>simp[h1,h2]
section
variable (n:Nat) (hn:1100000<=n)
theorem sJ (a b:List Int)(hab:a.length=b.length)(ha:a.length<=1048576):∀(k i:Nat),i<=a.length->a.length - i<k->eA.l0 n a b (λ_=>some true) k (i:Int)=some (decide (a.drop i=b.drop i))
 |0,i,_,hk=>bJ hk (Jx _)
 |k+1,i,hi,hk=>by
  by_cases h:i<a.length
  ·have h2:i<b.length:=by omega
   conv=>lhs;unfold eA.l0
   rw[ab (jj h),ab (inl' h),ab (inl' h2),aN _ h,aN _ h2,Jv h,Jv h2]
   by_cases e:a[i]=b[i]
   ·rw[ao (by simp[e]),ja (by omega),sJ a b hab ha k (i+1) (by omega) (by omega),dL,iN e,Kf]
   ·rw[ab (by simp[e]),dL,dp e,Li]
  ·conv=>lhs;unfold eA.l0
   rw[ao (kl h),Jw (by omega),Jw (by omega)]
   rfl
theorem qj (hn:1100000<=n)(a b:List Int)(ha:a.length<=1048576):eA.F n a b=some (decide (a=b)):=by
 unfold eA.F
 by_cases hab:a.length=b.length
 ·rw[ao (by simp[hab])]
  have:=sJ n a b hab ha n 0 (JF _) (by omega);rw[show((0:Nat):Int)=0 from rfl,JN,JN]at this;exact this
 ·have:¬(a.length:Int)=(b.length:Int):=by omega
  rw[ab (by simp[this]),dp (λe=>hab (by rw[e]))]
theorem sK (a b:List Int)(hab:a.length=b.length)(ha:a.length<=1048576):∀(k i:Nat),i<=a.length->a.length - i<k->ch.l0 n a b (a.length:Int) (λ_=>some true) k (i:Int)=some (decide (a.drop i=b.drop i))
 |0,i,_,hk=>bJ hk (Jx _)
 |k+1,i,hi,hk=>by
  by_cases h:i<a.length
  ·have h2:i<b.length:=by omega
   conv=>lhs;unfold ch.l0
   rw[ab (jj h),ab (inl' h),ab (inl' h2),aN _ h,aN _ h2,Jv h,Jv h2]
   by_cases e:a[i]=b[i]
   ·rw[ao (by simp[e]),ja (by omega),sK a b hab ha k (i+1) (by omega) (by omega),dL,iN e,Kf]
   ·rw[ab (by simp[e]),dL,dp e,Li]
  ·conv=>lhs;unfold ch.l0
   rw[ao (kl h),Jw (by omega),Jw (by omega)]
   rfl
theorem qk (hn:1100000<=n)(a b:List Int)(ha:a.length<=1048576):ch.F n a b=some (decide (a=b)):=by
 unfold ch.F
 by_cases hab:a.length=b.length
 ·rw[ao (by simp[hab])]
  have:=sK n a b hab ha n 0 (JF _) (by omega);rw[show((0:Nat):Int)=0 from rfl,JN,JN]at this;exact this
 ·have:¬(a.length:Int)=(b.length:Int):=by omega
  rw[ab (by simp[this]),dp (λe=>hab (by rw[e]))]
theorem oR (x y:Ex):decide (x=y)=(decide (x.1=y.1)&&(decide (x.2.1=y.2.1)&&decide (x.2.2=y.2.2))):=by
 obtain⟨a,b,c⟩:=x;obtain⟨d,e,f⟩:=y
 by_cases h1:a=d<;>by_cases h2:b=e<;>by_cases h3:c=f<;>simp[h1,h2,h3]
theorem sL (hn:1100000<=n)(x y:Ex)(hx:x.2.2.length<=1048576):fA.F n x y=some (decide (x=y)):=by
 unfold fA.F;rw[qj n hn _ _ hx,ir,oR];cases decide (x.1=y.1)<;>cases decide (x.2.1=y.2.1)<;>cases decide (x.2.2=y.2.2)<;>rfl
theorem sM (hn:1100000<=n)(x y:Ex)(hx:x.2.2.length<=1048576):gT.F n x y=some (decide (x=y)):=by
 unfold gT.F;rw[qk n hn _ _ hx,ir,oR];cases decide (x.1=y.1)<;>cases decide (x.2.1=y.2.1)<;>cases decide (x.2.2=y.2.2)<;>rfl
theorem zx (hn:1100000<=n)(x y:Ex)(hx:x.2.2.length<=1048576):fE.F n x y=some (decide (x=y)):=by
 unfold fE.F;rw[qk n hn _ _ hx,ir,oR];cases decide (x.1=y.1)<;>cases decide (x.2.1=y.2.1)<;>cases decide (x.2.2=y.2.2)<;>rfl
theorem DW (a b:List Ex)(f:Ex×Ex×Unit->Option Bool)(hf:∀x∈a,∀y,f (x,y,())=some (decide (x=y)))(hab:a.length=b.length)(ha:a.length<=1048576):∀(k i:Nat),i<=a.length->a.length - i<k->bv.l0 n b f a (a.length:Int) (λ_=>some true) k (i:Int)=some (decide (a.drop i=b.drop i))
 |0,i,_,hk=>bJ hk (Jx _)
 |k+1,i,hi,hk=>by
  by_cases h:i<a.length
  ·have h2:i<b.length:=by omega
   conv=>lhs;unfold bv.l0
   rw[ab (jj h),ab (inl' h),ab (inl' h2),aN _ h,aN _ h2,hf _ (JB h),Jc,Jv h,Jv h2]
   by_cases e:a[i]=b[i]
   ·rw[ao (by simp[e]),ja (by omega),DW a b f hf hab ha k (i+1) (by omega) (by omega),dL,iN e,Kf]
   ·rw[ab (by simp[e]),dL,dp e,Li]
  ·conv=>lhs;unfold bv.l0
   rw[ao (kl h),Jw (by omega),Jw (by omega)]
   rfl
theorem FH (hn:1100000<=n)(a b:List Ex)(f:Ex×Ex×Unit->Option Bool)(hf:∀x∈a,∀y,f (x,y,())=some (decide (x=y)))(ha:a.length<=1048576):bv.F n a b f=some (decide (a=b)):=by
 unfold bv.F
 by_cases hab:a.length=b.length
 ·rw[ao (by simp[hab])]
  have:=DW n a b f hf hab ha n 0 (JF _) (by omega);rw[show((0:Nat):Int)=0 from rfl,JN,JN]at this;exact this
 ·have:¬(a.length:Int)=(b.length:Int):=by omega
  rw[ab (by simp[this]),dp (λe=>hab (by rw[e]))]
theorem DX (a b:List Ex)(f:Ex×Ex×Unit->Option Bool)(hf:∀x∈a,∀y,f (x,y,())=some (decide (x=y)))(hab:a.length=b.length)(ha:a.length<=1048576):∀(k i:Nat),i<=a.length->a.length - i<k->br.l0 n b f a (a.length:Int) (λ_=>some true) k (i:Int)=some (decide (a.drop i=b.drop i))
 |0,i,_,hk=>bJ hk (Jx _)
 |k+1,i,hi,hk=>by
  by_cases h:i<a.length
  ·have h2:i<b.length:=by omega
   conv=>lhs;unfold br.l0
   rw[ab (jj h),ab (inl' h),ab (inl' h2),aN _ h,aN _ h2,hf _ (JB h),Jc,Jv h,Jv h2]
   by_cases e:a[i]=b[i]
   ·rw[ao (by simp[e]),ja (by omega),DX a b f hf hab ha k (i+1) (by omega) (by omega),dL,iN e,Kf]
   ·rw[ab (by simp[e]),dL,dp e,Li]
  ·conv=>lhs;unfold br.l0
   rw[ao (kl h),Jw (by omega),Jw (by omega)]
   rfl
theorem FI (hn:1100000<=n)(a b:List Ex)(f:Ex×Ex×Unit->Option Bool)(hf:∀x∈a,∀y,f (x,y,())=some (decide (x=y)))(ha:a.length<=1048576):br.F n a b f=some (decide (a=b)):=by
 unfold br.F
 by_cases hab:a.length=b.length
 ·rw[ao (by simp[hab])]
  have:=DX n a b f hf hab ha n 0 (JF _) (by omega);rw[show((0:Nat):Int)=0 from rfl,JN,JN]at this;exact this
 ·have:¬(a.length:Int)=(b.length:Int):=by omega
  rw[ab (by simp[this]),dp (λe=>hab (by rw[e]))]
theorem xM (x y:Ru):decide (x=y)=(decide (x.1=y.1)&&(decide (x.2.1=y.2.1)&&decide (x.2.2=y.2.2))):=by
 obtain⟨a,b,c⟩:=x;obtain⟨d,e,f⟩:=y
 by_cases h1:a=d<;>by_cases h2:b=e<;>by_cases h3:c=f<;>simp[h1,h2,h3]
theorem xN (hn:1100000<=n)(a b:Ru)(S:SmR a):ii.F n a b=some (decide (a=b)):=by
 unfold ii.F;rw[sM n hn _ _ (S.args _ JA),FH n hn _ _ _ (λx hx y=>by
  show((gT.F n x y).bind some)=_;rw[sM n hn x y (S.args _ (JE _ hx))]
  rfl) S.body,FI n hn _ _ _ (λx hx y=>by
  show((fE.F n x y).bind some)=_;rw[zx n hn x y (S.kids _ hx)]
  rfl) S.exps,xM]
 cases decide (a.1=b.1)<;>cases decide (a.2.1=b.2.1)<;>cases decide (a.2.2=b.2.2)<;>rfl
theorem ql (hn:1100000<=n)(a b:Ru)(S:SmR a)(hab:a.1.length=b.1.length)(K:Unit->Option Bool):∀(k i:Nat),i<=a.1.length->a.1.length - i<k->cD.l1 n a b K k (i:Int)=if a.1.drop i=b.1.drop i then K ()else some false
 |0,i,_,hk=>bJ hk (Jx _)
 |k+1,i,hi,hk=>by
  have hE:=S.exps
  by_cases h:i<a.1.length
  ·have h2:i<b.1.length:=by omega
   conv=>lhs;unfold cD.l1
   simp only[aN _ h,aN _ h2,ab (inl' h),ab (inl' h2)];rw[ab (jj h),qj n hn _ _ (S.kids _ (JB h)),Jc,ir,ja (by omega),ql hn a b S hab K k (i+1) (by omega) (by omega),Jv h,Jv h2];have e:=oR a.1[i] b.1[i];have hc:(a.1[i]::a.1.drop (i+1)=b.1[i]::b.1.drop (i+1))↔(a.1[i]=b.1[i]/\a.1.drop (i+1)=b.1.drop (i+1)):=sI
   by_cases c:a.1[i]=b.1[i]
   ·rw[iN c]at e
    have e':=e.symm;simp only[Jm,db]at e';rw[ab (by simp[e'.1]),ab (by simp[e'.2.1]),ao (by simp[e'.2.2])]
    by_cases d:a.1.drop (i+1)=b.1.drop (i+1)
    ·rw[ab d,ab (hc.2 ⟨c,d⟩)]
    ·rw[ao d,ao (λh=>d (hc.1 h).2)]
   ·rw[dp c]at e
    rw[ao (λh=>c (hc.1 h).1)]
    revert e
    cases decide ((a.1[i]).1=(b.1[i]).1)<;>cases decide ((a.1[i]).2.1=(b.1[i]).2.1)<;>cases decide ((a.1[i]).2.2=(b.1[i]).2.2)<;>intro e<;>first|rfl|(simp at e)
  ·conv=>lhs;unfold cD.l1
   rw[ao (kl h),Jw (by omega),Jw (by omega),ab rfl]
theorem qm (hn:1100000<=n)(a b:Ru)(S:SmR a)(hab:a.2.2.length=b.2.2.length)(K:Unit->Option Bool):∀(k i:Nat),i<=a.2.2.length->a.2.2.length - i<k->cD.l2 n a b K k (i:Int)=if a.2.2.drop i=b.2.2.drop i then K ()else some false
 |0,i,_,hk=>bJ hk (Jx _)
 |k+1,i,hi,hk=>by
  have hB:=S.body
  by_cases h:i<a.2.2.length
  ·have h2:i<b.2.2.length:=by omega
   conv=>lhs;unfold cD.l2
   rw[ab (jj h),ab (inl' h),ab (inl' h2),aN _ h,aN _ h2,sL n hn _ _ (S.args _ (JE _ (JB h))),Jc,ja (by omega),qm hn a b S hab K k (i+1) (by omega) (by omega),Jv h,Jv h2];have hc:(a.2.2[i]::a.2.2.drop (i+1)=b.2.2[i]::b.2.2.drop (i+1))↔(a.2.2[i]=b.2.2[i]/\a.2.2.drop (i+1)=b.2.2.drop (i+1)):=sI
   by_cases c:a.2.2[i]=b.2.2[i]
   ·rw[ao (by simp[c])]
    by_cases d:a.2.2.drop (i+1)=b.2.2.drop (i+1)
    ·rw[ab d,ab (hc.2 ⟨c,d⟩)]
    ·rw[ao d,ao (λh=>d (hc.1 h).2)]
   ·rw[ab (by simp[c]),ao (λh=>c (hc.1 h).1)]
  ·conv=>lhs;unfold cD.l2
   rw[ao (kl h),Jw (by omega),Jw (by omega),ab rfl]
theorem xO (hn:1100000<=n)(a b:Ru)(S:SmR a):cD.F n a b=some (decide (a=b)):=by
 have hE:=S.exps;have hB:=S.body;unfold cD.F;have hr:=xM a b
 by_cases h1:a.1.length=b.1.length
 ·rw[ab (by simp[h1])]
  by_cases h2:a.2.2.length=b.2.2.length
  ·rw[ab (by simp[h2]),sL n hn _ _ (S.args _ JA),Jc]
   by_cases c:a.2.1=b.2.1
   ·rw[ao (by simp[c])]
    unfold cD.j0;have e1:=λK=>ql n hn a b S h1 K n 0 (JF _) (by omega)
    have e2:=λK=>qm n hn a b S h2 K n 0 (JF _) (by omega)
    simp only[show((0:Nat):Int)=0 from rfl,JN]at e1 e2;rw[e1,e2,hr]
    by_cases d1:a.1=b.1<;>by_cases d2:a.2.2=b.2.2<;>simp[c,d1,d2]
   ·rw[ab (by simp[c]),hr]
    simp[c]
  ·have:¬(a.2.2.length:Int)=(b.2.2.length:Int):=by omega
   rw[ao (by simp[this]),dp (λe=>h2 (by rw[e]))]
 ·have:¬(a.1.length:Int)=(b.1.length:Int):=by omega
  rw[ao (by simp[this]),dp (λe=>h1 (by rw[e]))]
end
section
variable (n:Nat) (hn:1100000<=n)
theorem AP (l:List ByteArray)(s:ByteArray)(hl:l.length<=1048576):∀(k i:Nat),i<=l.length->l.length - i<k->bT.l0 n l s (l.length:Int) (λ_=>some (-1)) k (i:Int)=some (if sC (l.drop i) s=true then((i+FC (l.drop i) s:Nat):Int)else -1)
 |0,i,_,hk=>bJ hk (Jx _)
 |k+1,i,hi,hk=>by
  by_cases h:i<l.length
  ·conv=>lhs;unfold bT.l0
   rw[ab (jj h),ab (inl' h),aN _ h,ir,Jv h];unfold FC;rw[List.findIdx_cons]
   by_cases e:s=l[i]
   ·rw[ab (by simp[e]),ab (lM.2 (by rw[e];exact JA)),iN e.symm]
    rfl
   ·have e':¬l[i]=s:=λh=>e h.symm
    rw[ao (by simp[e]),ja (by omega),AP l s hl k (i+1) (by omega) (by omega),dp e']
    by_cases hm:sC (l.drop (i+1)) s=true
    ·rw[ab hm,ab (lM.2 (JE _ (lM.1 hm)))]
     simp only[cond_false];unfold FC
     congr 2
     omega
    ·rw[ao hm,ao (λh=>by
      rcases JJ.1 (lM.1 h)with h|h
      ·exact e h
      ·exact hm (lM.2 h))]
  ·conv=>lhs;unfold bT.l0
   rw[ao (kl h),Jw (by omega),ao (λh=>by cases lM.1 h)]
theorem DY (hn:1100000<=n)(l:List ByteArray)(s:ByteArray)(hl:l.length<=1048576):bT.F n l s=some (if sC l s=true then(FC l s:Int)else -1):=by
 unfold bT.F;have:=AP n l s hl n 0 (JF _) (by omega);rw[show((0:Nat):Int)=0 from rfl,JN,KT]at this;exact this
theorem xP (hn:1100000<=n)(l:List ByteArray)(s:ByteArray)(hl:l.length<=1048576):cU.F n l s=some (sC l s):=by
 unfold cU.F;rw[DY n hn l s hl,Jc]
 by_cases h:sC l s=true
 ·rw[ab h,h]
  simp
 ·rw[ao h,Bool.eq_false_iff.2 h]
  rfl
theorem sN (l:Ex)(h:l.2.2.length<=1048576):iL.F n l=some l:=by
 unfold iL.F;rw[ab (by simp[aU];omega),Kg]
theorem AQ (r:Ru)(S:SmR r)(t4:Ru)(x:Ex×List Ex)(K:Ru->Option Ru):∀(k i:Nat),i<=r.1.length->r.1.length - i<k->dU.l0 n r t4 K k (i:Int) (r.1.take i,x)=K (r.1,x)
 |0,i,_,hk=>bJ hk (Jx _)
 |k+1,i,hi,hk=>by
  have hE:=S.exps
  by_cases h:i<r.1.length
  ·have hke:=S.kids _ (JB h)
   have ih:=AQ r S t4 x K k (i+1) (by omega) (by omega);rw[Ju h]at ih
   conv=>lhs;unfold dU.l0
   simp only[aN _ h,Kg,ab (inl' h)];rw[ab (jj h),ab (by simp[aU];omega),ab (by simp[aU];omega),ja (by omega)];exact ih
  ·conv=>lhs;unfold dU.l0
   rw[ao (kl h),JI (by omega)]
theorem AR (r:Ru)(S:SmR r)(t9:Ru)(E:List Ex)(hd:Ex)(K:Ru->Option Ru):∀(k i:Nat),i<=r.2.2.length->r.2.2.length - i<k->dU.l1 n r t9 K k (i:Int) (E,(hd,r.2.2.take i))=K (E,(hd,r.2.2))
 |0,i,_,hk=>bJ hk (Jx _)
 |k+1,i,hi,hk=>by
  have hB:=S.body
  by_cases h:i<r.2.2.length
  ·have hke:=S.args _ (JE _ (JB h))
   have ih:=AR r S t9 E hd K k (i+1) (by omega) (by omega);rw[Ju h]at ih
   conv=>lhs;unfold dU.l1
   simp only[aN _ h,Kg,ab (inl' h)];rw[ab (jj h),ab (by simp[aU];omega),ab (by simp[aU];omega),ja (by omega)];exact ih
  ·conv=>lhs;unfold dU.l1
   rw[ao (kl h),JI (by omega)]
theorem FJ (hn:1100000<=n)(r:Ru)(S:SmR r):dU.F n r=some r:=by
 have hE:=S.exps;have hB:=S.body;have hh:=S.args _ (show r.2.1∈dQ r from JA);unfold dU.F;rw[ab (by simp[aU];omega),Kg];have e0:=λK=>AQ n r S ([],(ll,[])) (r.2.1,[]) K n 0 (JF _) (by omega)
 simp only[KD,show((0:Nat):Int)=0 from rfl]at e0;have e1:=λK=>AR n r S ([],(ll,[])) r.1 r.2.1 K n 0 (JF _) (by omega)
 simp only[KD,show((0:Nat):Int)=0 from rfl]at e1;refine(e0 _).trans ?_;refine(e1 _).trans ?_
 rfl
end
end Go.Abs
