/- What the laws' helpers answer. Conditions: none. -/
import Derived.Test.YtkelpajcfmghiaaGreatDoorF4
import Derived.Test.YtkelpajcfmghiaaGreatDoorPl
open Bool renaming false_eq_true → Jt,not_false → KJ,not_true → KF
open ByteArray renaming empty → Jd,size → Jf
open Go.Abs.Kd renaming bulk → Jr
open Go.IntKind renaming i64 → Jh
open Int renaming natCast_add → Lx,toNat_natCast → JD
open List renaming length → Je,length_append → Jk,length_cons → Jj,length_eq_zero_iff → Kb,length_singleton → Kc,map → KI,map_cons → Jy,sum_cons → JY
open Option renaming bind_some → Jc
set_option linter.unusedVariables false
set_option linter.unusedSimpArgs false
namespace Go.Abs
theorem uH {n:Nat}(hn:dh<=n)(a:WL)(hb:∀x,x∈a->Jr .str x<=2147483648)(hl:Je a<=2147483648){K0:Int->Option Int}(hK:∀x,∃r,K0 x=some r):∀(d k:Nat) (left i:Int),0<=i->(Je a:Int) - i=d->d<k->∃r,dE.l0 n a K0 k left i=some r:=by
 intro d
 induction d with
 |zero=>
  intro k left i h0 h1 hk;obtain⟨k,rfl⟩:∃m,k=m+1:=⟨k - 1,by omega⟩
  simp only[dE.l0,db];rw[ao (by omega)];exact hK _
 |succ d ih=>
  intro k left i h0 h1 hk;obtain⟨k,rfl⟩:∃m,k=m+1:=⟨k - 1,by omega⟩
  have hw:Jh.wrap (i+1)=i+1:=aJ _ (by omega) (by omega);have hx:=hb _ (getD_mem' a i Jd h0 (by omega));simp only[dE.l0,db,hw];rw[ab (by omega),ab ⟨h0,by omega⟩]
  repeat' first|exact⟨_,rfl⟩|exact ih _ _ _ (by omega) (by omega) (by omega)|split
theorem rF {n:Nat}(hn:dh<=n)(a:WL)(hb:Jr Qz a<=2147483648)(left:Int):∃r,dE.F n a left=some r:=by
 have hs:Jr Qz a=_:=cL (e:=.str) a;have hl:=cy (e:=.str) a;have hm:∀x,x∈a->Jr .str x<=2147483648:=λx hx=>by have:=dj (e:=.str) hx;omega
 unfold dE.F
 repeat' first|exact⟨_,rfl⟩|exact uH hn a hm (by omega) (λx=>⟨_,rfl⟩) (Je a) n _ 0 (by omega) (by omega) (by unfold dh at hn;omega)|split
theorem H6 {n:Nat}(hn:dh<=n)(a:WH)(hb:Jr Qw a<=2147483648)(left:Int):∃r,kV.F n a left=some r:=by
 unfold kV.F
 split
 ·exact⟨_,rfl⟩
 refine di (rF hn _ (by simp only[Jr]at hb⊢;omega) _) (λr=>?_)
 try dsimp only
 split
 ·exact⟨_,rfl⟩
 exact⟨_,rfl⟩
theorem Bi {n:Nat}(hn:dh<=n)(a:WE)(hb:∀x,x∈a->Jr Qw x<=2147483648)(hl:Je a<=2147483648){K0:Int->Option Int}(hK:∀x,∃r,K0 x=some r):∀(d k:Nat) (left i:Int),0<=i->(Je a:Int) - i=d->d<k->∃r,gJ.l0 n a K0 k left i=some r:=by
 intro d
 induction d with
 |zero=>
  intro k left i h0 h1 hk;obtain⟨k,rfl⟩:∃m,k=m+1:=⟨k - 1,by omega⟩
  simp only[gJ.l0,db];rw[ao (by omega)];exact hK _
 |succ d ih=>
  intro k left i h0 h1 hk;obtain⟨k,rfl⟩:∃m,k=m+1:=⟨k - 1,by omega⟩
  have hw:Jh.wrap (i+1)=i+1:=aJ _ (by omega) (by omega);have hx:=hb _ (getD_mem' a i (Jd,[]) h0 (by omega));simp only[gJ.l0,db,hw];rw[ab (by omega),ab ⟨h0,by omega⟩]
  repeat' first|exact⟨_,rfl⟩|exact ih _ _ _ (by omega) (by omega) (by omega)|split|refine di (H6 hn _ hx _) (λr=>?_)
theorem Ev {n:Nat}(hn:dh<=n)(a:WE)(hb:Jr Qv a<=2147483648)(left:Int):∃r,gJ.F n a left=some r:=by
 have hs:Jr Qv a=_:=cL (e:=Qw) a;have hl:=cy (e:=Qw) a;have hm:∀x,x∈a->Jr Qw x<=2147483648:=λx hx=>by have:=dj (e:=Qw) hx;omega
 unfold gJ.F
 repeat' first|exact⟨_,rfl⟩|exact Bi hn a hm (by omega) (λx=>⟨_,rfl⟩) (Je a) n _ 0 (by omega) (by omega) (by unfold dh at hn;omega)|split
theorem ww {n:Nat}(hn:dh<=n)(a:Ww)(hb:Jr Ql a<=2147483648)(left:Int):∃r,ia.F n a left=some r:=by
 unfold ia.F
 split
 ·exact⟨_,rfl⟩
 refine di (Ev hn _ (by simp only[Jr]at hb⊢;omega) _) (λr=>?_)
 try dsimp only
 split
 ·exact⟨_,rfl⟩
 exact⟨_,rfl⟩
theorem rG {n:Nat}(hn:dh<=n)(a:Wu)(hb:∀x,x∈a->Jr Ql x<=2147483648)(hl:Je a<=2147483648){K0:Int->Option Int}(hK:∀x,∃r,K0 x=some r):∀(d k:Nat) (left i:Int),0<=i->(Je a:Int) - i=d->d<k->∃r,dM.l0 n a K0 k left i=some r:=by
 intro d
 induction d with
 |zero=>
  intro k left i h0 h1 hk;obtain⟨k,rfl⟩:∃m,k=m+1:=⟨k - 1,by omega⟩
  simp only[dM.l0,db];rw[ao (by omega)];exact hK _
 |succ d ih=>
  intro k left i h0 h1 hk;obtain⟨k,rfl⟩:∃m,k=m+1:=⟨k - 1,by omega⟩
  have hw:Jh.wrap (i+1)=i+1:=aJ _ (by omega) (by omega);have hx:=hb _ (getD_mem' a i (Jd,[]) h0 (by omega));simp only[dM.l0,db,hw];rw[ab (by omega),ab ⟨h0,by omega⟩]
  repeat' first|exact⟨_,rfl⟩|exact ih _ _ _ (by omega) (by omega) (by omega)|split|refine di (ww hn _ hx _) (λr=>?_)
theorem uI {n:Nat}(hn:dh<=n)(a:Wu)(hb:Jr Qj a<=2147483648)(left:Int):∃r,dM.F n a left=some r:=by
 have hs:Jr Qj a=_:=cL (e:=Ql) a;have hl:=cy (e:=Ql) a;have hm:∀x,x∈a->Jr Ql x<=2147483648:=λx hx=>by have:=dj (e:=Ql) hx;omega
 unfold dM.F
 repeat' first|exact⟨_,rfl⟩|exact rG hn a hm (by omega) (λx=>⟨_,rfl⟩) (Je a) n _ 0 (by omega) (by omega) (by unfold dh at hn;omega)|split
theorem yJ {n:Nat}(hn:dh<=n)(a:WC)(hb:Jr Qq a<=2147483648)(left:Int):∃r,iI.F n a left=some r:=by
 unfold iI.F
 split
 ·exact⟨_,rfl⟩
 refine di (rF hn _ (by simp only[Jr]at hb⊢;omega) _) (λr=>?_)
 try dsimp only
 split
 ·exact⟨_,rfl⟩
 exact⟨_,rfl⟩
theorem sS {n:Nat}(hn:dh<=n)(a:Wy)(hb:∀x,x∈a->Jr Qq x<=2147483648)(hl:Je a<=2147483648){K0:Int->Option Int}(hK:∀x,∃r,K0 x=some r):∀(d k:Nat) (left i:Int),0<=i->(Je a:Int) - i=d->d<k->∃r,eb.l0 n a K0 k left i=some r:=by
 intro d
 induction d with
 |zero=>
  intro k left i h0 h1 hk;obtain⟨k,rfl⟩:∃m,k=m+1:=⟨k - 1,by omega⟩
  simp only[eb.l0,db];rw[ao (by omega)];exact hK _
 |succ d ih=>
  intro k left i h0 h1 hk;obtain⟨k,rfl⟩:∃m,k=m+1:=⟨k - 1,by omega⟩
  have hw:Jh.wrap (i+1)=i+1:=aJ _ (by omega) (by omega);have hx:=hb _ (getD_mem' a i (Jd,([],0)) h0 (by omega));simp only[eb.l0,db,hw];rw[ab (by omega),ab ⟨h0,by omega⟩]
  repeat' first|exact⟨_,rfl⟩|exact ih _ _ _ (by omega) (by omega) (by omega)|split|refine di (yJ hn _ hx _) (λr=>?_)
theorem wx {n:Nat}(hn:dh<=n)(a:Wy)(hb:Jr Qm a<=2147483648)(left:Int):∃r,eb.F n a left=some r:=by
 have hs:Jr Qm a=_:=cL (e:=Qq) a;have hl:=cy (e:=Qq) a;have hm:∀x,x∈a->Jr Qq x<=2147483648:=λx hx=>by have:=dj (e:=Qq) hx;omega
 unfold eb.F
 repeat' first|exact⟨_,rfl⟩|exact sS hn a hm (by omega) (λx=>⟨_,rfl⟩) (Je a) n _ 0 (by omega) (by omega) (by unfold dh at hn;omega)|split
theorem A5 {n:Nat}(hn:dh<=n)(a:WN)(hb:Jr Qy a<=2147483648)(left:Int):∃r,iC.F n a left=some r:=by
 unfold iC.F
 split
 ·exact⟨_,rfl⟩
 exact⟨_,rfl⟩
theorem H7 {n:Nat}(hn:dh<=n)(a:WG)(hb:Jr Qn a<=2147483648)(left:Int):∃r,kU.F n a left=some r:=by
 unfold kU.F
 split
 ·exact⟨_,rfl⟩
 refine di (A5 hn _ (by simp only[Jr]at hb⊢;omega) _) (λr=>?_)
 try dsimp only
 split
 ·exact⟨_,rfl⟩
 exact⟨_,rfl⟩
theorem Bj {n:Nat}(hn:dh<=n)(a:WD)(hb:∀x,x∈a->Jr Qn x<=2147483648)(hl:Je a<=2147483648){K0:Int->Option Int}(hK:∀x,∃r,K0 x=some r):∀(d k:Nat) (left i:Int),0<=i->(Je a:Int) - i=d->d<k->∃r,gD.l0 n a K0 k left i=some r:=by
 intro d
 induction d with
 |zero=>
  intro k left i h0 h1 hk;obtain⟨k,rfl⟩:∃m,k=m+1:=⟨k - 1,by omega⟩
  simp only[gD.l0,db];rw[ao (by omega)];exact hK _
 |succ d ih=>
  intro k left i h0 h1 hk;obtain⟨k,rfl⟩:∃m,k=m+1:=⟨k - 1,by omega⟩
  have hw:Jh.wrap (i+1)=i+1:=aJ _ (by omega) (by omega);have hx:=hb _ (getD_mem' a i (0,(Jd,[])) h0 (by omega));simp only[gD.l0,db,hw];rw[ab (by omega),ab ⟨h0,by omega⟩]
  repeat' first|exact⟨_,rfl⟩|exact ih _ _ _ (by omega) (by omega) (by omega)|split|refine di (H7 hn _ hx _) (λr=>?_)
theorem Ew {n:Nat}(hn:dh<=n)(a:WD)(hb:Jr Qk a<=2147483648)(left:Int):∃r,gD.F n a left=some r:=by
 have hs:Jr Qk a=_:=cL (e:=Qn) a;have hl:=cy (e:=Qn) a;have hm:∀x,x∈a->Jr Qn x<=2147483648:=λx hx=>by have:=dj (e:=Qn) hx;omega
 unfold gD.F
 repeat' first|exact⟨_,rfl⟩|exact Bj hn a hm (by omega) (λx=>⟨_,rfl⟩) (Je a) n _ 0 (by omega) (by omega) (by unfold dh at hn;omega)|split
theorem CA {n:Nat}(hn:dh<=n)(a:WG)(hb:Jr Qn a<=2147483648)(left:Int):∃r,jd.F n a left=some r:=by
 unfold jd.F
 split
 ·exact⟨_,rfl⟩
 refine di (A5 hn _ (by simp only[Jr]at hb⊢;omega) _) (λr=>?_)
 try dsimp only
 split
 ·exact⟨_,rfl⟩
 exact⟨_,rfl⟩
theorem Bk {n:Nat}(hn:dh<=n)(a:WD)(hb:∀x,x∈a->Jr Qn x<=2147483648)(hl:Je a<=2147483648){K0:Int->Option Int}(hK:∀x,∃r,K0 x=some r):∀(d k:Nat) (left i:Int),0<=i->(Je a:Int) - i=d->d<k->∃r,gz.l0 n a K0 k left i=some r:=by
 intro d
 induction d with
 |zero=>
  intro k left i h0 h1 hk;obtain⟨k,rfl⟩:∃m,k=m+1:=⟨k - 1,by omega⟩
  simp only[gz.l0,db];rw[ao (by omega)];exact hK _
 |succ d ih=>
  intro k left i h0 h1 hk;obtain⟨k,rfl⟩:∃m,k=m+1:=⟨k - 1,by omega⟩
  have hw:Jh.wrap (i+1)=i+1:=aJ _ (by omega) (by omega);have hx:=hb _ (getD_mem' a i (0,(Jd,[])) h0 (by omega));simp only[gz.l0,db,hw];rw[ab (by omega),ab ⟨h0,by omega⟩]
  repeat' first|exact⟨_,rfl⟩|exact ih _ _ _ (by omega) (by omega) (by omega)|split|refine di (CA hn _ hx _) (λr=>?_)
theorem Ey {n:Nat}(hn:dh<=n)(a:WD)(hb:Jr Qk a<=2147483648)(left:Int):∃r,gz.F n a left=some r:=by
 have hs:Jr Qk a=_:=cL (e:=Qn) a;have hl:=cy (e:=Qn) a;have hm:∀x,x∈a->Jr Qn x<=2147483648:=λx hx=>by have:=dj (e:=Qn) hx;omega
 unfold gz.F
 repeat' first|exact⟨_,rfl⟩|exact Bk hn a hm (by omega) (λx=>⟨_,rfl⟩) (Je a) n _ 0 (by omega) (by omega) (by unfold dh at hn;omega)|split
theorem Ez {n:Nat}(hn:dh<=n)(a:Wk)(hb:Jr Qf a<=2147483648)(left:Int):∃r,ki.F n a left=some r:=by
 unfold ki.F;refine di (Ew hn _ (by simp only[Jr]at hb⊢;omega) _) (λr=>?_)
 try dsimp only
 split
 ·exact⟨_,rfl⟩
 refine di (CA hn _ (by simp only[Jr]at hb⊢;omega) _) (λr=>?_)
 try dsimp only
 split
 ·exact⟨_,rfl⟩
 refine di (Ey hn _ (by simp only[Jr]at hb⊢;omega) _) (λr=>?_)
 try dsimp only
 split
 ·exact⟨_,rfl⟩
 exact⟨_,rfl⟩
theorem yK {n:Nat}(hn:dh<=n)(a:Wh)(hb:∀x,x∈a->Jr Qf x<=2147483648)(hl:Je a<=2147483648){K0:Int->Option Int}(hK:∀x,∃r,K0 x=some r):∀(d k:Nat) (left i:Int),0<=i->(Je a:Int) - i=d->d<k->∃r,fL.l0 n a K0 k left i=some r:=by
 intro d
 induction d with
 |zero=>
  intro k left i h0 h1 hk;obtain⟨k,rfl⟩:∃m,k=m+1:=⟨k - 1,by omega⟩
  simp only[fL.l0,db];rw[ao (by omega)];exact hK _
 |succ d ih=>
  intro k left i h0 h1 hk;obtain⟨k,rfl⟩:∃m,k=m+1:=⟨k - 1,by omega⟩
  have hw:Jh.wrap (i+1)=i+1:=aJ _ (by omega) (by omega);have hx:=hb _ (getD_mem' a i ([],((0,(Jd,[])),[])) h0 (by omega));simp only[fL.l0,db,hw];rw[ab (by omega),ab ⟨h0,by omega⟩]
  repeat' first|exact⟨_,rfl⟩|exact ih _ _ _ (by omega) (by omega) (by omega)|split|refine di (Ez hn _ hx _) (λr=>?_)
theorem CB {n:Nat}(hn:dh<=n)(a:Wh)(hb:Jr Qe a<=2147483648)(left:Int):∃r,fL.F n a left=some r:=by
 have hs:Jr Qe a=_:=cL (e:=Qf) a;have hl:=cy (e:=Qf) a;have hm:∀x,x∈a->Jr Qf x<=2147483648:=λx hx=>by have:=dj (e:=Qf) hx;omega
 unfold fL.F
 repeat' first|exact⟨_,rfl⟩|exact yK hn a hm (by omega) (λx=>⟨_,rfl⟩) (Je a) n _ 0 (by omega) (by omega) (by unfold dh at hn;omega)|split
theorem EA {n:Nat}(hn:dh<=n)(a:Wc)(hb:Jr Qc a<=2147483648)(left:Int):∃r,kj.F n a left=some r:=by
 unfold kj.F;refine di (uI hn _ (by simp only[Jr]at hb⊢;omega) _) (λr=>?_)
 try dsimp only
 split
 ·exact⟨_,rfl⟩
 refine di (wx hn _ (by simp only[Jr]at hb⊢;omega) _) (λr=>?_)
 try dsimp only
 split
 ·exact⟨_,rfl⟩
 refine di (CB hn _ (by simp only[Jr]at hb⊢;omega) _) (λr=>?_)
 try dsimp only
 split
 ·exact⟨_,rfl⟩
 exact⟨_,rfl⟩
theorem uJ {n:Nat}(hn:dh<=n)(a:WL)(hl:Je a<=2147483648)(hb:∀x,x∈a->Jr .str x<=2147483648){K0:WL->Option WL}:∀(post pre junk:WL) (k:Nat),a=pre++post->junk.length=post.length->post.length<k->dA.l0 n a K0 k (pre.length:Int) (pre++junk)=K0 a:=by
 intro post
 induction post with
 |nil=>
  intro pre junk k ha hj hk;obtain⟨k,rfl⟩:∃m,k=m+1:=⟨k - 1,by omega⟩
  obtain rfl:junk=[]:=Kb.1 hj;subst ha;simp only[dA.l0,db,eW,if_false]
 |cons x post ih=>
  intro pre junk k ha hj hk;obtain⟨k,rfl⟩:∃m,k=m+1:=⟨k - 1,by omega⟩
  match junk,hj with
  |y::junk,hj=>
   have hw:Jh.wrap ((pre.length:Int)+1)=((pre++[x]).length:Int):=by
    rw[aJ _ (by omega) (by rw[ha]at hl;simp at hl;omega)];simp
   have hx:=hb x (by rw[ha];simp);have:=ih (pre++[x]) junk k (by rw[ha];simp) (by simpa using hj) (by simpa using hk);subst ha;simp only[dA.l0,db,eV,eU,if_true,JD,cR,dP,hw,Jc];simpa using this
theorem rH {n:Nat}(hn:dh<=n)(a:WL)(hb:Jr Qz a<=2147483648):dA.F n a=some a:=by
 have hs:Jr Qz a=_:=cL (e:=.str) a;have hl:=cy (e:=.str) a;have hm:∀x,x∈a->Jr .str x<=2147483648:=λx hx=>by have:=dj (e:=.str) hx;omega
 unfold dA.F;rw[ab ⟨by omega,by omega,by unfold aU;omega⟩];exact uJ hn a (by omega) hm a [] _ n rfl (by simp) (by unfold dh at hn;omega)
theorem H8 {n:Nat}(hn:dh<=n)(a:WH)(hb:Jr Qw a<=2147483648):kW.F n a=some a:=by
 unfold kW.F;refine bP (rH hn _ (by simp only[Jr]at hb⊢;omega)) ?_
 rfl
theorem Bl {n:Nat}(hn:dh<=n)(a:WE)(hl:Je a<=2147483648)(hb:∀x,x∈a->Jr Qw x<=2147483648){K0:WE->Option WE}:∀(post pre junk:WE) (k:Nat),a=pre++post->junk.length=post.length->post.length<k->gA.l0 n a K0 k (pre.length:Int) (pre++junk)=K0 a:=by
 intro post
 induction post with
 |nil=>
  intro pre junk k ha hj hk;obtain⟨k,rfl⟩:∃m,k=m+1:=⟨k - 1,by omega⟩
  obtain rfl:junk=[]:=Kb.1 hj;subst ha;simp only[gA.l0,db,eW,if_false]
 |cons x post ih=>
  intro pre junk k ha hj hk;obtain⟨k,rfl⟩:∃m,k=m+1:=⟨k - 1,by omega⟩
  match junk,hj with
  |y::junk,hj=>
   have hw:Jh.wrap ((pre.length:Int)+1)=((pre++[x]).length:Int):=by
    rw[aJ _ (by omega) (by rw[ha]at hl;simp at hl;omega)];simp
   have hx:=hb x (by rw[ha];simp);have:=ih (pre++[x]) junk k (by rw[ha];simp) (by simpa using hj) (by simpa using hk);subst ha;simp only[gA.l0,db,eV,eU,if_true,JD,cR,dP,hw,H8 hn x hx,Jc];simpa using this
theorem EB {n:Nat}(hn:dh<=n)(a:WE)(hb:Jr Qv a<=2147483648):gA.F n a=some a:=by
 have hs:Jr Qv a=_:=cL (e:=Qw) a;have hl:=cy (e:=Qw) a;have hm:∀x,x∈a->Jr Qw x<=2147483648:=λx hx=>by have:=dj (e:=Qw) hx;omega
 unfold gA.F;rw[ab ⟨by omega,by omega,by unfold aU;omega⟩];exact Bl hn a (by omega) hm a [] _ n rfl (by simp) (by unfold dh at hn;omega)
theorem wy {n:Nat}(hn:dh<=n)(a:Ww)(hb:Jr Ql a<=2147483648):gY.F n a=some a:=by
 unfold gY.F;refine bP (EB hn _ (by simp only[Jr]at hb⊢;omega)) ?_
 rfl
theorem rI {n:Nat}(hn:dh<=n)(a:Wu)(hl:Je a<=2147483648)(hb:∀x,x∈a->Jr Ql x<=2147483648){K0:Wu->Option Wu}:∀(post pre junk:Wu) (k:Nat),a=pre++post->junk.length=post.length->post.length<k->dN.l0 n a K0 k (pre.length:Int) (pre++junk)=K0 a:=by
 intro post
 induction post with
 |nil=>
  intro pre junk k ha hj hk;obtain⟨k,rfl⟩:∃m,k=m+1:=⟨k - 1,by omega⟩
  obtain rfl:junk=[]:=Kb.1 hj;subst ha;simp only[dN.l0,db,eW,if_false]
 |cons x post ih=>
  intro pre junk k ha hj hk;obtain⟨k,rfl⟩:∃m,k=m+1:=⟨k - 1,by omega⟩
  match junk,hj with
  |y::junk,hj=>
   have hw:Jh.wrap ((pre.length:Int)+1)=((pre++[x]).length:Int):=by
    rw[aJ _ (by omega) (by rw[ha]at hl;simp at hl;omega)];simp
   have hx:=hb x (by rw[ha];simp);have:=ih (pre++[x]) junk k (by rw[ha];simp) (by simpa using hj) (by simpa using hk);subst ha;simp only[dN.l0,db,eV,eU,if_true,JD,cR,dP,hw,wy hn x hx,Jc];simpa using this
theorem uK {n:Nat}(hn:dh<=n)(a:Wu)(hb:Jr Qj a<=2147483648):dN.F n a=some a:=by
 have hs:Jr Qj a=_:=cL (e:=Ql) a;have hl:=cy (e:=Ql) a;have hm:∀x,x∈a->Jr Ql x<=2147483648:=λx hx=>by have:=dj (e:=Ql) hx;omega
 unfold dN.F;rw[ab ⟨by omega,by omega,by unfold aU;omega⟩];exact rI hn a (by omega) hm a [] _ n rfl (by simp) (by unfold dh at hn;omega)
theorem yL {n:Nat}(hn:dh<=n)(a:WC)(hb:Jr Qq a<=2147483648):iG.F n a=some a:=by
 unfold iG.F;refine bP (rH hn _ (by simp only[Jr]at hb⊢;omega)) ?_
 rfl
theorem sT {n:Nat}(hn:dh<=n)(a:Wy)(hl:Je a<=2147483648)(hb:∀x,x∈a->Jr Qq x<=2147483648){K0:Wy->Option Wy}:∀(post pre junk:Wy) (k:Nat),a=pre++post->junk.length=post.length->post.length<k->e8.l0 n a K0 k (pre.length:Int) (pre++junk)=K0 a:=by
 intro post
 induction post with
 |nil=>
  intro pre junk k ha hj hk;obtain⟨k,rfl⟩:∃m,k=m+1:=⟨k - 1,by omega⟩
  obtain rfl:junk=[]:=Kb.1 hj;subst ha;simp only[e8.l0,db,eW,if_false]
 |cons x post ih=>
  intro pre junk k ha hj hk;obtain⟨k,rfl⟩:∃m,k=m+1:=⟨k - 1,by omega⟩
  match junk,hj with
  |y::junk,hj=>
   have hw:Jh.wrap ((pre.length:Int)+1)=((pre++[x]).length:Int):=by
    rw[aJ _ (by omega) (by rw[ha]at hl;simp at hl;omega)];simp
   have hx:=hb x (by rw[ha];simp);have:=ih (pre++[x]) junk k (by rw[ha];simp) (by simpa using hj) (by simpa using hk);subst ha;simp only[e8.l0,db,eV,eU,if_true,JD,cR,dP,hw,yL hn x hx,Jc];simpa using this
theorem wz {n:Nat}(hn:dh<=n)(a:Wy)(hb:Jr Qm a<=2147483648):e8.F n a=some a:=by
 have hs:Jr Qm a=_:=cL (e:=Qq) a;have hl:=cy (e:=Qq) a;have hm:∀x,x∈a->Jr Qq x<=2147483648:=λx hx=>by have:=dj (e:=Qq) hx;omega
 unfold e8.F;rw[ab ⟨by omega,by omega,by unfold aU;omega⟩];exact sT hn a (by omega) hm a [] _ n rfl (by simp) (by unfold dh at hn;omega)
theorem Bm {n:Nat}(hn:dh<=n)(a:WN)(hl:Je a<=2147483648)(hb:∀x,x∈a->Jr (.int .i64) x<=2147483648){K0:WN->Option WN}:∀(post pre junk:WN) (k:Nat),a=pre++post->junk.length=post.length->post.length<k->fb.l0 n a K0 k (pre.length:Int) (pre++junk)=K0 a:=by
 intro post
 induction post with
 |nil=>
  intro pre junk k ha hj hk;obtain⟨k,rfl⟩:∃m,k=m+1:=⟨k - 1,by omega⟩
  obtain rfl:junk=[]:=Kb.1 hj;subst ha;simp only[fb.l0,db,eW,if_false]
 |cons x post ih=>
  intro pre junk k ha hj hk;obtain⟨k,rfl⟩:∃m,k=m+1:=⟨k - 1,by omega⟩
  match junk,hj with
  |y::junk,hj=>
   have hw:Jh.wrap ((pre.length:Int)+1)=((pre++[x]).length:Int):=by
    rw[aJ _ (by omega) (by rw[ha]at hl;simp at hl;omega)];simp
   have hx:=hb x (by rw[ha];simp);have:=ih (pre++[x]) junk k (by rw[ha];simp) (by simpa using hj) (by simpa using hk);subst ha;simp only[fb.l0,db,eV,eU,if_true,JD,cR,dP,hw,Jc];simpa using this
theorem A6 {n:Nat}(hn:dh<=n)(a:WN)(hb:Jr Qy a<=2147483648):fb.F n a=some a:=by
 have hs:Jr Qy a=_:=cL (e:=.int .i64) a;have hl:=cy (e:=.int .i64) a;have hm:∀x,x∈a->Jr (.int .i64) x<=2147483648:=λx hx=>by have:=dj (e:=.int .i64) hx;omega
 unfold fb.F;rw[ab ⟨by omega,by omega,by unfold aU;omega⟩];exact Bm hn a (by omega) hm a [] _ n rfl (by simp) (by unfold dh at hn;omega)
theorem H9 {n:Nat}(hn:dh<=n)(a:WG)(hb:Jr Qn a<=2147483648):kT.F n a=some a:=by
 unfold kT.F;refine bP (A6 hn _ (by simp only[Jr]at hb⊢;omega)) ?_
 rfl
theorem Bn {n:Nat}(hn:dh<=n)(a:WD)(hl:Je a<=2147483648)(hb:∀x,x∈a->Jr Qn x<=2147483648){K0:WD->Option WD}:∀(post pre junk:WD) (k:Nat),a=pre++post->junk.length=post.length->post.length<k->gL.l0 n a K0 k (pre.length:Int) (pre++junk)=K0 a:=by
 intro post
 induction post with
 |nil=>
  intro pre junk k ha hj hk;obtain⟨k,rfl⟩:∃m,k=m+1:=⟨k - 1,by omega⟩
  obtain rfl:junk=[]:=Kb.1 hj;subst ha;simp only[gL.l0,db,eW,if_false]
 |cons x post ih=>
  intro pre junk k ha hj hk;obtain⟨k,rfl⟩:∃m,k=m+1:=⟨k - 1,by omega⟩
  match junk,hj with
  |y::junk,hj=>
   have hw:Jh.wrap ((pre.length:Int)+1)=((pre++[x]).length:Int):=by
    rw[aJ _ (by omega) (by rw[ha]at hl;simp at hl;omega)];simp
   have hx:=hb x (by rw[ha];simp);have:=ih (pre++[x]) junk k (by rw[ha];simp) (by simpa using hj) (by simpa using hk);subst ha;simp only[gL.l0,db,eV,eU,if_true,JD,cR,dP,hw,H9 hn x hx,Jc];simpa using this
theorem EC {n:Nat}(hn:dh<=n)(a:WD)(hb:Jr Qk a<=2147483648):gL.F n a=some a:=by
 have hs:Jr Qk a=_:=cL (e:=Qn) a;have hl:=cy (e:=Qn) a;have hm:∀x,x∈a->Jr Qn x<=2147483648:=λx hx=>by have:=dj (e:=Qn) hx;omega
 unfold gL.F;rw[ab ⟨by omega,by omega,by unfold aU;omega⟩];exact Bn hn a (by omega) hm a [] _ n rfl (by simp) (by unfold dh at hn;omega)
theorem CC {n:Nat}(hn:dh<=n)(a:WG)(hb:Jr Qn a<=2147483648):jb.F n a=some a:=by
 unfold jb.F;refine bP (A6 hn _ (by simp only[Jr]at hb⊢;omega)) ?_
 rfl
theorem Bo {n:Nat}(hn:dh<=n)(a:WD)(hl:Je a<=2147483648)(hb:∀x,x∈a->Jr Qn x<=2147483648){K0:WD->Option WD}:∀(post pre junk:WD) (k:Nat),a=pre++post->junk.length=post.length->post.length<k->gH.l0 n a K0 k (pre.length:Int) (pre++junk)=K0 a:=by
 intro post
 induction post with
 |nil=>
  intro pre junk k ha hj hk;obtain⟨k,rfl⟩:∃m,k=m+1:=⟨k - 1,by omega⟩
  obtain rfl:junk=[]:=Kb.1 hj;subst ha;simp only[gH.l0,db,eW,if_false]
 |cons x post ih=>
  intro pre junk k ha hj hk;obtain⟨k,rfl⟩:∃m,k=m+1:=⟨k - 1,by omega⟩
  match junk,hj with
  |y::junk,hj=>
   have hw:Jh.wrap ((pre.length:Int)+1)=((pre++[x]).length:Int):=by
    rw[aJ _ (by omega) (by rw[ha]at hl;simp at hl;omega)];simp
   have hx:=hb x (by rw[ha];simp);have:=ih (pre++[x]) junk k (by rw[ha];simp) (by simpa using hj) (by simpa using hk);subst ha;simp only[gH.l0,db,eV,eU,if_true,JD,cR,dP,hw,CC hn x hx,Jc];simpa using this
theorem ED {n:Nat}(hn:dh<=n)(a:WD)(hb:Jr Qk a<=2147483648):gH.F n a=some a:=by
 have hs:Jr Qk a=_:=cL (e:=Qn) a;have hl:=cy (e:=Qn) a;have hm:∀x,x∈a->Jr Qn x<=2147483648:=λx hx=>by have:=dj (e:=Qn) hx;omega
 unfold gH.F;rw[ab ⟨by omega,by omega,by unfold aU;omega⟩];exact Bo hn a (by omega) hm a [] _ n rfl (by simp) (by unfold dh at hn;omega)
theorem EE {n:Nat}(hn:dh<=n)(a:Wk)(hb:Jr Qf a<=2147483648):kg.F n a=some a:=by
 unfold kg.F;refine bP (EC hn _ (by simp only[Jr]at hb⊢;omega)) ?_;refine bP (CC hn _ (by simp only[Jr]at hb⊢;omega)) ?_;refine bP (ED hn _ (by simp only[Jr]at hb⊢;omega)) ?_
 rfl
theorem yM {n:Nat}(hn:dh<=n)(a:Wh)(hl:Je a<=2147483648)(hb:∀x,x∈a->Jr Qf x<=2147483648){K0:Wh->Option Wh}:∀(post pre junk:Wh) (k:Nat),a=pre++post->junk.length=post.length->post.length<k->fM.l0 n a K0 k (pre.length:Int) (pre++junk)=K0 a:=by
 intro post
 induction post with
 |nil=>
  intro pre junk k ha hj hk;obtain⟨k,rfl⟩:∃m,k=m+1:=⟨k - 1,by omega⟩
  obtain rfl:junk=[]:=Kb.1 hj;subst ha;simp only[fM.l0,db,eW,if_false]
 |cons x post ih=>
  intro pre junk k ha hj hk;obtain⟨k,rfl⟩:∃m,k=m+1:=⟨k - 1,by omega⟩
  match junk,hj with
  |y::junk,hj=>
   have hw:Jh.wrap ((pre.length:Int)+1)=((pre++[x]).length:Int):=by
    rw[aJ _ (by omega) (by rw[ha]at hl;simp at hl;omega)];simp
   have hx:=hb x (by rw[ha];simp);have:=ih (pre++[x]) junk k (by rw[ha];simp) (by simpa using hj) (by simpa using hk);subst ha;simp only[fM.l0,db,eV,eU,if_true,JD,cR,dP,hw,EE hn x hx,Jc];simpa using this
theorem CD {n:Nat}(hn:dh<=n)(a:Wh)(hb:Jr Qe a<=2147483648):fM.F n a=some a:=by
 have hs:Jr Qe a=_:=cL (e:=Qf) a;have hl:=cy (e:=Qf) a;have hm:∀x,x∈a->Jr Qf x<=2147483648:=λx hx=>by have:=dj (e:=Qf) hx;omega
 unfold fM.F;rw[ab ⟨by omega,by omega,by unfold aU;omega⟩];exact yM hn a (by omega) hm a [] _ n rfl (by simp) (by unfold dh at hn;omega)
theorem qD {n:Nat}(hn:dh<=n)(a:Wc)(hb:Jr Qc a<=2147483648):gI.F n a=some a:=by
 unfold gI.F;refine bP (uK hn _ (by simp only[Jr]at hb⊢;omega)) ?_;refine bP (wz hn _ (by simp only[Jr]at hb⊢;omega)) ?_;refine bP (CD hn _ (by simp only[Jr]at hb⊢;omega)) ?_
 rfl
theorem uL {n:Nat}(hn:dh<=n)(a:WL)(hb:∀x,x∈a->Jr .str x<=2147483648)(hl:Je a<=2147483648){K0:Unit->Option Bool}:∀(d k:Nat) (i:Int),0<=i->(Je a:Int) - i=d->d<k->dB.l0 n a a K0 k i=K0 ():=by
 intro d
 induction d with
 |zero=>
  intro k i h0 h1 hk;obtain⟨k,rfl⟩:∃m,k=m+1:=⟨k - 1,by omega⟩
  simp only[dB.l0,db];rw[ao (by omega)]
 |succ d ih=>
  intro k i h0 h1 hk;obtain⟨k,rfl⟩:∃m,k=m+1:=⟨k - 1,by omega⟩
  have hw:Jh.wrap (i+1)=i+1:=aJ _ (by omega) (by omega);have hx:=hb _ (getD_mem' a i Jd h0 (by omega));simp only[dB.l0,db,hw];rw[ab (by omega),ab ⟨h0,by omega⟩,ab ⟨h0,by omega⟩];simp only[Jc,decide_true,KF,Jt,if_false,bp];exact ih _ _ (by omega) (by omega) (by omega)
theorem rJ {n:Nat}(hn:dh<=n)(a:WL)(hb:Jr Qz a<=2147483648):dB.F n a a=some true:=by
 have hs:Jr Qz a=_:=cL (e:=.str) a;have hl:=cy (e:=.str) a;have hm:∀x,x∈a->Jr .str x<=2147483648:=λx hx=>by have:=dj (e:=.str) hx;omega
 unfold dB.F;rw[ao (by simp)];exact uL hn a hm (by omega) (Je a) n 0 (by omega) (by omega) (by unfold dh at hn;omega)
theorem Ha {n:Nat}(hn:dh<=n)(a:WH)(hb:Jr Qw a<=2147483648):kR.F n a a=some true:=by
 unfold kR.F;rw[ao (by simp[bp])];refine bP (rJ hn _ (by simp only[Jr]at hb⊢;omega)) ?_
 try dsimp only
 rw[ao (by simp[bp])]
 all_goals rfl
theorem Bp {n:Nat}(hn:dh<=n)(a:WE)(hb:∀x,x∈a->Jr Qw x<=2147483648)(hl:Je a<=2147483648){K0:Unit->Option Bool}:∀(d k:Nat) (i:Int),0<=i->(Je a:Int) - i=d->d<k->gK.l0 n a a K0 k i=K0 ():=by
 intro d
 induction d with
 |zero=>
  intro k i h0 h1 hk;obtain⟨k,rfl⟩:∃m,k=m+1:=⟨k - 1,by omega⟩
  simp only[gK.l0,db];rw[ao (by omega)]
 |succ d ih=>
  intro k i h0 h1 hk;obtain⟨k,rfl⟩:∃m,k=m+1:=⟨k - 1,by omega⟩
  have hw:Jh.wrap (i+1)=i+1:=aJ _ (by omega) (by omega);have hx:=hb _ (getD_mem' a i (Jd,[]) h0 (by omega));simp only[gK.l0,db,hw];rw[ab (by omega),ab ⟨h0,by omega⟩,ab ⟨h0,by omega⟩];simp only[Ha hn _ hx,Jc,decide_true,KF,Jt,if_false,bp];exact ih _ _ (by omega) (by omega) (by omega)
theorem EF {n:Nat}(hn:dh<=n)(a:WE)(hb:Jr Qv a<=2147483648):gK.F n a a=some true:=by
 have hs:Jr Qv a=_:=cL (e:=Qw) a;have hl:=cy (e:=Qw) a;have hm:∀x,x∈a->Jr Qw x<=2147483648:=λx hx=>by have:=dj (e:=Qw) hx;omega
 unfold gK.F;rw[ao (by simp)];exact Bp hn a hm (by omega) (Je a) n 0 (by omega) (by omega) (by unfold dh at hn;omega)
theorem wA {n:Nat}(hn:dh<=n)(a:Ww)(hb:Jr Ql a<=2147483648):hJ.F n a a=some true:=by
 unfold hJ.F;rw[ao (by simp[bp])];refine bP (EF hn _ (by simp only[Jr]at hb⊢;omega)) ?_
 try dsimp only
 rw[ao (by simp[bp])]
 all_goals rfl
theorem rK {n:Nat}(hn:dh<=n)(a:Wu)(hb:∀x,x∈a->Jr Ql x<=2147483648)(hl:Je a<=2147483648){K0:Unit->Option Bool}:∀(d k:Nat) (i:Int),0<=i->(Je a:Int) - i=d->d<k->dO.l0 n a a K0 k i=K0 ():=by
 intro d
 induction d with
 |zero=>
  intro k i h0 h1 hk;obtain⟨k,rfl⟩:∃m,k=m+1:=⟨k - 1,by omega⟩
  simp only[dO.l0,db];rw[ao (by omega)]
 |succ d ih=>
  intro k i h0 h1 hk;obtain⟨k,rfl⟩:∃m,k=m+1:=⟨k - 1,by omega⟩
  have hw:Jh.wrap (i+1)=i+1:=aJ _ (by omega) (by omega);have hx:=hb _ (getD_mem' a i (Jd,[]) h0 (by omega));simp only[dO.l0,db,hw];rw[ab (by omega),ab ⟨h0,by omega⟩,ab ⟨h0,by omega⟩];simp only[wA hn _ hx,Jc,decide_true,KF,Jt,if_false,bp];exact ih _ _ (by omega) (by omega) (by omega)
theorem uM {n:Nat}(hn:dh<=n)(a:Wu)(hb:Jr Qj a<=2147483648):dO.F n a a=some true:=by
 have hs:Jr Qj a=_:=cL (e:=Ql) a;have hl:=cy (e:=Ql) a;have hm:∀x,x∈a->Jr Ql x<=2147483648:=λx hx=>by have:=dj (e:=Ql) hx;omega
 unfold dO.F;rw[ao (by simp)];exact rK hn a hm (by omega) (Je a) n 0 (by omega) (by omega) (by unfold dh at hn;omega)
theorem yN {n:Nat}(hn:dh<=n)(a:WC)(hb:Jr Qq a<=2147483648):iD.F n a a=some true:=by
 unfold iD.F;rw[ao (by simp[bp])];refine bP (rJ hn _ (by simp only[Jr]at hb⊢;omega)) ?_
 try dsimp only
 rw[ao (by simp[bp])];rw[ao (by simp[bp])]
 all_goals rfl
theorem sU {n:Nat}(hn:dh<=n)(a:Wy)(hb:∀x,x∈a->Jr Qq x<=2147483648)(hl:Je a<=2147483648){K0:Unit->Option Bool}:∀(d k:Nat) (i:Int),0<=i->(Je a:Int) - i=d->d<k->ec.l0 n a a K0 k i=K0 ():=by
 intro d
 induction d with
 |zero=>
  intro k i h0 h1 hk;obtain⟨k,rfl⟩:∃m,k=m+1:=⟨k - 1,by omega⟩
  simp only[ec.l0,db];rw[ao (by omega)]
 |succ d ih=>
  intro k i h0 h1 hk;obtain⟨k,rfl⟩:∃m,k=m+1:=⟨k - 1,by omega⟩
  have hw:Jh.wrap (i+1)=i+1:=aJ _ (by omega) (by omega);have hx:=hb _ (getD_mem' a i (Jd,([],0)) h0 (by omega));simp only[ec.l0,db,hw];rw[ab (by omega),ab ⟨h0,by omega⟩,ab ⟨h0,by omega⟩];simp only[yN hn _ hx,Jc,decide_true,KF,Jt,if_false,bp];exact ih _ _ (by omega) (by omega) (by omega)
theorem wB {n:Nat}(hn:dh<=n)(a:Wy)(hb:Jr Qm a<=2147483648):ec.F n a a=some true:=by
 have hs:Jr Qm a=_:=cL (e:=Qq) a;have hl:=cy (e:=Qq) a;have hm:∀x,x∈a->Jr Qq x<=2147483648:=λx hx=>by have:=dj (e:=Qq) hx;omega
 unfold ec.F;rw[ao (by simp)];exact sU hn a hm (by omega) (Je a) n 0 (by omega) (by omega) (by unfold dh at hn;omega)
theorem Bq {n:Nat}(hn:dh<=n)(a:WN)(hb:∀x,x∈a->Jr (.int .i64) x<=2147483648)(hl:Je a<=2147483648){K0:Unit->Option Bool}:∀(d k:Nat) (i:Int),0<=i->(Je a:Int) - i=d->d<k->eY.l0 n a a K0 k i=K0 ():=by
 intro d
 induction d with
 |zero=>
  intro k i h0 h1 hk;obtain⟨k,rfl⟩:∃m,k=m+1:=⟨k - 1,by omega⟩
  simp only[eY.l0,db];rw[ao (by omega)]
 |succ d ih=>
  intro k i h0 h1 hk;obtain⟨k,rfl⟩:∃m,k=m+1:=⟨k - 1,by omega⟩
  have hw:Jh.wrap (i+1)=i+1:=aJ _ (by omega) (by omega);have hx:=hb _ (getD_mem' a i 0 h0 (by omega));simp only[eY.l0,db,hw];rw[ab (by omega),ab ⟨h0,by omega⟩,ab ⟨h0,by omega⟩];simp only[Jc,decide_true,KF,Jt,if_false,bp];exact ih _ _ (by omega) (by omega) (by omega)
theorem A7 {n:Nat}(hn:dh<=n)(a:WN)(hb:Jr Qy a<=2147483648):eY.F n a a=some true:=by
 have hs:Jr Qy a=_:=cL (e:=.int .i64) a;have hl:=cy (e:=.int .i64) a;have hm:∀x,x∈a->Jr (.int .i64) x<=2147483648:=λx hx=>by have:=dj (e:=.int .i64) hx;omega
 unfold eY.F;rw[ao (by simp)];exact Bq hn a hm (by omega) (Je a) n 0 (by omega) (by omega) (by unfold dh at hn;omega)
theorem Hb {n:Nat}(hn:dh<=n)(a:WG)(hb:Jr Qn a<=2147483648):kS.F n a a=some true:=by
 unfold kS.F;rw[ao (by simp[bp])];rw[ao (by simp[bp])];refine bP (A7 hn _ (by simp only[Jr]at hb⊢;omega)) ?_
 try dsimp only
 rw[ao (by simp[bp])]
 all_goals rfl
theorem Br {n:Nat}(hn:dh<=n)(a:WD)(hb:∀x,x∈a->Jr Qn x<=2147483648)(hl:Je a<=2147483648){K0:Unit->Option Bool}:∀(d k:Nat) (i:Int),0<=i->(Je a:Int) - i=d->d<k->gB.l0 n a a K0 k i=K0 ():=by
 intro d
 induction d with
 |zero=>
  intro k i h0 h1 hk;obtain⟨k,rfl⟩:∃m,k=m+1:=⟨k - 1,by omega⟩
  simp only[gB.l0,db];rw[ao (by omega)]
 |succ d ih=>
  intro k i h0 h1 hk;obtain⟨k,rfl⟩:∃m,k=m+1:=⟨k - 1,by omega⟩
  have hw:Jh.wrap (i+1)=i+1:=aJ _ (by omega) (by omega);have hx:=hb _ (getD_mem' a i (0,(Jd,[])) h0 (by omega));simp only[gB.l0,db,hw];rw[ab (by omega),ab ⟨h0,by omega⟩,ab ⟨h0,by omega⟩];simp only[Hb hn _ hx,Jc,decide_true,KF,Jt,if_false,bp];exact ih _ _ (by omega) (by omega) (by omega)
theorem EG {n:Nat}(hn:dh<=n)(a:WD)(hb:Jr Qk a<=2147483648):gB.F n a a=some true:=by
 have hs:Jr Qk a=_:=cL (e:=Qn) a;have hl:=cy (e:=Qn) a;have hm:∀x,x∈a->Jr Qn x<=2147483648:=λx hx=>by have:=dj (e:=Qn) hx;omega
 unfold gB.F;rw[ao (by simp)];exact Br hn a hm (by omega) (Je a) n 0 (by omega) (by omega) (by unfold dh at hn;omega)
theorem CE {n:Nat}(hn:dh<=n)(a:WG)(hb:Jr Qn a<=2147483648):jc.F n a a=some true:=by
 unfold jc.F;rw[ao (by simp[bp])];rw[ao (by simp[bp])];refine bP (A7 hn _ (by simp only[Jr]at hb⊢;omega)) ?_
 try dsimp only
 rw[ao (by simp[bp])]
 all_goals rfl
theorem Bs {n:Nat}(hn:dh<=n)(a:WD)(hb:∀x,x∈a->Jr Qn x<=2147483648)(hl:Je a<=2147483648){K0:Unit->Option Bool}:∀(d k:Nat) (i:Int),0<=i->(Je a:Int) - i=d->d<k->gG.l0 n a a K0 k i=K0 ():=by
 intro d
 induction d with
 |zero=>
  intro k i h0 h1 hk;obtain⟨k,rfl⟩:∃m,k=m+1:=⟨k - 1,by omega⟩
  simp only[gG.l0,db];rw[ao (by omega)]
 |succ d ih=>
  intro k i h0 h1 hk;obtain⟨k,rfl⟩:∃m,k=m+1:=⟨k - 1,by omega⟩
  have hw:Jh.wrap (i+1)=i+1:=aJ _ (by omega) (by omega);have hx:=hb _ (getD_mem' a i (0,(Jd,[])) h0 (by omega));simp only[gG.l0,db,hw];rw[ab (by omega),ab ⟨h0,by omega⟩,ab ⟨h0,by omega⟩];simp only[CE hn _ hx,Jc,decide_true,KF,Jt,if_false,bp];exact ih _ _ (by omega) (by omega) (by omega)
theorem EH {n:Nat}(hn:dh<=n)(a:WD)(hb:Jr Qk a<=2147483648):gG.F n a a=some true:=by
 have hs:Jr Qk a=_:=cL (e:=Qn) a;have hl:=cy (e:=Qn) a;have hm:∀x,x∈a->Jr Qn x<=2147483648:=λx hx=>by have:=dj (e:=Qn) hx;omega
 unfold gG.F;rw[ao (by simp)];exact Bs hn a hm (by omega) (Je a) n 0 (by omega) (by omega) (by unfold dh at hn;omega)
theorem EI {n:Nat}(hn:dh<=n)(a:Wk)(hb:Jr Qf a<=2147483648):kh.F n a a=some true:=by
 unfold kh.F;refine bP (EG hn _ (by simp only[Jr]at hb⊢;omega)) ?_
 try dsimp only
 rw[ao (by simp[bp])];refine bP (CE hn _ (by simp only[Jr]at hb⊢;omega)) ?_
 try dsimp only
 rw[ao (by simp[bp])];refine bP (EH hn _ (by simp only[Jr]at hb⊢;omega)) ?_
 try dsimp only
 rw[ao (by simp[bp])]
 all_goals rfl
theorem yO {n:Nat}(hn:dh<=n)(a:Wh)(hb:∀x,x∈a->Jr Qf x<=2147483648)(hl:Je a<=2147483648){K0:Unit->Option Bool}:∀(d k:Nat) (i:Int),0<=i->(Je a:Int) - i=d->d<k->fO.l0 n a a K0 k i=K0 ():=by
 intro d
 induction d with
 |zero=>
  intro k i h0 h1 hk;obtain⟨k,rfl⟩:∃m,k=m+1:=⟨k - 1,by omega⟩
  simp only[fO.l0,db];rw[ao (by omega)]
 |succ d ih=>
  intro k i h0 h1 hk;obtain⟨k,rfl⟩:∃m,k=m+1:=⟨k - 1,by omega⟩
  have hw:Jh.wrap (i+1)=i+1:=aJ _ (by omega) (by omega);have hx:=hb _ (getD_mem' a i ([],((0,(Jd,[])),[])) h0 (by omega));simp only[fO.l0,db,hw];rw[ab (by omega),ab ⟨h0,by omega⟩,ab ⟨h0,by omega⟩];simp only[EI hn _ hx,Jc,decide_true,KF,Jt,if_false,bp];exact ih _ _ (by omega) (by omega) (by omega)
theorem CG {n:Nat}(hn:dh<=n)(a:Wh)(hb:Jr Qe a<=2147483648):fO.F n a a=some true:=by
 have hs:Jr Qe a=_:=cL (e:=Qf) a;have hl:=cy (e:=Qf) a;have hm:∀x,x∈a->Jr Qf x<=2147483648:=λx hx=>by have:=dj (e:=Qf) hx;omega
 unfold fO.F;rw[ao (by simp)];exact yO hn a hm (by omega) (Je a) n 0 (by omega) (by omega) (by unfold dh at hn;omega)
theorem qE {n:Nat}(hn:dh<=n)(a:Wc)(hb:Jr Qc a<=2147483648):gE.F n a a=some true:=by
 unfold gE.F;refine bP (uM hn _ (by simp only[Jr]at hb⊢;omega)) ?_
 try dsimp only
 rw[ao (by simp[bp])];refine bP (wB hn _ (by simp only[Jr]at hb⊢;omega)) ?_
 try dsimp only
 rw[ao (by simp[bp])];refine bP (CG hn _ (by simp only[Jr]at hb⊢;omega)) ?_
 try dsimp only
 rw[ao (by simp[bp])]
 all_goals rfl
def rL (n:Nat)(k:Int):ByteArray:=(aM.F n k).getD Jd
theorem FP (x:Int):Jf (qM [x])=1:=rfl
theorem wD {n:Nat}{K0:ByteArray->Option ByteArray}(hK:∀x:ByteArray,x.size<=64->∃r,K0 x=some r):∀(d k:Nat) (z:Int) (out:ByteArray),z<10 ^ d->z<=4294967296->d<k->out.size+d<=40->∃r,aM.l0 n K0 k z out=some r:=by
 intro d
 induction d with
 |zero=>
  intro k z out hz hz2 hk ho;obtain⟨k,rfl⟩:∃m,k=m+1:=⟨k - 1,by omega⟩
  simp only[aM.l0,db];rw[ao (by simp at hz;omega)];exact hK _ (by omega)
 |succ d ih=>
  intro k z out hz hz2 hk ho;obtain⟨k,rfl⟩:∃m,k=m+1:=⟨k - 1,by omega⟩
  simp only[aM.l0,db]
  split
  ·rename_i hp
   have hlt:z / 10<10 ^ d:=by rw[Int.pow_succ]at hz;omega
   have e1:Int.tdiv z 10=z / 10:=Int.tdiv_eq_ediv_of_nonneg (by omega);rw[ab (by rw[FP];unfold aU;omega),e1,aJ _ (by omega) (by omega)];exact ih k _ _ hlt (by omega) (by omega) (by rw[ByteArray.size_append,FP];omega)
  ·exact hK _ (by omega)
theorem nN {n:Nat}(hn:dh<=n)(k:Int)(hk:k<=4294967296):aM.F n k=some (rL n k):=by
 have:∃r,aM.F n k=some r:=by
  unfold aM.F
  split
  ·exact⟨_,rfl⟩
  ·exact wD (λx hx=>by rw[ab (by show 1+x.size<=aU;unfold aU;omega)];exact⟨_,rfl⟩) 10 n k _ (by omega) (by omega) (by unfold dh at hn;omega) (by show 0+10<=40;omega)
 obtain⟨r,hr⟩:=this;rw[rL,hr];rfl
theorem uN {n:Nat}(hn:dh<=n){K0:Int->WL->Option (Int×WL)}:∀(post pre:WL) (f:Nat) (k:Int),post.length<f->pre.length+post.length<=2147483648->(KI (Jr .str) post).sum<=2147483648->0<k->k+((KI (Jr .str) post).sum:Int)<=4294967296->
  ∃k1 out,dt.l0 n K0 f k (pre.length:Int) (pre++post)=K0 k1 (pre++out)/\k<=k1/\k1<=k+((KI (Jr .str) post).sum:Int)/\out.length=post.length/\
   ∀(pre2:WL) (g:Nat) (H0:Int->Option Int),pre2.length=pre.length->post.length<g->dr.l0 n (pre2++out) H0 g k (pre.length:Int)=H0 k1:=by
 intro post
 induction post with
 |nil=>
  intro pre f k hf hl hs h0 hk;obtain⟨f,rfl⟩:∃m,f=m+1:=⟨f - 1,by omega⟩
  refine⟨k,[],?_,by omega,by simp,rfl,λpre2 g H0 hp hg=>?_⟩
  ·simp only[dt.l0,db,eW,if_false]
  ·obtain⟨g,rfl⟩:∃m,g=m+1:=⟨g - 1,by omega⟩
   rw[← hp];simp only[dr.l0,db,eW,if_false]
 |cons x post ih=>
  intro pre f k hf hl hs h0 hk;simp only[Jj]at hf hl;simp only[Jy,JY,Lx]at hs hk⊢;obtain⟨f,rfl⟩:∃m,f=m+1:=⟨f - 1,by omega⟩
  have hw:Jh.wrap ((pre.length:Int)+1)=(pre.length:Int)+1:=aJ _ (by omega) (by omega);have hB:Jr .str x=(Jf x+1):=rfl;have hm1:=nN hn k (by omega);have hwk1:Jh.wrap (k+1)=k+1:=aJ _ (by omega) (by omega);obtain⟨k1,out,i1,i2,i3,i4,i5⟩:=ih (pre++[((rL n k):ByteArray)]) f (k+1) (by omega) (by simp;omega) (by omega) (by omega) (by omega);rw[Jk,Kc]at i1 i5;refine⟨k1,((rL n k):ByteArray)::out,?_,by omega,by omega,by simp[i4],λpre2 g H0 hp hg=>?_⟩
  ·simp only[dt.l0,db,eV,eU,if_true,JD,cR,dP,hw,hm1,hwk1,Jc]
   simpa using i1
  ·obtain⟨g,rfl⟩:∃m,g=m+1:=⟨g - 1,by omega⟩
   have i6:=i5 (pre2++[((rL n k):ByteArray)]) g H0 (by simp[hp]) (by simp only[Jj]at hg;omega);rw[← hp]at i6 hw⊢;simp only[dr.l0,db,eV,eU,if_true,JD,cR,dP,hw,hm1,hwk1,Jc,decide_true,KF,Jt,if_false,bp,beq_self_eq_true,KJ,nn,and_self];simpa using i6
theorem rM {n:Nat}(hn:dh<=n)(a:WL)(hb:Jr Qz a<=2147483648)(k:Int)(h0:0<k)(hk:k+(Jr Qz a:Int)<=4294967296):
  ∃k1 out,dt.F n a k=some (k1,out)/\k<=k1/\k1<=k+(Jr Qz a:Int)/\dr.F n out k=some k1:=by
 have hl0:=cy (e:=.str) a;have hl1:Jr Qz a=_:=cL (e:=.str) a;obtain⟨k1,out,i1,i2,i3,i4,i5⟩:=uN hn (K0:=λk a=>some (k,a)) a [] n k (by unfold dh at hn;omega) (by simp;omega) (by omega) h0 (by omega);exact⟨k1,out,i1,i2,by omega,i5 [] n _ rfl (by unfold dh at hn;omega)⟩
theorem Bt {n:Nat}(hn:dh<=n){K0:Int->WE->Option (Int×WE)}:∀(post pre:WE) (f:Nat) (k:Int),post.length<f->pre.length+post.length<=2147483648->(KI (Jr Qw) post).sum<=2147483648->0<k->k+((KI (Jr Qw) post).sum:Int)<=4294967296->
  ∃k1 out,ge.l0 n K0 f k (pre.length:Int) (pre++post)=K0 k1 (pre++out)/\k<=k1/\k1<=k+((KI (Jr Qw) post).sum:Int)/\out.length=post.length/\
   ∀(pre2:WE) (g:Nat) (H0:Int->Option Int),pre2.length=pre.length->post.length<g->fY.l0 n (pre2++out) H0 g k (pre.length:Int)=H0 k1:=by
 intro post
 induction post with
 |nil=>
  intro pre f k hf hl hs h0 hk;obtain⟨f,rfl⟩:∃m,f=m+1:=⟨f - 1,by omega⟩
  refine⟨k,[],?_,by omega,by simp,rfl,λpre2 g H0 hp hg=>?_⟩
  ·simp only[ge.l0,db,eW,if_false]
  ·obtain⟨g,rfl⟩:∃m,g=m+1:=⟨g - 1,by omega⟩
   rw[← hp];simp only[fY.l0,db,eW,if_false]
 |cons x post ih=>
  intro pre f k hf hl hs h0 hk;simp only[Jj]at hf hl;simp only[Jy,JY,Lx]at hs hk⊢;obtain⟨f,rfl⟩:∃m,f=m+1:=⟨f - 1,by omega⟩
  have hw:Jh.wrap ((pre.length:Int)+1)=(pre.length:Int)+1:=aJ _ (by omega) (by omega);have hB:Jr Qw x=((Jf x.1+1)+Jr Qz x.2):=rfl;have hm1:=nN hn k (by omega);have hwk1:Jh.wrap (k+1)=k+1:=aJ _ (by omega) (by omega);obtain⟨q2,y2,a2,b2,c2,d2⟩:=rM hn x.2 (by omega) (k+1) (by omega) (by omega);obtain⟨k1,out,i1,i2,i3,i4,i5⟩:=ih (pre++[(((rL n k,y2)):WH)]) f q2 (by omega) (by simp;omega) (by omega) (by omega) (by omega);rw[Jk,Kc]at i1 i5;refine⟨k1,(((rL n k,y2)):WH)::out,?_,by omega,by omega,by simp[i4],λpre2 g H0 hp hg=>?_⟩
  ·simp only[ge.l0,db,eV,eU,if_true,JD,cR,dP,hw,hm1,hwk1,Jc,a2]
   simpa using i1
  ·obtain⟨g,rfl⟩:∃m,g=m+1:=⟨g - 1,by omega⟩
   have i6:=i5 (pre2++[(((rL n k,y2)):WH)]) g H0 (by simp[hp]) (by simp only[Jj]at hg;omega);rw[← hp]at i6 hw⊢;simp only[fY.l0,db,eV,eU,if_true,JD,cR,dP,hw,hm1,hwk1,Jc,d2,decide_true,KF,Jt,if_false,bp,beq_self_eq_true,KJ,nn,and_self];rw[ao (by omega)];simpa using i6
theorem EJ {n:Nat}(hn:dh<=n)(a:WE)(hb:Jr Qv a<=2147483648)(k:Int)(h0:0<k)(hk:k+(Jr Qv a:Int)<=4294967296):
  ∃k1 out,ge.F n a k=some (k1,out)/\k<=k1/\k1<=k+(Jr Qv a:Int)/\fY.F n out k=some k1:=by
 have hl0:=cy (e:=Qw) a;have hl1:Jr Qv a=_:=cL (e:=Qw) a;obtain⟨k1,out,i1,i2,i3,i4,i5⟩:=Bt hn (K0:=λk a=>some (k,a)) a [] n k (by unfold dh at hn;omega) (by simp;omega) (by omega) h0 (by omega);exact⟨k1,out,i1,i2,by omega,i5 [] n _ rfl (by unfold dh at hn;omega)⟩
theorem rN {n:Nat}(hn:dh<=n){K0:Int->Wu->Option (Int×Wu)}:∀(post pre:Wu) (f:Nat) (k:Int),post.length<f->pre.length+post.length<=2147483648->(KI (Jr Ql) post).sum<=2147483648->0<k->k+((KI (Jr Ql) post).sum:Int)<=4294967296->
  ∃k1 out,dI.l0 n K0 f k (pre.length:Int) (pre++post)=K0 k1 (pre++out)/\k<=k1/\k1<=k+((KI (Jr Ql) post).sum:Int)/\out.length=post.length/\
   ∀(pre2:Wu) (g:Nat) (H0:Int->Option Int),pre2.length=pre.length->post.length<g->dJ.l0 n (pre2++out) H0 g k (pre.length:Int)=H0 k1:=by
 intro post
 induction post with
 |nil=>
  intro pre f k hf hl hs h0 hk;obtain⟨f,rfl⟩:∃m,f=m+1:=⟨f - 1,by omega⟩
  refine⟨k,[],?_,by omega,by simp,rfl,λpre2 g H0 hp hg=>?_⟩
  ·simp only[dI.l0,db,eW,if_false]
  ·obtain⟨g,rfl⟩:∃m,g=m+1:=⟨g - 1,by omega⟩
   rw[← hp];simp only[dJ.l0,db,eW,if_false]
 |cons x post ih=>
  intro pre f k hf hl hs h0 hk;simp only[Jj]at hf hl;simp only[Jy,JY,Lx]at hs hk⊢;obtain⟨f,rfl⟩:∃m,f=m+1:=⟨f - 1,by omega⟩
  have hw:Jh.wrap ((pre.length:Int)+1)=(pre.length:Int)+1:=aJ _ (by omega) (by omega);have hB:Jr Ql x=((Jf x.1+1)+Jr Qv x.2):=rfl;have hm1:=nN hn k (by omega);have hwk1:Jh.wrap (k+1)=k+1:=aJ _ (by omega) (by omega);obtain⟨q2,y2,a2,b2,c2,d2⟩:=EJ hn x.2 (by omega) (k+1) (by omega) (by omega);obtain⟨k1,out,i1,i2,i3,i4,i5⟩:=ih (pre++[(((rL n k,y2)):Ww)]) f q2 (by omega) (by simp;omega) (by omega) (by omega) (by omega);rw[Jk,Kc]at i1 i5;refine⟨k1,(((rL n k,y2)):Ww)::out,?_,by omega,by omega,by simp[i4],λpre2 g H0 hp hg=>?_⟩
  ·simp only[dI.l0,db,eV,eU,if_true,JD,cR,dP,hw,hm1,hwk1,Jc,a2]
   simpa using i1
  ·obtain⟨g,rfl⟩:∃m,g=m+1:=⟨g - 1,by omega⟩
   have i6:=i5 (pre2++[(((rL n k,y2)):Ww)]) g H0 (by simp[hp]) (by simp only[Jj]at hg;omega);rw[← hp]at i6 hw⊢;simp only[dJ.l0,db,eV,eU,if_true,JD,cR,dP,hw,hm1,hwk1,Jc,d2,decide_true,KF,Jt,if_false,bp,beq_self_eq_true,KJ,nn,and_self];rw[ao (by omega)];simpa using i6
theorem uO {n:Nat}(hn:dh<=n)(a:Wu)(hb:Jr Qj a<=2147483648)(k:Int)(h0:0<k)(hk:k+(Jr Qj a:Int)<=4294967296):
  ∃k1 out,dI.F n a k=some (k1,out)/\k<=k1/\k1<=k+(Jr Qj a:Int)/\dJ.F n out k=some k1:=by
 have hl0:=cy (e:=Ql) a;have hl1:Jr Qj a=_:=cL (e:=Ql) a;obtain⟨k1,out,i1,i2,i3,i4,i5⟩:=rN hn (K0:=λk a=>some (k,a)) a [] n k (by unfold dh at hn;omega) (by simp;omega) (by omega) h0 (by omega);exact⟨k1,out,i1,i2,by omega,i5 [] n _ rfl (by unfold dh at hn;omega)⟩
theorem sV {n:Nat}(hn:dh<=n){K0:Int->Wy->Option (Int×Wy)}:∀(post pre:Wy) (f:Nat) (k:Int),post.length<f->pre.length+post.length<=2147483648->(KI (Jr Qq) post).sum<=2147483648->0<k->k+((KI (Jr Qq) post).sum:Int)<=4294967296->
  ∃k1 out,dW.l0 n K0 f k (pre.length:Int) (pre++post)=K0 k1 (pre++out)/\k<=k1/\k1<=k+((KI (Jr Qq) post).sum:Int)/\out.length=post.length/\
   ∀(pre2:Wy) (g:Nat) (H0:Int->Option Int),pre2.length=pre.length->post.length<g->dZ.l0 n (pre2++out) H0 g k (pre.length:Int)=H0 k1:=by
 intro post
 induction post with
 |nil=>
  intro pre f k hf hl hs h0 hk;obtain⟨f,rfl⟩:∃m,f=m+1:=⟨f - 1,by omega⟩
  refine⟨k,[],?_,by omega,by simp,rfl,λpre2 g H0 hp hg=>?_⟩
  ·simp only[dW.l0,db,eW,if_false]
  ·obtain⟨g,rfl⟩:∃m,g=m+1:=⟨g - 1,by omega⟩
   rw[← hp];simp only[dZ.l0,db,eW,if_false]
 |cons x post ih=>
  intro pre f k hf hl hs h0 hk;simp only[Jj]at hf hl;simp only[Jy,JY,Lx]at hs hk⊢;obtain⟨f,rfl⟩:∃m,f=m+1:=⟨f - 1,by omega⟩
  have hw:Jh.wrap ((pre.length:Int)+1)=(pre.length:Int)+1:=aJ _ (by omega) (by omega);have hB:Jr Qq x=((Jf x.1+1)+(Jr Qz x.2.1+1)):=rfl;have hm1:=nN hn k (by omega);have hwk1:Jh.wrap (k+1)=k+1:=aJ _ (by omega) (by omega);obtain⟨q2,y2,a2,b2,c2,d2⟩:=rM hn x.2.1 (by omega) (k+1) (by omega) (by omega);have hwk2:Jh.wrap (q2+1)=q2+1:=aJ _ (by omega) (by omega);obtain⟨k1,out,i1,i2,i3,i4,i5⟩:=ih (pre++[(((rL n k,(y2,q2))):WC)]) f (q2+1) (by omega) (by simp;omega) (by omega) (by omega) (by omega);rw[Jk,Kc]at i1 i5;refine⟨k1,(((rL n k,(y2,q2))):WC)::out,?_,by omega,by omega,by simp[i4],λpre2 g H0 hp hg=>?_⟩
  ·simp only[dW.l0,db,eV,eU,if_true,JD,cR,dP,hw,hm1,hwk1,hwk2,Jc,a2]
   simpa using i1
  ·obtain⟨g,rfl⟩:∃m,g=m+1:=⟨g - 1,by omega⟩
   have i6:=i5 (pre2++[(((rL n k,(y2,q2))):WC)]) g H0 (by simp[hp]) (by simp only[Jj]at hg;omega);rw[← hp]at i6 hw⊢;simp only[dZ.l0,db,eV,eU,if_true,JD,cR,dP,hw,hm1,hwk1,hwk2,Jc,d2,decide_true,KF,Jt,if_false,bp,beq_self_eq_true,KJ,nn,and_self];rw[ao (by omega)];simpa using i6
theorem wE {n:Nat}(hn:dh<=n)(a:Wy)(hb:Jr Qm a<=2147483648)(k:Int)(h0:0<k)(hk:k+(Jr Qm a:Int)<=4294967296):
  ∃k1 out,dW.F n a k=some (k1,out)/\k<=k1/\k1<=k+(Jr Qm a:Int)/\dZ.F n out k=some k1:=by
 have hl0:=cy (e:=Qq) a;have hl1:Jr Qm a=_:=cL (e:=Qq) a;obtain⟨k1,out,i1,i2,i3,i4,i5⟩:=sV hn (K0:=λk a=>some (k,a)) a [] n k (by unfold dh at hn;omega) (by simp;omega) (by omega) h0 (by omega);exact⟨k1,out,i1,i2,by omega,i5 [] n _ rfl (by unfold dh at hn;omega)⟩
theorem Bu {n:Nat}(hn:dh<=n){K0:Int->WN->Option (Int×WN)}:∀(post pre:WN) (f:Nat) (k:Int),post.length<f->pre.length+post.length<=2147483648->(KI (Jr (.int .i64)) post).sum<=2147483648->0<k->k+((KI (Jr (.int .i64)) post).sum:Int)<=4294967296->
  ∃k1 out,dC.l0 n K0 f k (pre.length:Int) (pre++post)=K0 k1 (pre++out)/\k<=k1/\k1<=k+((KI (Jr (.int .i64)) post).sum:Int)/\out.length=post.length/\
   ∀(pre2:WN) (g:Nat) (H0:Int->Option Int),pre2.length=pre.length->post.length<g->dD.l0 n (pre2++out) H0 g k (pre.length:Int)=H0 k1:=by
 intro post
 induction post with
 |nil=>
  intro pre f k hf hl hs h0 hk;obtain⟨f,rfl⟩:∃m,f=m+1:=⟨f - 1,by omega⟩
  refine⟨k,[],?_,by omega,by simp,rfl,λpre2 g H0 hp hg=>?_⟩
  ·simp only[dC.l0,db,eW,if_false]
  ·obtain⟨g,rfl⟩:∃m,g=m+1:=⟨g - 1,by omega⟩
   rw[← hp];simp only[dD.l0,db,eW,if_false]
 |cons x post ih=>
  intro pre f k hf hl hs h0 hk;simp only[Jj]at hf hl;simp only[Jy,JY,Lx]at hs hk⊢;obtain⟨f,rfl⟩:∃m,f=m+1:=⟨f - 1,by omega⟩
  have hw:Jh.wrap ((pre.length:Int)+1)=(pre.length:Int)+1:=aJ _ (by omega) (by omega);have hB:Jr (.int .i64) x=1:=rfl;have hwk1:Jh.wrap (k+1)=k+1:=aJ _ (by omega) (by omega);obtain⟨k1,out,i1,i2,i3,i4,i5⟩:=ih (pre++[((k):Int)]) f (k+1) (by omega) (by simp;omega) (by omega) (by omega) (by omega);rw[Jk,Kc]at i1 i5;refine⟨k1,((k):Int)::out,?_,by omega,by omega,by simp[i4],λpre2 g H0 hp hg=>?_⟩
  ·simp only[dC.l0,db,eV,eU,if_true,JD,cR,dP,hw,hwk1,Jc]
   simpa using i1
  ·obtain⟨g,rfl⟩:∃m,g=m+1:=⟨g - 1,by omega⟩
   have i6:=i5 (pre2++[((k):Int)]) g H0 (by simp[hp]) (by simp only[Jj]at hg;omega);rw[← hp]at i6 hw⊢;simp only[dD.l0,db,eV,eU,if_true,JD,cR,dP,hw,hwk1,Jc,decide_true,KF,Jt,if_false,bp,beq_self_eq_true,KJ,nn,and_self];simpa using i6
theorem uQ {n:Nat}(hn:dh<=n)(a:WN)(hb:Jr Qy a<=2147483648)(k:Int)(h0:0<k)(hk:k+(Jr Qy a:Int)<=4294967296):
  ∃k1 out,dC.F n a k=some (k1,out)/\k<=k1/\k1<=k+(Jr Qy a:Int)/\dD.F n out k=some k1:=by
 have hl0:=cy (e:=.int .i64) a;have hl1:Jr Qy a=_:=cL (e:=.int .i64) a;obtain⟨k1,out,i1,i2,i3,i4,i5⟩:=Bu hn (K0:=λk a=>some (k,a)) a [] n k (by unfold dh at hn;omega) (by simp;omega) (by omega) h0 (by omega);exact⟨k1,out,i1,i2,by omega,i5 [] n _ rfl (by unfold dh at hn;omega)⟩
theorem Bv {n:Nat}(hn:dh<=n){K0:Int->WD->Option (Int×WD)}:∀(post pre:WD) (f:Nat) (k:Int),post.length<f->pre.length+post.length<=2147483648->(KI (Jr Qn) post).sum<=2147483648->0<k->k+((KI (Jr Qn) post).sum:Int)<=4294967296->
  ∃k1 out,gf.l0 n K0 f k (pre.length:Int) (pre++post)=K0 k1 (pre++out)/\k<=k1/\k1<=k+((KI (Jr Qn) post).sum:Int)/\out.length=post.length/\
   ∀(pre2:WD) (g:Nat) (H0:Int->Option Int),pre2.length=pre.length->post.length<g->fX.l0 n (pre2++out) H0 g k (pre.length:Int)=H0 k1:=by
 intro post
 induction post with
 |nil=>
  intro pre f k hf hl hs h0 hk;obtain⟨f,rfl⟩:∃m,f=m+1:=⟨f - 1,by omega⟩
  refine⟨k,[],?_,by omega,by simp,rfl,λpre2 g H0 hp hg=>?_⟩
  ·simp only[gf.l0,db,eW,if_false]
  ·obtain⟨g,rfl⟩:∃m,g=m+1:=⟨g - 1,by omega⟩
   rw[← hp];simp only[fX.l0,db,eW,if_false]
 |cons x post ih=>
  intro pre f k hf hl hs h0 hk;simp only[Jj]at hf hl;simp only[Jy,JY,Lx]at hs hk⊢;obtain⟨f,rfl⟩:∃m,f=m+1:=⟨f - 1,by omega⟩
  have hw:Jh.wrap ((pre.length:Int)+1)=(pre.length:Int)+1:=aJ _ (by omega) (by omega);have hB:Jr Qn x=(1+((Jf x.2.1+1)+Jr Qy x.2.2)):=rfl;have hwk1:Jh.wrap (k+1)=k+1:=aJ _ (by omega) (by omega);have hm1:=nN hn (k+1) (by omega);have hwk2:Jh.wrap (k+1+1)=k+1+1:=aJ _ (by omega) (by omega);obtain⟨q2,y2,a2,b2,c2,d2⟩:=uQ hn x.2.2 (by omega) (k+1+1) (by omega) (by omega);obtain⟨k1,out,i1,i2,i3,i4,i5⟩:=ih (pre++[(((k,(rL n (k+1),y2))):WG)]) f q2 (by omega) (by simp;omega) (by omega) (by omega) (by omega);rw[Jk,Kc]at i1 i5;refine⟨k1,(((k,(rL n (k+1),y2))):WG)::out,?_,by omega,by omega,by simp[i4],λpre2 g H0 hp hg=>?_⟩
  ·simp only[gf.l0,db,eV,eU,if_true,JD,cR,dP,hw,hwk1,hm1,hwk2,Jc,a2]
   simpa using i1
  ·obtain⟨g,rfl⟩:∃m,g=m+1:=⟨g - 1,by omega⟩
   have i6:=i5 (pre2++[(((k,(rL n (k+1),y2))):WG)]) g H0 (by simp[hp]) (by simp only[Jj]at hg;omega);rw[← hp]at i6 hw⊢;simp only[fX.l0,db,eV,eU,if_true,JD,cR,dP,hw,hwk1,hm1,hwk2,Jc,d2,decide_true,KF,Jt,if_false,bp,beq_self_eq_true,KJ,nn,and_self];rw[ao (by omega)];simpa using i6
theorem EK {n:Nat}(hn:dh<=n)(a:WD)(hb:Jr Qk a<=2147483648)(k:Int)(h0:0<k)(hk:k+(Jr Qk a:Int)<=4294967296):
  ∃k1 out,gf.F n a k=some (k1,out)/\k<=k1/\k1<=k+(Jr Qk a:Int)/\fX.F n out k=some k1:=by
 have hl0:=cy (e:=Qn) a;have hl1:Jr Qk a=_:=cL (e:=Qn) a;obtain⟨k1,out,i1,i2,i3,i4,i5⟩:=Bv hn (K0:=λk a=>some (k,a)) a [] n k (by unfold dh at hn;omega) (by simp;omega) (by omega) h0 (by omega);exact⟨k1,out,i1,i2,by omega,i5 [] n _ rfl (by unfold dh at hn;omega)⟩
theorem Bw {n:Nat}(hn:dh<=n){K0:Int->WD->Option (Int×WD)}:∀(post pre:WD) (f:Nat) (k:Int),post.length<f->pre.length+post.length<=2147483648->(KI (Jr Qn) post).sum<=2147483648->0<k->k+((KI (Jr Qn) post).sum:Int)<=4294967296->
  ∃k1 out,fZ.l0 n K0 f k (pre.length:Int) (pre++post)=K0 k1 (pre++out)/\k<=k1/\k1<=k+((KI (Jr Qn) post).sum:Int)/\out.length=post.length/\
   ∀(pre2:WD) (g:Nat) (H0:Int->Option Int),pre2.length=pre.length->post.length<g->gb.l0 n (pre2++out) H0 g k (pre.length:Int)=H0 k1:=by
 intro post
 induction post with
 |nil=>
  intro pre f k hf hl hs h0 hk;obtain⟨f,rfl⟩:∃m,f=m+1:=⟨f - 1,by omega⟩
  refine⟨k,[],?_,by omega,by simp,rfl,λpre2 g H0 hp hg=>?_⟩
  ·simp only[fZ.l0,db,eW,if_false]
  ·obtain⟨g,rfl⟩:∃m,g=m+1:=⟨g - 1,by omega⟩
   rw[← hp];simp only[gb.l0,db,eW,if_false]
 |cons x post ih=>
  intro pre f k hf hl hs h0 hk;simp only[Jj]at hf hl;simp only[Jy,JY,Lx]at hs hk⊢;obtain⟨f,rfl⟩:∃m,f=m+1:=⟨f - 1,by omega⟩
  have hw:Jh.wrap ((pre.length:Int)+1)=(pre.length:Int)+1:=aJ _ (by omega) (by omega);have hB:Jr Qn x=(1+((Jf x.2.1+1)+Jr Qy x.2.2)):=rfl;have hwk1:Jh.wrap (k+1)=k+1:=aJ _ (by omega) (by omega);have hm1:=nN hn (k+1) (by omega);have hwk2:Jh.wrap (k+1+1)=k+1+1:=aJ _ (by omega) (by omega);obtain⟨q2,y2,a2,b2,c2,d2⟩:=uQ hn x.2.2 (by omega) (k+1+1) (by omega) (by omega);obtain⟨k1,out,i1,i2,i3,i4,i5⟩:=ih (pre++[(((k,(rL n (k+1),y2))):WG)]) f q2 (by omega) (by simp;omega) (by omega) (by omega) (by omega);rw[Jk,Kc]at i1 i5;refine⟨k1,(((k,(rL n (k+1),y2))):WG)::out,?_,by omega,by omega,by simp[i4],λpre2 g H0 hp hg=>?_⟩
  ·simp only[fZ.l0,db,eV,eU,if_true,JD,cR,dP,hw,hwk1,hm1,hwk2,Jc,a2]
   simpa using i1
  ·obtain⟨g,rfl⟩:∃m,g=m+1:=⟨g - 1,by omega⟩
   have i6:=i5 (pre2++[(((k,(rL n (k+1),y2))):WG)]) g H0 (by simp[hp]) (by simp only[Jj]at hg;omega);rw[← hp]at i6 hw⊢;simp only[gb.l0,db,eV,eU,if_true,JD,cR,dP,hw,hwk1,hm1,hwk2,Jc,d2,decide_true,KF,Jt,if_false,bp,beq_self_eq_true,KJ,nn,and_self];rw[ao (by omega)];simpa using i6
theorem EL {n:Nat}(hn:dh<=n)(a:WD)(hb:Jr Qk a<=2147483648)(k:Int)(h0:0<k)(hk:k+(Jr Qk a:Int)<=4294967296):
  ∃k1 out,fZ.F n a k=some (k1,out)/\k<=k1/\k1<=k+(Jr Qk a:Int)/\gb.F n out k=some k1:=by
 have hl0:=cy (e:=Qn) a;have hl1:Jr Qk a=_:=cL (e:=Qn) a;obtain⟨k1,out,i1,i2,i3,i4,i5⟩:=Bw hn (K0:=λk a=>some (k,a)) a [] n k (by unfold dh at hn;omega) (by simp;omega) (by omega) h0 (by omega);exact⟨k1,out,i1,i2,by omega,i5 [] n _ rfl (by unfold dh at hn;omega)⟩
theorem yP {n:Nat}(hn:dh<=n){K0:Int->Wh->Option (Int×Wh)}:∀(post pre:Wh) (f:Nat) (k:Int),post.length<f->pre.length+post.length<=2147483648->(KI (Jr Qf) post).sum<=2147483648->0<k->k+((KI (Jr Qf) post).sum:Int)<=4294967296->
  ∃k1 out,fm.l0 n K0 f k (pre.length:Int) (pre++post)=K0 k1 (pre++out)/\k<=k1/\k1<=k+((KI (Jr Qf) post).sum:Int)/\out.length=post.length/\
   ∀(pre2:Wh) (g:Nat) (H0:Int->Option Int),pre2.length=pre.length->post.length<g->fo.l0 n (pre2++out) H0 g k (pre.length:Int)=H0 k1:=by
 intro post
 induction post with
 |nil=>
  intro pre f k hf hl hs h0 hk;obtain⟨f,rfl⟩:∃m,f=m+1:=⟨f - 1,by omega⟩
  refine⟨k,[],?_,by omega,by simp,rfl,λpre2 g H0 hp hg=>?_⟩
  ·simp only[fm.l0,db,eW,if_false]
  ·obtain⟨g,rfl⟩:∃m,g=m+1:=⟨g - 1,by omega⟩
   rw[← hp];simp only[fo.l0,db,eW,if_false]
 |cons x post ih=>
  intro pre f k hf hl hs h0 hk;simp only[Jj]at hf hl;simp only[Jy,JY,Lx]at hs hk⊢;obtain⟨f,rfl⟩:∃m,f=m+1:=⟨f - 1,by omega⟩
  have hw:Jh.wrap ((pre.length:Int)+1)=(pre.length:Int)+1:=aJ _ (by omega) (by omega);have hB:Jr Qf x=(Jr Qk x.1+((1+((Jf x.2.1.2.1+1)+Jr Qy x.2.1.2.2))+Jr Qk x.2.2)):=rfl;obtain⟨q1,y1,a1,b1,c1,d1⟩:=EK hn x.1 (by omega) k (by omega) (by omega);have hwk1:Jh.wrap (q1+1)=q1+1:=aJ _ (by omega) (by omega);have hm2:=nN hn (q1+1) (by omega);have hwk2:Jh.wrap (q1+1+1)=q1+1+1:=aJ _ (by omega) (by omega);obtain⟨q3,y3,a3,b3,c3,d3⟩:=uQ hn x.2.1.2.2 (by omega) (q1+1+1) (by omega) (by omega);obtain⟨q4,y4,a4,b4,c4,d4⟩:=EL hn x.2.2 (by omega) q3 (by omega) (by omega);obtain⟨k1,out,i1,i2,i3,i4,i5⟩:=ih (pre++[(((y1,((q1,(rL n (q1+1),y3)),y4))):Wk)]) f q4 (by omega) (by simp;omega) (by omega) (by omega) (by omega);rw[Jk,Kc]at i1 i5;refine⟨k1,(((y1,((q1,(rL n (q1+1),y3)),y4))):Wk)::out,?_,by omega,by omega,by simp[i4],λpre2 g H0 hp hg=>?_⟩
  ·simp only[fm.l0,db,eV,eU,if_true,JD,cR,dP,hw,hwk1,hm2,hwk2,Jc,a1,a3,a4]
   simpa using i1
  ·obtain⟨g,rfl⟩:∃m,g=m+1:=⟨g - 1,by omega⟩
   have i6:=i5 (pre2++[(((y1,((q1,(rL n (q1+1),y3)),y4))):Wk)]) g H0 (by simp[hp]) (by simp only[Jj]at hg;omega);rw[← hp]at i6 hw⊢;simp only[fo.l0,db,eV,eU,if_true,JD,cR,dP,hw,hwk1,hm2,hwk2,Jc,d1,d3,d4,decide_true,KF,Jt,if_false,bp,beq_self_eq_true,KJ,nn,and_self];rw[ao (by omega),ao (by omega),ao (by omega)];simpa using i6
theorem CH {n:Nat}(hn:dh<=n)(a:Wh)(hb:Jr Qe a<=2147483648)(k:Int)(h0:0<k)(hk:k+(Jr Qe a:Int)<=4294967296):
  ∃k1 out,fm.F n a k=some (k1,out)/\k<=k1/\k1<=k+(Jr Qe a:Int)/\fo.F n out k=some k1:=by
 have hl0:=cy (e:=Qf) a;have hl1:Jr Qe a=_:=cL (e:=Qf) a;obtain⟨k1,out,i1,i2,i3,i4,i5⟩:=yP hn (K0:=λk a=>some (k,a)) a [] n k (by unfold dh at hn;omega) (by simp;omega) (by omega) h0 (by omega);exact⟨k1,out,i1,i2,by omega,i5 [] n _ rfl (by unfold dh at hn;omega)⟩
theorem A8 {n:Nat}(hn:dh<=n)(a:Wc)(hb:Jr Qc a<=2147483648)(k:Int)(h0:0<k)(hk:k+(Jr Qc a:Int)<=4294967296):
  ∃k1 out,ie.F n a k=some (k1,out)/\k<=k1/\k1<=k+(Jr Qc a:Int)/\ic.F n out k=some k1:=by
 have hB:Jr Qc a=(Jr Qj a.1+(Jr Qm a.2.1+Jr Qe a.2.2)):=rfl;obtain⟨q1,y1,a1,b1,c1,d1⟩:=uO hn a.1 (by omega) k (by omega) (by omega);obtain⟨q2,y2,a2,b2,c2,d2⟩:=wE hn a.2.1 (by omega) q1 (by omega) (by omega);obtain⟨q3,y3,a3,b3,c3,d3⟩:=CH hn a.2.2 (by omega) q2 (by omega) (by omega);refine⟨((q3,(y1,(y2,y3)))).1,((q3,(y1,(y2,y3)))).2,?_,?_,?_,?_⟩
 ·unfold ie.F
  exact bP a1 (bP a2 (bP a3 (rfl)))
 ·show k<=q3
  omega
 ·show q3<=_
  omega
 ·unfold ic.F
  refine bP d1 ?_
  try dsimp only
  rw[ao (by simp only[db];omega)];refine bP d2 ?_
  try dsimp only
  rw[ao (by simp only[db];omega)];refine bP d3 ?_
  try dsimp only
  rw[ao (by simp only[db];omega)]
  all_goals rfl
end Go.Abs
