/- What the laws' helpers answer. Conditions: none. -/
import Derived.Test.YtkelpajcfmghiaaGreatDoorF4
import Derived.Test.YtkelpajcfmghiaaGreatDoorPl
open Bool renaming false_eq_true → JI,not_false → K8,not_true → KU
open ByteArray renaming empty → Jq,size → Js
open Go.Abs.Kd renaming bulk → JE
open Go.IntKind renaming i64 → Ju
open Int renaming natCast_add → LL,toNat_natCast → JS
open List renaming length → Jr,length_append → Jx,length_cons → Jw,length_eq_zero_iff → Kv,length_singleton → Kw,map → KZ,map_cons → JM,sum_cons → Ko
open Option renaming bind_some → Jp
set_option linter.unusedVariables false
set_option linter.unusedSimpArgs false
namespace Go.Abs
theorem vg {n:Nat}(hn:cZ<=n)(a:WL)(hb:∀x,x∈a->JE .str x<=2147483648)(hl:Jr a<=2147483648){K0:Int->Option Int}(hK:∀x,∃r,K0 x=some r):∀(d k:Nat) (left i:Int),0<=i->(Jr a:Int) - i=d->d<k->∃r,dF.l0 n a K0 k left i=some r:=by
 intro d
 induction d with
 |zero=>
  intro k left i h0 h1 hk;obtain⟨k,rfl⟩:∃m,k=m+1:=⟨k - 1,by omega⟩
  simp only[dF.l0,dg];rw[ao (by omega)];exact hK _
 |succ d ih=>
  intro k left i h0 h1 hk;obtain⟨k,rfl⟩:∃m,k=m+1:=⟨k - 1,by omega⟩
  have hw:Ju.wrap (i+1)=i+1:=aK _ (by omega) (by omega);have hx:=hb _ (getD_mem' a i Jq h0 (by omega));simp only[dF.l0,dg,hw];rw[ab (by omega),ab ⟨h0,by omega⟩]
  repeat' first|exact⟨_,rfl⟩|exact ih _ _ _ (by omega) (by omega) (by omega)|split
theorem rS {n:Nat}(hn:cZ<=n)(a:WL)(hb:JE Qz a<=2147483648)(left:Int):∃r,dF.F n a left=some r:=by
 have hs:JE Qz a=_:=cM (e:=.str) a;have hl:=cy (e:=.str) a;have hm:∀x,x∈a->JE .str x<=2147483648:=λx hx=>by have:=dk (e:=.str) hx;omega
 unfold dF.F
 repeat' first|exact⟨_,rfl⟩|exact vg hn a hm (by omega) (λx=>⟨_,rfl⟩) (Jr a) n _ 0 (by omega) (by omega) (by unfold cZ at hn;omega)|split
theorem Hq {n:Nat}(hn:cZ<=n)(a:WH)(hb:JE Qw a<=2147483648)(left:Int):∃r,kZ.F n a left=some r:=by
 unfold kZ.F
 split
 ·exact⟨_,rfl⟩
 refine dj (rS hn _ (by simp only[JE]at hb⊢;omega) _) (λr=>?_)
 try dsimp only
 split
 ·exact⟨_,rfl⟩
 exact⟨_,rfl⟩
theorem BJ {n:Nat}(hn:cZ<=n)(a:WE)(hb:∀x,x∈a->JE Qw x<=2147483648)(hl:Jr a<=2147483648){K0:Int->Option Int}(hK:∀x,∃r,K0 x=some r):∀(d k:Nat) (left i:Int),0<=i->(Jr a:Int) - i=d->d<k->∃r,gN.l0 n a K0 k left i=some r:=by
 intro d
 induction d with
 |zero=>
  intro k left i h0 h1 hk;obtain⟨k,rfl⟩:∃m,k=m+1:=⟨k - 1,by omega⟩
  simp only[gN.l0,dg];rw[ao (by omega)];exact hK _
 |succ d ih=>
  intro k left i h0 h1 hk;obtain⟨k,rfl⟩:∃m,k=m+1:=⟨k - 1,by omega⟩
  have hw:Ju.wrap (i+1)=i+1:=aK _ (by omega) (by omega);have hx:=hb _ (getD_mem' a i (Jq,[]) h0 (by omega));simp only[gN.l0,dg,hw];rw[ab (by omega),ab ⟨h0,by omega⟩]
  repeat' first|exact⟨_,rfl⟩|exact ih _ _ _ (by omega) (by omega) (by omega)|split|refine dj (Hq hn _ hx _) (λr=>?_)
theorem F7 {n:Nat}(hn:cZ<=n)(a:WE)(hb:JE Qv a<=2147483648)(left:Int):∃r,gN.F n a left=some r:=by
 have hs:JE Qv a=_:=cM (e:=Qw) a;have hl:=cy (e:=Qw) a;have hm:∀x,x∈a->JE Qw x<=2147483648:=λx hx=>by have:=dk (e:=Qw) hx;omega
 unfold gN.F
 repeat' first|exact⟨_,rfl⟩|exact BJ hn a hm (by omega) (λx=>⟨_,rfl⟩) (Jr a) n _ 0 (by omega) (by omega) (by unfold cZ at hn;omega)|split
theorem wZ {n:Nat}(hn:cZ<=n)(a:Ww)(hb:JE Ql a<=2147483648)(left:Int):∃r,ib.F n a left=some r:=by
 unfold ib.F
 split
 ·exact⟨_,rfl⟩
 refine dj (F7 hn _ (by simp only[JE]at hb⊢;omega) _) (λr=>?_)
 try dsimp only
 split
 ·exact⟨_,rfl⟩
 exact⟨_,rfl⟩
theorem rT {n:Nat}(hn:cZ<=n)(a:Wu)(hb:∀x,x∈a->JE Ql x<=2147483648)(hl:Jr a<=2147483648){K0:Int->Option Int}(hK:∀x,∃r,K0 x=some r):∀(d k:Nat) (left i:Int),0<=i->(Jr a:Int) - i=d->d<k->∃r,dT.l0 n a K0 k left i=some r:=by
 intro d
 induction d with
 |zero=>
  intro k left i h0 h1 hk;obtain⟨k,rfl⟩:∃m,k=m+1:=⟨k - 1,by omega⟩
  simp only[dT.l0,dg];rw[ao (by omega)];exact hK _
 |succ d ih=>
  intro k left i h0 h1 hk;obtain⟨k,rfl⟩:∃m,k=m+1:=⟨k - 1,by omega⟩
  have hw:Ju.wrap (i+1)=i+1:=aK _ (by omega) (by omega);have hx:=hb _ (getD_mem' a i (Jq,[]) h0 (by omega));simp only[dT.l0,dg,hw];rw[ab (by omega),ab ⟨h0,by omega⟩]
  repeat' first|exact⟨_,rfl⟩|exact ih _ _ _ (by omega) (by omega) (by omega)|split|refine dj (wZ hn _ hx _) (λr=>?_)
theorem vh {n:Nat}(hn:cZ<=n)(a:Wu)(hb:JE Qj a<=2147483648)(left:Int):∃r,dT.F n a left=some r:=by
 have hs:JE Qj a=_:=cM (e:=Ql) a;have hl:=cy (e:=Ql) a;have hm:∀x,x∈a->JE Ql x<=2147483648:=λx hx=>by have:=dk (e:=Ql) hx;omega
 unfold dT.F
 repeat' first|exact⟨_,rfl⟩|exact rT hn a hm (by omega) (λx=>⟨_,rfl⟩) (Jr a) n _ 0 (by omega) (by omega) (by unfold cZ at hn;omega)|split
theorem zg {n:Nat}(hn:cZ<=n)(a:WC)(hb:JE Qq a<=2147483648)(left:Int):∃r,iE.F n a left=some r:=by
 unfold iE.F
 split
 ·exact⟨_,rfl⟩
 refine dj (rS hn _ (by simp only[JE]at hb⊢;omega) _) (λr=>?_)
 try dsimp only
 split
 ·exact⟨_,rfl⟩
 exact⟨_,rfl⟩
theorem tl {n:Nat}(hn:cZ<=n)(a:Wy)(hb:∀x,x∈a->JE Qq x<=2147483648)(hl:Jr a<=2147483648){K0:Int->Option Int}(hK:∀x,∃r,K0 x=some r):∀(d k:Nat) (left i:Int),0<=i->(Jr a:Int) - i=d->d<k->∃r,eh.l0 n a K0 k left i=some r:=by
 intro d
 induction d with
 |zero=>
  intro k left i h0 h1 hk;obtain⟨k,rfl⟩:∃m,k=m+1:=⟨k - 1,by omega⟩
  simp only[eh.l0,dg];rw[ao (by omega)];exact hK _
 |succ d ih=>
  intro k left i h0 h1 hk;obtain⟨k,rfl⟩:∃m,k=m+1:=⟨k - 1,by omega⟩
  have hw:Ju.wrap (i+1)=i+1:=aK _ (by omega) (by omega);have hx:=hb _ (getD_mem' a i (Jq,([],0)) h0 (by omega));simp only[eh.l0,dg,hw];rw[ab (by omega),ab ⟨h0,by omega⟩]
  repeat' first|exact⟨_,rfl⟩|exact ih _ _ _ (by omega) (by omega) (by omega)|split|refine dj (zg hn _ hx _) (λr=>?_)
theorem x4 {n:Nat}(hn:cZ<=n)(a:Wy)(hb:JE Qm a<=2147483648)(left:Int):∃r,eh.F n a left=some r:=by
 have hs:JE Qm a=_:=cM (e:=Qq) a;have hl:=cy (e:=Qq) a;have hm:∀x,x∈a->JE Qq x<=2147483648:=λx hx=>by have:=dk (e:=Qq) hx;omega
 unfold eh.F
 repeat' first|exact⟨_,rfl⟩|exact tl hn a hm (by omega) (λx=>⟨_,rfl⟩) (Jr a) n _ 0 (by omega) (by omega) (by unfold cZ at hn;omega)|split
theorem Ar {n:Nat}(hn:cZ<=n)(a:WN)(hb:JE Qy a<=2147483648)(left:Int):∃r,iI.F n a left=some r:=by
 unfold iI.F
 split
 ·exact⟨_,rfl⟩
 exact⟨_,rfl⟩
theorem Hr {n:Nat}(hn:cZ<=n)(a:WG)(hb:JE Qn a<=2147483648)(left:Int):∃r,lj.F n a left=some r:=by
 unfold lj.F
 split
 ·exact⟨_,rfl⟩
 refine dj (Ar hn _ (by simp only[JE]at hb⊢;omega) _) (λr=>?_)
 try dsimp only
 split
 ·exact⟨_,rfl⟩
 exact⟨_,rfl⟩
theorem BK {n:Nat}(hn:cZ<=n)(a:WD)(hb:∀x,x∈a->JE Qn x<=2147483648)(hl:Jr a<=2147483648){K0:Int->Option Int}(hK:∀x,∃r,K0 x=some r):∀(d k:Nat) (left i:Int),0<=i->(Jr a:Int) - i=d->d<k->∃r,gL.l0 n a K0 k left i=some r:=by
 intro d
 induction d with
 |zero=>
  intro k left i h0 h1 hk;obtain⟨k,rfl⟩:∃m,k=m+1:=⟨k - 1,by omega⟩
  simp only[gL.l0,dg];rw[ao (by omega)];exact hK _
 |succ d ih=>
  intro k left i h0 h1 hk;obtain⟨k,rfl⟩:∃m,k=m+1:=⟨k - 1,by omega⟩
  have hw:Ju.wrap (i+1)=i+1:=aK _ (by omega) (by omega);have hx:=hb _ (getD_mem' a i (0,(Jq,[])) h0 (by omega));simp only[gL.l0,dg,hw];rw[ab (by omega),ab ⟨h0,by omega⟩]
  repeat' first|exact⟨_,rfl⟩|exact ih _ _ _ (by omega) (by omega) (by omega)|split|refine dj (Hr hn _ hx _) (λr=>?_)
theorem F8 {n:Nat}(hn:cZ<=n)(a:WD)(hb:JE Qk a<=2147483648)(left:Int):∃r,gL.F n a left=some r:=by
 have hs:JE Qk a=_:=cM (e:=Qn) a;have hl:=cy (e:=Qn) a;have hm:∀x,x∈a->JE Qn x<=2147483648:=λx hx=>by have:=dk (e:=Qn) hx;omega
 unfold gL.F
 repeat' first|exact⟨_,rfl⟩|exact BK hn a hm (by omega) (λx=>⟨_,rfl⟩) (Jr a) n _ 0 (by omega) (by omega) (by unfold cZ at hn;omega)|split
theorem D8 {n:Nat}(hn:cZ<=n)(a:WG)(hb:JE Qn a<=2147483648)(left:Int):∃r,jg.F n a left=some r:=by
 unfold jg.F
 split
 ·exact⟨_,rfl⟩
 refine dj (Ar hn _ (by simp only[JE]at hb⊢;omega) _) (λr=>?_)
 try dsimp only
 split
 ·exact⟨_,rfl⟩
 exact⟨_,rfl⟩
theorem BL {n:Nat}(hn:cZ<=n)(a:WD)(hb:∀x,x∈a->JE Qn x<=2147483648)(hl:Jr a<=2147483648){K0:Int->Option Int}(hK:∀x,∃r,K0 x=some r):∀(d k:Nat) (left i:Int),0<=i->(Jr a:Int) - i=d->d<k->∃r,gH.l0 n a K0 k left i=some r:=by
 intro d
 induction d with
 |zero=>
  intro k left i h0 h1 hk;obtain⟨k,rfl⟩:∃m,k=m+1:=⟨k - 1,by omega⟩
  simp only[gH.l0,dg];rw[ao (by omega)];exact hK _
 |succ d ih=>
  intro k left i h0 h1 hk;obtain⟨k,rfl⟩:∃m,k=m+1:=⟨k - 1,by omega⟩
  have hw:Ju.wrap (i+1)=i+1:=aK _ (by omega) (by omega);have hx:=hb _ (getD_mem' a i (0,(Jq,[])) h0 (by omega));simp only[gH.l0,dg,hw];rw[ab (by omega),ab ⟨h0,by omega⟩]
  repeat' first|exact⟨_,rfl⟩|exact ih _ _ _ (by omega) (by omega) (by omega)|split|refine dj (D8 hn _ hx _) (λr=>?_)
theorem F9 {n:Nat}(hn:cZ<=n)(a:WD)(hb:JE Qk a<=2147483648)(left:Int):∃r,gH.F n a left=some r:=by
 have hs:JE Qk a=_:=cM (e:=Qn) a;have hl:=cy (e:=Qn) a;have hm:∀x,x∈a->JE Qn x<=2147483648:=λx hx=>by have:=dk (e:=Qn) hx;omega
 unfold gH.F
 repeat' first|exact⟨_,rfl⟩|exact BL hn a hm (by omega) (λx=>⟨_,rfl⟩) (Jr a) n _ 0 (by omega) (by omega) (by unfold cZ at hn;omega)|split
theorem Fa {n:Nat}(hn:cZ<=n)(a:Wk)(hb:JE Qf a<=2147483648)(left:Int):∃r,ku.F n a left=some r:=by
 unfold ku.F;refine dj (F8 hn _ (by simp only[JE]at hb⊢;omega) _) (λr=>?_)
 try dsimp only
 split
 ·exact⟨_,rfl⟩
 refine dj (D8 hn _ (by simp only[JE]at hb⊢;omega) _) (λr=>?_)
 try dsimp only
 split
 ·exact⟨_,rfl⟩
 refine dj (F9 hn _ (by simp only[JE]at hb⊢;omega) _) (λr=>?_)
 try dsimp only
 split
 ·exact⟨_,rfl⟩
 exact⟨_,rfl⟩
theorem zh {n:Nat}(hn:cZ<=n)(a:Wh)(hb:∀x,x∈a->JE Qf x<=2147483648)(hl:Jr a<=2147483648){K0:Int->Option Int}(hK:∀x,∃r,K0 x=some r):∀(d k:Nat) (left i:Int),0<=i->(Jr a:Int) - i=d->d<k->∃r,fU.l0 n a K0 k left i=some r:=by
 intro d
 induction d with
 |zero=>
  intro k left i h0 h1 hk;obtain⟨k,rfl⟩:∃m,k=m+1:=⟨k - 1,by omega⟩
  simp only[fU.l0,dg];rw[ao (by omega)];exact hK _
 |succ d ih=>
  intro k left i h0 h1 hk;obtain⟨k,rfl⟩:∃m,k=m+1:=⟨k - 1,by omega⟩
  have hw:Ju.wrap (i+1)=i+1:=aK _ (by omega) (by omega);have hx:=hb _ (getD_mem' a i ([],((0,(Jq,[])),[])) h0 (by omega));simp only[fU.l0,dg,hw];rw[ab (by omega),ab ⟨h0,by omega⟩]
  repeat' first|exact⟨_,rfl⟩|exact ih _ _ _ (by omega) (by omega) (by omega)|split|refine dj (Fa hn _ hx _) (λr=>?_)
theorem D9 {n:Nat}(hn:cZ<=n)(a:Wh)(hb:JE Qe a<=2147483648)(left:Int):∃r,fU.F n a left=some r:=by
 have hs:JE Qe a=_:=cM (e:=Qf) a;have hl:=cy (e:=Qf) a;have hm:∀x,x∈a->JE Qf x<=2147483648:=λx hx=>by have:=dk (e:=Qf) hx;omega
 unfold fU.F
 repeat' first|exact⟨_,rfl⟩|exact zh hn a hm (by omega) (λx=>⟨_,rfl⟩) (Jr a) n _ 0 (by omega) (by omega) (by unfold cZ at hn;omega)|split
theorem Fc {n:Nat}(hn:cZ<=n)(a:Wb)(hb:JE Qc a<=2147483648)(left:Int):∃r,kt.F n a left=some r:=by
 unfold kt.F;refine dj (vh hn _ (by simp only[JE]at hb⊢;omega) _) (λr=>?_)
 try dsimp only
 split
 ·exact⟨_,rfl⟩
 refine dj (x4 hn _ (by simp only[JE]at hb⊢;omega) _) (λr=>?_)
 try dsimp only
 split
 ·exact⟨_,rfl⟩
 refine dj (D9 hn _ (by simp only[JE]at hb⊢;omega) _) (λr=>?_)
 try dsimp only
 split
 ·exact⟨_,rfl⟩
 exact⟨_,rfl⟩
theorem vi {n:Nat}(hn:cZ<=n)(a:WL)(hl:Jr a<=2147483648)(hb:∀x,x∈a->JE .str x<=2147483648){K0:WL->Option WL}:∀(post pre junk:WL) (k:Nat),a=pre++post->junk.length=post.length->post.length<k->dI.l0 n a K0 k (pre.length:Int) (pre++junk)=K0 a:=by
 intro post
 induction post with
 |nil=>
  intro pre junk k ha hj hk;obtain⟨k,rfl⟩:∃m,k=m+1:=⟨k - 1,by omega⟩
  obtain rfl:junk=[]:=Kv.1 hj;subst ha;simp only[dI.l0,dg,eZ,if_false]
 |cons x post ih=>
  intro pre junk k ha hj hk;obtain⟨k,rfl⟩:∃m,k=m+1:=⟨k - 1,by omega⟩
  match junk,hj with
  |y::junk,hj=>
   have hw:Ju.wrap ((pre.length:Int)+1)=((pre++[x]).length:Int):=by
    rw[aK _ (by omega) (by rw[ha]at hl;simp at hl;omega)];simp
   have hx:=hb x (by rw[ha];simp);have:=ih (pre++[x]) junk k (by rw[ha];simp) (by simpa using hj) (by simpa using hk);subst ha;simp only[dI.l0,dg,eY,eX,if_true,JS,cR,dU,hw,Jp];simpa using this
theorem rU {n:Nat}(hn:cZ<=n)(a:WL)(hb:JE Qz a<=2147483648):dI.F n a=some a:=by
 have hs:JE Qz a=_:=cM (e:=.str) a;have hl:=cy (e:=.str) a;have hm:∀x,x∈a->JE .str x<=2147483648:=λx hx=>by have:=dk (e:=.str) hx;omega
 unfold dI.F;rw[ab ⟨by omega,by omega,by unfold aT;omega⟩];exact vi hn a (by omega) hm a [] _ n rfl (by simp) (by unfold cZ at hn;omega)
theorem Hs {n:Nat}(hn:cZ<=n)(a:WH)(hb:JE Qw a<=2147483648):lf.F n a=some a:=by
 unfold lf.F;refine bS (rU hn _ (by simp only[JE]at hb⊢;omega)) ?_
 rfl
theorem BM {n:Nat}(hn:cZ<=n)(a:WE)(hl:Jr a<=2147483648)(hb:∀x,x∈a->JE Qw x<=2147483648){K0:WE->Option WE}:∀(post pre junk:WE) (k:Nat),a=pre++post->junk.length=post.length->post.length<k->gJ.l0 n a K0 k (pre.length:Int) (pre++junk)=K0 a:=by
 intro post
 induction post with
 |nil=>
  intro pre junk k ha hj hk;obtain⟨k,rfl⟩:∃m,k=m+1:=⟨k - 1,by omega⟩
  obtain rfl:junk=[]:=Kv.1 hj;subst ha;simp only[gJ.l0,dg,eZ,if_false]
 |cons x post ih=>
  intro pre junk k ha hj hk;obtain⟨k,rfl⟩:∃m,k=m+1:=⟨k - 1,by omega⟩
  match junk,hj with
  |y::junk,hj=>
   have hw:Ju.wrap ((pre.length:Int)+1)=((pre++[x]).length:Int):=by
    rw[aK _ (by omega) (by rw[ha]at hl;simp at hl;omega)];simp
   have hx:=hb x (by rw[ha];simp);have:=ih (pre++[x]) junk k (by rw[ha];simp) (by simpa using hj) (by simpa using hk);subst ha;simp only[gJ.l0,dg,eY,eX,if_true,JS,cR,dU,hw,Hs hn x hx,Jp];simpa using this
theorem Fe {n:Nat}(hn:cZ<=n)(a:WE)(hb:JE Qv a<=2147483648):gJ.F n a=some a:=by
 have hs:JE Qv a=_:=cM (e:=Qw) a;have hl:=cy (e:=Qw) a;have hm:∀x,x∈a->JE Qw x<=2147483648:=λx hx=>by have:=dk (e:=Qw) hx;omega
 unfold gJ.F;rw[ab ⟨by omega,by omega,by unfold aT;omega⟩];exact BM hn a (by omega) hm a [] _ n rfl (by simp) (by unfold cZ at hn;omega)
theorem x5 {n:Nat}(hn:cZ<=n)(a:Ww)(hb:JE Ql a<=2147483648):ic.F n a=some a:=by
 unfold ic.F;refine bS (Fe hn _ (by simp only[JE]at hb⊢;omega)) ?_
 rfl
theorem rV {n:Nat}(hn:cZ<=n)(a:Wu)(hl:Jr a<=2147483648)(hb:∀x,x∈a->JE Ql x<=2147483648){K0:Wu->Option Wu}:∀(post pre junk:Wu) (k:Nat),a=pre++post->junk.length=post.length->post.length<k->dQ.l0 n a K0 k (pre.length:Int) (pre++junk)=K0 a:=by
 intro post
 induction post with
 |nil=>
  intro pre junk k ha hj hk;obtain⟨k,rfl⟩:∃m,k=m+1:=⟨k - 1,by omega⟩
  obtain rfl:junk=[]:=Kv.1 hj;subst ha;simp only[dQ.l0,dg,eZ,if_false]
 |cons x post ih=>
  intro pre junk k ha hj hk;obtain⟨k,rfl⟩:∃m,k=m+1:=⟨k - 1,by omega⟩
  match junk,hj with
  |y::junk,hj=>
   have hw:Ju.wrap ((pre.length:Int)+1)=((pre++[x]).length:Int):=by
    rw[aK _ (by omega) (by rw[ha]at hl;simp at hl;omega)];simp
   have hx:=hb x (by rw[ha];simp);have:=ih (pre++[x]) junk k (by rw[ha];simp) (by simpa using hj) (by simpa using hk);subst ha;simp only[dQ.l0,dg,eY,eX,if_true,JS,cR,dU,hw,x5 hn x hx,Jp];simpa using this
theorem vj {n:Nat}(hn:cZ<=n)(a:Wu)(hb:JE Qj a<=2147483648):dQ.F n a=some a:=by
 have hs:JE Qj a=_:=cM (e:=Ql) a;have hl:=cy (e:=Ql) a;have hm:∀x,x∈a->JE Ql x<=2147483648:=λx hx=>by have:=dk (e:=Ql) hx;omega
 unfold dQ.F;rw[ab ⟨by omega,by omega,by unfold aT;omega⟩];exact rV hn a (by omega) hm a [] _ n rfl (by simp) (by unfold cZ at hn;omega)
theorem zi {n:Nat}(hn:cZ<=n)(a:WC)(hb:JE Qq a<=2147483648):iK.F n a=some a:=by
 unfold iK.F;refine bS (rU hn _ (by simp only[JE]at hb⊢;omega)) ?_
 rfl
theorem tm {n:Nat}(hn:cZ<=n)(a:Wy)(hl:Jr a<=2147483648)(hb:∀x,x∈a->JE Qq x<=2147483648){K0:Wy->Option Wy}:∀(post pre junk:Wy) (k:Nat),a=pre++post->junk.length=post.length->post.length<k->ef.l0 n a K0 k (pre.length:Int) (pre++junk)=K0 a:=by
 intro post
 induction post with
 |nil=>
  intro pre junk k ha hj hk;obtain⟨k,rfl⟩:∃m,k=m+1:=⟨k - 1,by omega⟩
  obtain rfl:junk=[]:=Kv.1 hj;subst ha;simp only[ef.l0,dg,eZ,if_false]
 |cons x post ih=>
  intro pre junk k ha hj hk;obtain⟨k,rfl⟩:∃m,k=m+1:=⟨k - 1,by omega⟩
  match junk,hj with
  |y::junk,hj=>
   have hw:Ju.wrap ((pre.length:Int)+1)=((pre++[x]).length:Int):=by
    rw[aK _ (by omega) (by rw[ha]at hl;simp at hl;omega)];simp
   have hx:=hb x (by rw[ha];simp);have:=ih (pre++[x]) junk k (by rw[ha];simp) (by simpa using hj) (by simpa using hk);subst ha;simp only[ef.l0,dg,eY,eX,if_true,JS,cR,dU,hw,zi hn x hx,Jp];simpa using this
theorem x6 {n:Nat}(hn:cZ<=n)(a:Wy)(hb:JE Qm a<=2147483648):ef.F n a=some a:=by
 have hs:JE Qm a=_:=cM (e:=Qq) a;have hl:=cy (e:=Qq) a;have hm:∀x,x∈a->JE Qq x<=2147483648:=λx hx=>by have:=dk (e:=Qq) hx;omega
 unfold ef.F;rw[ab ⟨by omega,by omega,by unfold aT;omega⟩];exact tm hn a (by omega) hm a [] _ n rfl (by simp) (by unfold cZ at hn;omega)
theorem BN {n:Nat}(hn:cZ<=n)(a:WN)(hl:Jr a<=2147483648)(hb:∀x,x∈a->JE (.int .i64) x<=2147483648){K0:WN->Option WN}:∀(post pre junk:WN) (k:Nat),a=pre++post->junk.length=post.length->post.length<k->fe.l0 n a K0 k (pre.length:Int) (pre++junk)=K0 a:=by
 intro post
 induction post with
 |nil=>
  intro pre junk k ha hj hk;obtain⟨k,rfl⟩:∃m,k=m+1:=⟨k - 1,by omega⟩
  obtain rfl:junk=[]:=Kv.1 hj;subst ha;simp only[fe.l0,dg,eZ,if_false]
 |cons x post ih=>
  intro pre junk k ha hj hk;obtain⟨k,rfl⟩:∃m,k=m+1:=⟨k - 1,by omega⟩
  match junk,hj with
  |y::junk,hj=>
   have hw:Ju.wrap ((pre.length:Int)+1)=((pre++[x]).length:Int):=by
    rw[aK _ (by omega) (by rw[ha]at hl;simp at hl;omega)];simp
   have hx:=hb x (by rw[ha];simp);have:=ih (pre++[x]) junk k (by rw[ha];simp) (by simpa using hj) (by simpa using hk);subst ha;simp only[fe.l0,dg,eY,eX,if_true,JS,cR,dU,hw,Jp];simpa using this
theorem As {n:Nat}(hn:cZ<=n)(a:WN)(hb:JE Qy a<=2147483648):fe.F n a=some a:=by
 have hs:JE Qy a=_:=cM (e:=.int .i64) a;have hl:=cy (e:=.int .i64) a;have hm:∀x,x∈a->JE (.int .i64) x<=2147483648:=λx hx=>by have:=dk (e:=.int .i64) hx;omega
 unfold fe.F;rw[ab ⟨by omega,by omega,by unfold aT;omega⟩];exact BN hn a (by omega) hm a [] _ n rfl (by simp) (by unfold cZ at hn;omega)
theorem Ht {n:Nat}(hn:cZ<=n)(a:WG)(hb:JE Qn a<=2147483648):lh.F n a=some a:=by
 unfold lh.F;refine bS (As hn _ (by simp only[JE]at hb⊢;omega)) ?_
 rfl
theorem BO {n:Nat}(hn:cZ<=n)(a:WD)(hl:Jr a<=2147483648)(hb:∀x,x∈a->JE Qn x<=2147483648){K0:WD->Option WD}:∀(post pre junk:WD) (k:Nat),a=pre++post->junk.length=post.length->post.length<k->gT.l0 n a K0 k (pre.length:Int) (pre++junk)=K0 a:=by
 intro post
 induction post with
 |nil=>
  intro pre junk k ha hj hk;obtain⟨k,rfl⟩:∃m,k=m+1:=⟨k - 1,by omega⟩
  obtain rfl:junk=[]:=Kv.1 hj;subst ha;simp only[gT.l0,dg,eZ,if_false]
 |cons x post ih=>
  intro pre junk k ha hj hk;obtain⟨k,rfl⟩:∃m,k=m+1:=⟨k - 1,by omega⟩
  match junk,hj with
  |y::junk,hj=>
   have hw:Ju.wrap ((pre.length:Int)+1)=((pre++[x]).length:Int):=by
    rw[aK _ (by omega) (by rw[ha]at hl;simp at hl;omega)];simp
   have hx:=hb x (by rw[ha];simp);have:=ih (pre++[x]) junk k (by rw[ha];simp) (by simpa using hj) (by simpa using hk);subst ha;simp only[gT.l0,dg,eY,eX,if_true,JS,cR,dU,hw,Ht hn x hx,Jp];simpa using this
theorem Ff {n:Nat}(hn:cZ<=n)(a:WD)(hb:JE Qk a<=2147483648):gT.F n a=some a:=by
 have hs:JE Qk a=_:=cM (e:=Qn) a;have hl:=cy (e:=Qn) a;have hm:∀x,x∈a->JE Qn x<=2147483648:=λx hx=>by have:=dk (e:=Qn) hx;omega
 unfold gT.F;rw[ab ⟨by omega,by omega,by unfold aT;omega⟩];exact BO hn a (by omega) hm a [] _ n rfl (by simp) (by unfold cZ at hn;omega)
theorem Da {n:Nat}(hn:cZ<=n)(a:WG)(hb:JE Qn a<=2147483648):jh.F n a=some a:=by
 unfold jh.F;refine bS (As hn _ (by simp only[JE]at hb⊢;omega)) ?_
 rfl
theorem BP {n:Nat}(hn:cZ<=n)(a:WD)(hl:Jr a<=2147483648)(hb:∀x,x∈a->JE Qn x<=2147483648){K0:WD->Option WD}:∀(post pre junk:WD) (k:Nat),a=pre++post->junk.length=post.length->post.length<k->gG.l0 n a K0 k (pre.length:Int) (pre++junk)=K0 a:=by
 intro post
 induction post with
 |nil=>
  intro pre junk k ha hj hk;obtain⟨k,rfl⟩:∃m,k=m+1:=⟨k - 1,by omega⟩
  obtain rfl:junk=[]:=Kv.1 hj;subst ha;simp only[gG.l0,dg,eZ,if_false]
 |cons x post ih=>
  intro pre junk k ha hj hk;obtain⟨k,rfl⟩:∃m,k=m+1:=⟨k - 1,by omega⟩
  match junk,hj with
  |y::junk,hj=>
   have hw:Ju.wrap ((pre.length:Int)+1)=((pre++[x]).length:Int):=by
    rw[aK _ (by omega) (by rw[ha]at hl;simp at hl;omega)];simp
   have hx:=hb x (by rw[ha];simp);have:=ih (pre++[x]) junk k (by rw[ha];simp) (by simpa using hj) (by simpa using hk);subst ha;simp only[gG.l0,dg,eY,eX,if_true,JS,cR,dU,hw,Da hn x hx,Jp];simpa using this
theorem Fh {n:Nat}(hn:cZ<=n)(a:WD)(hb:JE Qk a<=2147483648):gG.F n a=some a:=by
 have hs:JE Qk a=_:=cM (e:=Qn) a;have hl:=cy (e:=Qn) a;have hm:∀x,x∈a->JE Qn x<=2147483648:=λx hx=>by have:=dk (e:=Qn) hx;omega
 unfold gG.F;rw[ab ⟨by omega,by omega,by unfold aT;omega⟩];exact BP hn a (by omega) hm a [] _ n rfl (by simp) (by unfold cZ at hn;omega)
theorem Fi {n:Nat}(hn:cZ<=n)(a:Wk)(hb:JE Qf a<=2147483648):kq.F n a=some a:=by
 unfold kq.F;refine bS (Ff hn _ (by simp only[JE]at hb⊢;omega)) ?_;refine bS (Da hn _ (by simp only[JE]at hb⊢;omega)) ?_;refine bS (Fh hn _ (by simp only[JE]at hb⊢;omega)) ?_
 rfl
theorem zj {n:Nat}(hn:cZ<=n)(a:Wh)(hl:Jr a<=2147483648)(hb:∀x,x∈a->JE Qf x<=2147483648){K0:Wh->Option Wh}:∀(post pre junk:Wh) (k:Nat),a=pre++post->junk.length=post.length->post.length<k->fR.l0 n a K0 k (pre.length:Int) (pre++junk)=K0 a:=by
 intro post
 induction post with
 |nil=>
  intro pre junk k ha hj hk;obtain⟨k,rfl⟩:∃m,k=m+1:=⟨k - 1,by omega⟩
  obtain rfl:junk=[]:=Kv.1 hj;subst ha;simp only[fR.l0,dg,eZ,if_false]
 |cons x post ih=>
  intro pre junk k ha hj hk;obtain⟨k,rfl⟩:∃m,k=m+1:=⟨k - 1,by omega⟩
  match junk,hj with
  |y::junk,hj=>
   have hw:Ju.wrap ((pre.length:Int)+1)=((pre++[x]).length:Int):=by
    rw[aK _ (by omega) (by rw[ha]at hl;simp at hl;omega)];simp
   have hx:=hb x (by rw[ha];simp);have:=ih (pre++[x]) junk k (by rw[ha];simp) (by simpa using hj) (by simpa using hk);subst ha;simp only[fR.l0,dg,eY,eX,if_true,JS,cR,dU,hw,Fi hn x hx,Jp];simpa using this
theorem Db {n:Nat}(hn:cZ<=n)(a:Wh)(hb:JE Qe a<=2147483648):fR.F n a=some a:=by
 have hs:JE Qe a=_:=cM (e:=Qf) a;have hl:=cy (e:=Qf) a;have hm:∀x,x∈a->JE Qf x<=2147483648:=λx hx=>by have:=dk (e:=Qf) hx;omega
 unfold fR.F;rw[ab ⟨by omega,by omega,by unfold aT;omega⟩];exact zj hn a (by omega) hm a [] _ n rfl (by simp) (by unfold cZ at hn;omega)
theorem qU {n:Nat}(hn:cZ<=n)(a:Wb)(hb:JE Qc a<=2147483648):gI.F n a=some a:=by
 unfold gI.F;refine bS (vj hn _ (by simp only[JE]at hb⊢;omega)) ?_;refine bS (x6 hn _ (by simp only[JE]at hb⊢;omega)) ?_;refine bS (Db hn _ (by simp only[JE]at hb⊢;omega)) ?_
 rfl
theorem vk {n:Nat}(hn:cZ<=n)(a:WL)(hb:∀x,x∈a->JE .str x<=2147483648)(hl:Jr a<=2147483648){K0:Unit->Option Bool}:∀(d k:Nat) (i:Int),0<=i->(Jr a:Int) - i=d->d<k->dG.l0 n a a K0 k i=K0 ():=by
 intro d
 induction d with
 |zero=>
  intro k i h0 h1 hk;obtain⟨k,rfl⟩:∃m,k=m+1:=⟨k - 1,by omega⟩
  simp only[dG.l0,dg];rw[ao (by omega)]
 |succ d ih=>
  intro k i h0 h1 hk;obtain⟨k,rfl⟩:∃m,k=m+1:=⟨k - 1,by omega⟩
  have hw:Ju.wrap (i+1)=i+1:=aK _ (by omega) (by omega);have hx:=hb _ (getD_mem' a i Jq h0 (by omega));simp only[dG.l0,dg,hw];rw[ab (by omega),ab ⟨h0,by omega⟩,ab ⟨h0,by omega⟩];simp only[Jp,decide_true,KU,JI,if_false,bJ];exact ih _ _ (by omega) (by omega) (by omega)
theorem rW {n:Nat}(hn:cZ<=n)(a:WL)(hb:JE Qz a<=2147483648):dG.F n a a=some true:=by
 have hs:JE Qz a=_:=cM (e:=.str) a;have hl:=cy (e:=.str) a;have hm:∀x,x∈a->JE .str x<=2147483648:=λx hx=>by have:=dk (e:=.str) hx;omega
 unfold dG.F;rw[ao (by simp)];exact vk hn a hm (by omega) (Jr a) n 0 (by omega) (by omega) (by unfold cZ at hn;omega)
theorem Hu {n:Nat}(hn:cZ<=n)(a:WH)(hb:JE Qw a<=2147483648):lc.F n a a=some true:=by
 unfold lc.F;rw[ao (by simp[bJ])];refine bS (rW hn _ (by simp only[JE]at hb⊢;omega)) ?_
 try dsimp only
 rw[ao (by simp[bJ])]
 all_goals rfl
theorem BQ {n:Nat}(hn:cZ<=n)(a:WE)(hb:∀x,x∈a->JE Qw x<=2147483648)(hl:Jr a<=2147483648){K0:Unit->Option Bool}:∀(d k:Nat) (i:Int),0<=i->(Jr a:Int) - i=d->d<k->gO.l0 n a a K0 k i=K0 ():=by
 intro d
 induction d with
 |zero=>
  intro k i h0 h1 hk;obtain⟨k,rfl⟩:∃m,k=m+1:=⟨k - 1,by omega⟩
  simp only[gO.l0,dg];rw[ao (by omega)]
 |succ d ih=>
  intro k i h0 h1 hk;obtain⟨k,rfl⟩:∃m,k=m+1:=⟨k - 1,by omega⟩
  have hw:Ju.wrap (i+1)=i+1:=aK _ (by omega) (by omega);have hx:=hb _ (getD_mem' a i (Jq,[]) h0 (by omega));simp only[gO.l0,dg,hw];rw[ab (by omega),ab ⟨h0,by omega⟩,ab ⟨h0,by omega⟩];simp only[Hu hn _ hx,Jp,decide_true,KU,JI,if_false,bJ];exact ih _ _ (by omega) (by omega) (by omega)
theorem Fj {n:Nat}(hn:cZ<=n)(a:WE)(hb:JE Qv a<=2147483648):gO.F n a a=some true:=by
 have hs:JE Qv a=_:=cM (e:=Qw) a;have hl:=cy (e:=Qw) a;have hm:∀x,x∈a->JE Qw x<=2147483648:=λx hx=>by have:=dk (e:=Qw) hx;omega
 unfold gO.F;rw[ao (by simp)];exact BQ hn a hm (by omega) (Jr a) n 0 (by omega) (by omega) (by unfold cZ at hn;omega)
theorem x7 {n:Nat}(hn:cZ<=n)(a:Ww)(hb:JE Ql a<=2147483648):ig.F n a a=some true:=by
 unfold ig.F;rw[ao (by simp[bJ])];refine bS (Fj hn _ (by simp only[JE]at hb⊢;omega)) ?_
 try dsimp only
 rw[ao (by simp[bJ])]
 all_goals rfl
theorem rX {n:Nat}(hn:cZ<=n)(a:Wu)(hb:∀x,x∈a->JE Ql x<=2147483648)(hl:Jr a<=2147483648){K0:Unit->Option Bool}:∀(d k:Nat) (i:Int),0<=i->(Jr a:Int) - i=d->d<k->dP.l0 n a a K0 k i=K0 ():=by
 intro d
 induction d with
 |zero=>
  intro k i h0 h1 hk;obtain⟨k,rfl⟩:∃m,k=m+1:=⟨k - 1,by omega⟩
  simp only[dP.l0,dg];rw[ao (by omega)]
 |succ d ih=>
  intro k i h0 h1 hk;obtain⟨k,rfl⟩:∃m,k=m+1:=⟨k - 1,by omega⟩
  have hw:Ju.wrap (i+1)=i+1:=aK _ (by omega) (by omega);have hx:=hb _ (getD_mem' a i (Jq,[]) h0 (by omega));simp only[dP.l0,dg,hw];rw[ab (by omega),ab ⟨h0,by omega⟩,ab ⟨h0,by omega⟩];simp only[x7 hn _ hx,Jp,decide_true,KU,JI,if_false,bJ];exact ih _ _ (by omega) (by omega) (by omega)
theorem vl {n:Nat}(hn:cZ<=n)(a:Wu)(hb:JE Qj a<=2147483648):dP.F n a a=some true:=by
 have hs:JE Qj a=_:=cM (e:=Ql) a;have hl:=cy (e:=Ql) a;have hm:∀x,x∈a->JE Ql x<=2147483648:=λx hx=>by have:=dk (e:=Ql) hx;omega
 unfold dP.F;rw[ao (by simp)];exact rX hn a hm (by omega) (Jr a) n 0 (by omega) (by omega) (by unfold cZ at hn;omega)
theorem zk {n:Nat}(hn:cZ<=n)(a:WC)(hb:JE Qq a<=2147483648):iG.F n a a=some true:=by
 unfold iG.F;rw[ao (by simp[bJ])];refine bS (rW hn _ (by simp only[JE]at hb⊢;omega)) ?_
 try dsimp only
 rw[ao (by simp[bJ])];rw[ao (by simp[bJ])]
 all_goals rfl
theorem tn {n:Nat}(hn:cZ<=n)(a:Wy)(hb:∀x,x∈a->JE Qq x<=2147483648)(hl:Jr a<=2147483648){K0:Unit->Option Bool}:∀(d k:Nat) (i:Int),0<=i->(Jr a:Int) - i=d->d<k->ec.l0 n a a K0 k i=K0 ():=by
 intro d
 induction d with
 |zero=>
  intro k i h0 h1 hk;obtain⟨k,rfl⟩:∃m,k=m+1:=⟨k - 1,by omega⟩
  simp only[ec.l0,dg];rw[ao (by omega)]
 |succ d ih=>
  intro k i h0 h1 hk;obtain⟨k,rfl⟩:∃m,k=m+1:=⟨k - 1,by omega⟩
  have hw:Ju.wrap (i+1)=i+1:=aK _ (by omega) (by omega);have hx:=hb _ (getD_mem' a i (Jq,([],0)) h0 (by omega));simp only[ec.l0,dg,hw];rw[ab (by omega),ab ⟨h0,by omega⟩,ab ⟨h0,by omega⟩];simp only[zk hn _ hx,Jp,decide_true,KU,JI,if_false,bJ];exact ih _ _ (by omega) (by omega) (by omega)
theorem x8 {n:Nat}(hn:cZ<=n)(a:Wy)(hb:JE Qm a<=2147483648):ec.F n a a=some true:=by
 have hs:JE Qm a=_:=cM (e:=Qq) a;have hl:=cy (e:=Qq) a;have hm:∀x,x∈a->JE Qq x<=2147483648:=λx hx=>by have:=dk (e:=Qq) hx;omega
 unfold ec.F;rw[ao (by simp)];exact tn hn a hm (by omega) (Jr a) n 0 (by omega) (by omega) (by unfold cZ at hn;omega)
theorem BR {n:Nat}(hn:cZ<=n)(a:WN)(hb:∀x,x∈a->JE (.int .i64) x<=2147483648)(hl:Jr a<=2147483648){K0:Unit->Option Bool}:∀(d k:Nat) (i:Int),0<=i->(Jr a:Int) - i=d->d<k->fh.l0 n a a K0 k i=K0 ():=by
 intro d
 induction d with
 |zero=>
  intro k i h0 h1 hk;obtain⟨k,rfl⟩:∃m,k=m+1:=⟨k - 1,by omega⟩
  simp only[fh.l0,dg];rw[ao (by omega)]
 |succ d ih=>
  intro k i h0 h1 hk;obtain⟨k,rfl⟩:∃m,k=m+1:=⟨k - 1,by omega⟩
  have hw:Ju.wrap (i+1)=i+1:=aK _ (by omega) (by omega);have hx:=hb _ (getD_mem' a i 0 h0 (by omega));simp only[fh.l0,dg,hw];rw[ab (by omega),ab ⟨h0,by omega⟩,ab ⟨h0,by omega⟩];simp only[Jp,decide_true,KU,JI,if_false,bJ];exact ih _ _ (by omega) (by omega) (by omega)
theorem At {n:Nat}(hn:cZ<=n)(a:WN)(hb:JE Qy a<=2147483648):fh.F n a a=some true:=by
 have hs:JE Qy a=_:=cM (e:=.int .i64) a;have hl:=cy (e:=.int .i64) a;have hm:∀x,x∈a->JE (.int .i64) x<=2147483648:=λx hx=>by have:=dk (e:=.int .i64) hx;omega
 unfold fh.F;rw[ao (by simp)];exact BR hn a hm (by omega) (Jr a) n 0 (by omega) (by omega) (by unfold cZ at hn;omega)
theorem Hv {n:Nat}(hn:cZ<=n)(a:WG)(hb:JE Qn a<=2147483648):ld.F n a a=some true:=by
 unfold ld.F;rw[ao (by simp[bJ])];rw[ao (by simp[bJ])];refine bS (At hn _ (by simp only[JE]at hb⊢;omega)) ?_
 try dsimp only
 rw[ao (by simp[bJ])]
 all_goals rfl
theorem BS {n:Nat}(hn:cZ<=n)(a:WD)(hb:∀x,x∈a->JE Qn x<=2147483648)(hl:Jr a<=2147483648){K0:Unit->Option Bool}:∀(d k:Nat) (i:Int),0<=i->(Jr a:Int) - i=d->d<k->gQ.l0 n a a K0 k i=K0 ():=by
 intro d
 induction d with
 |zero=>
  intro k i h0 h1 hk;obtain⟨k,rfl⟩:∃m,k=m+1:=⟨k - 1,by omega⟩
  simp only[gQ.l0,dg];rw[ao (by omega)]
 |succ d ih=>
  intro k i h0 h1 hk;obtain⟨k,rfl⟩:∃m,k=m+1:=⟨k - 1,by omega⟩
  have hw:Ju.wrap (i+1)=i+1:=aK _ (by omega) (by omega);have hx:=hb _ (getD_mem' a i (0,(Jq,[])) h0 (by omega));simp only[gQ.l0,dg,hw];rw[ab (by omega),ab ⟨h0,by omega⟩,ab ⟨h0,by omega⟩];simp only[Hv hn _ hx,Jp,decide_true,KU,JI,if_false,bJ];exact ih _ _ (by omega) (by omega) (by omega)
theorem Fk {n:Nat}(hn:cZ<=n)(a:WD)(hb:JE Qk a<=2147483648):gQ.F n a a=some true:=by
 have hs:JE Qk a=_:=cM (e:=Qn) a;have hl:=cy (e:=Qn) a;have hm:∀x,x∈a->JE Qn x<=2147483648:=λx hx=>by have:=dk (e:=Qn) hx;omega
 unfold gQ.F;rw[ao (by simp)];exact BS hn a hm (by omega) (Jr a) n 0 (by omega) (by omega) (by unfold cZ at hn;omega)
theorem Dc {n:Nat}(hn:cZ<=n)(a:WG)(hb:JE Qn a<=2147483648):jf.F n a a=some true:=by
 unfold jf.F;rw[ao (by simp[bJ])];rw[ao (by simp[bJ])];refine bS (At hn _ (by simp only[JE]at hb⊢;omega)) ?_
 try dsimp only
 rw[ao (by simp[bJ])]
 all_goals rfl
theorem BT {n:Nat}(hn:cZ<=n)(a:WD)(hb:∀x,x∈a->JE Qn x<=2147483648)(hl:Jr a<=2147483648){K0:Unit->Option Bool}:∀(d k:Nat) (i:Int),0<=i->(Jr a:Int) - i=d->d<k->gE.l0 n a a K0 k i=K0 ():=by
 intro d
 induction d with
 |zero=>
  intro k i h0 h1 hk;obtain⟨k,rfl⟩:∃m,k=m+1:=⟨k - 1,by omega⟩
  simp only[gE.l0,dg];rw[ao (by omega)]
 |succ d ih=>
  intro k i h0 h1 hk;obtain⟨k,rfl⟩:∃m,k=m+1:=⟨k - 1,by omega⟩
  have hw:Ju.wrap (i+1)=i+1:=aK _ (by omega) (by omega);have hx:=hb _ (getD_mem' a i (0,(Jq,[])) h0 (by omega));simp only[gE.l0,dg,hw];rw[ab (by omega),ab ⟨h0,by omega⟩,ab ⟨h0,by omega⟩];simp only[Dc hn _ hx,Jp,decide_true,KU,JI,if_false,bJ];exact ih _ _ (by omega) (by omega) (by omega)
theorem Fl {n:Nat}(hn:cZ<=n)(a:WD)(hb:JE Qk a<=2147483648):gE.F n a a=some true:=by
 have hs:JE Qk a=_:=cM (e:=Qn) a;have hl:=cy (e:=Qn) a;have hm:∀x,x∈a->JE Qn x<=2147483648:=λx hx=>by have:=dk (e:=Qn) hx;omega
 unfold gE.F;rw[ao (by simp)];exact BT hn a hm (by omega) (Jr a) n 0 (by omega) (by omega) (by unfold cZ at hn;omega)
theorem Fm {n:Nat}(hn:cZ<=n)(a:Wk)(hb:JE Qf a<=2147483648):ko.F n a a=some true:=by
 unfold ko.F;refine bS (Fk hn _ (by simp only[JE]at hb⊢;omega)) ?_
 try dsimp only
 rw[ao (by simp[bJ])];refine bS (Dc hn _ (by simp only[JE]at hb⊢;omega)) ?_
 try dsimp only
 rw[ao (by simp[bJ])];refine bS (Fl hn _ (by simp only[JE]at hb⊢;omega)) ?_
 try dsimp only
 rw[ao (by simp[bJ])]
 all_goals rfl
theorem zl {n:Nat}(hn:cZ<=n)(a:Wh)(hb:∀x,x∈a->JE Qf x<=2147483648)(hl:Jr a<=2147483648){K0:Unit->Option Bool}:∀(d k:Nat) (i:Int),0<=i->(Jr a:Int) - i=d->d<k->fS.l0 n a a K0 k i=K0 ():=by
 intro d
 induction d with
 |zero=>
  intro k i h0 h1 hk;obtain⟨k,rfl⟩:∃m,k=m+1:=⟨k - 1,by omega⟩
  simp only[fS.l0,dg];rw[ao (by omega)]
 |succ d ih=>
  intro k i h0 h1 hk;obtain⟨k,rfl⟩:∃m,k=m+1:=⟨k - 1,by omega⟩
  have hw:Ju.wrap (i+1)=i+1:=aK _ (by omega) (by omega);have hx:=hb _ (getD_mem' a i ([],((0,(Jq,[])),[])) h0 (by omega));simp only[fS.l0,dg,hw];rw[ab (by omega),ab ⟨h0,by omega⟩,ab ⟨h0,by omega⟩];simp only[Fm hn _ hx,Jp,decide_true,KU,JI,if_false,bJ];exact ih _ _ (by omega) (by omega) (by omega)
theorem Dd {n:Nat}(hn:cZ<=n)(a:Wh)(hb:JE Qe a<=2147483648):fS.F n a a=some true:=by
 have hs:JE Qe a=_:=cM (e:=Qf) a;have hl:=cy (e:=Qf) a;have hm:∀x,x∈a->JE Qf x<=2147483648:=λx hx=>by have:=dk (e:=Qf) hx;omega
 unfold fS.F;rw[ao (by simp)];exact zl hn a hm (by omega) (Jr a) n 0 (by omega) (by omega) (by unfold cZ at hn;omega)
theorem qV {n:Nat}(hn:cZ<=n)(a:Wb)(hb:JE Qc a<=2147483648):gD.F n a a=some true:=by
 unfold gD.F;refine bS (vl hn _ (by simp only[JE]at hb⊢;omega)) ?_
 try dsimp only
 rw[ao (by simp[bJ])];refine bS (x8 hn _ (by simp only[JE]at hb⊢;omega)) ?_
 try dsimp only
 rw[ao (by simp[bJ])];refine bS (Dd hn _ (by simp only[JE]at hb⊢;omega)) ?_
 try dsimp only
 rw[ao (by simp[bJ])]
 all_goals rfl
def rY (n:Nat)(k:Int):ByteArray:=(aN.F n k).getD Jq
theorem Gg (x:Int):Js (rc [x])=1:=rfl
theorem x9 {n:Nat}{K0:ByteArray->Option ByteArray}(hK:∀x:ByteArray,x.size<=64->∃r,K0 x=some r):∀(d k:Nat) (z:Int) (out:ByteArray),z<10 ^ d->z<=4294967296->d<k->out.size+d<=40->∃r,aN.l0 n K0 k z out=some r:=by
 intro d
 induction d with
 |zero=>
  intro k z out hz hz2 hk ho;obtain⟨k,rfl⟩:∃m,k=m+1:=⟨k - 1,by omega⟩
  simp only[aN.l0,dg];rw[ao (by simp at hz;omega)];exact hK _ (by omega)
 |succ d ih=>
  intro k z out hz hz2 hk ho;obtain⟨k,rfl⟩:∃m,k=m+1:=⟨k - 1,by omega⟩
  simp only[aN.l0,dg]
  split
  ·rename_i hp
   have hlt:z / 10<10 ^ d:=by rw[Int.pow_succ]at hz;omega
   have e1:Int.tdiv z 10=z / 10:=Int.tdiv_eq_ediv_of_nonneg (by omega);rw[ab (by rw[Gg];unfold aT;omega),e1,aK _ (by omega) (by omega)];exact ih k _ _ hlt (by omega) (by omega) (by rw[ByteArray.size_append,Gg];omega)
  ·exact hK _ (by omega)
theorem nY {n:Nat}(hn:cZ<=n)(k:Int)(hk:k<=4294967296):aN.F n k=some (rY n k):=by
 have:∃r,aN.F n k=some r:=by
  unfold aN.F
  split
  ·exact⟨_,rfl⟩
  ·exact x9 (λx hx=>by rw[ab (by show 1+x.size<=aT;unfold aT;omega)];exact⟨_,rfl⟩) 10 n k _ (by omega) (by omega) (by unfold cZ at hn;omega) (by show 0+10<=40;omega)
 obtain⟨r,hr⟩:=this;rw[rY,hr];rfl
theorem vm {n:Nat}(hn:cZ<=n){K0:Int->WL->Option (Int×WL)}:∀(post pre:WL) (f:Nat) (k:Int),post.length<f->pre.length+post.length<=2147483648->(KZ (JE .str) post).sum<=2147483648->0<k->k+((KZ (JE .str) post).sum:Int)<=4294967296->
  ∃k1 out,du.l0 n K0 f k (pre.length:Int) (pre++post)=K0 k1 (pre++out)/\k<=k1/\k1<=k+((KZ (JE .str) post).sum:Int)/\out.length=post.length/\
   ∀(pre2:WL) (g:Nat) (H0:Int->Option Int),pre2.length=pre.length->post.length<g->dv.l0 n (pre2++out) H0 g k (pre.length:Int)=H0 k1:=by
 intro post
 induction post with
 |nil=>
  intro pre f k hf hl hs h0 hk;obtain⟨f,rfl⟩:∃m,f=m+1:=⟨f - 1,by omega⟩
  refine⟨k,[],?_,by omega,by simp,rfl,λpre2 g H0 hp hg=>?_⟩
  ·simp only[du.l0,dg,eZ,if_false]
  ·obtain⟨g,rfl⟩:∃m,g=m+1:=⟨g - 1,by omega⟩
   rw[← hp];simp only[dv.l0,dg,eZ,if_false]
 |cons x post ih=>
  intro pre f k hf hl hs h0 hk;simp only[Jw]at hf hl;simp only[JM,Ko,LL]at hs hk⊢;obtain⟨f,rfl⟩:∃m,f=m+1:=⟨f - 1,by omega⟩
  have hw:Ju.wrap ((pre.length:Int)+1)=(pre.length:Int)+1:=aK _ (by omega) (by omega);have hB:JE .str x=(Js x+1):=rfl;have hm1:=nY hn k (by omega);have hwk1:Ju.wrap (k+1)=k+1:=aK _ (by omega) (by omega);obtain⟨k1,out,i1,i2,i3,i4,i5⟩:=ih (pre++[((rY n k):ByteArray)]) f (k+1) (by omega) (by simp;omega) (by omega) (by omega) (by omega);rw[Jx,Kw]at i1 i5;refine⟨k1,((rY n k):ByteArray)::out,?_,by omega,by omega,by simp[i4],λpre2 g H0 hp hg=>?_⟩
  ·simp only[du.l0,dg,eY,eX,if_true,JS,cR,dU,hw,hm1,hwk1,Jp]
   simpa using i1
  ·obtain⟨g,rfl⟩:∃m,g=m+1:=⟨g - 1,by omega⟩
   have i6:=i5 (pre2++[((rY n k):ByteArray)]) g H0 (by simp[hp]) (by simp only[Jw]at hg;omega);rw[← hp]at i6 hw⊢;simp only[dv.l0,dg,eY,eX,if_true,JS,cR,dU,hw,hm1,hwk1,Jp,decide_true,KU,JI,if_false,bJ,beq_self_eq_true,K8,nn,and_self];simpa using i6
theorem rZ {n:Nat}(hn:cZ<=n)(a:WL)(hb:JE Qz a<=2147483648)(k:Int)(h0:0<k)(hk:k+(JE Qz a:Int)<=4294967296):
  ∃k1 out,du.F n a k=some (k1,out)/\k<=k1/\k1<=k+(JE Qz a:Int)/\dv.F n out k=some k1:=by
 have hl0:=cy (e:=.str) a;have hl1:JE Qz a=_:=cM (e:=.str) a;obtain⟨k1,out,i1,i2,i3,i4,i5⟩:=vm hn (K0:=λk a=>some (k,a)) a [] n k (by unfold cZ at hn;omega) (by simp;omega) (by omega) h0 (by omega);exact⟨k1,out,i1,i2,by omega,i5 [] n _ rfl (by unfold cZ at hn;omega)⟩
theorem BU {n:Nat}(hn:cZ<=n){K0:Int->WE->Option (Int×WE)}:∀(post pre:WE) (f:Nat) (k:Int),post.length<f->pre.length+post.length<=2147483648->(KZ (JE Qw) post).sum<=2147483648->0<k->k+((KZ (JE Qw) post).sum:Int)<=4294967296->
  ∃k1 out,ge.l0 n K0 f k (pre.length:Int) (pre++post)=K0 k1 (pre++out)/\k<=k1/\k1<=k+((KZ (JE Qw) post).sum:Int)/\out.length=post.length/\
   ∀(pre2:WE) (g:Nat) (H0:Int->Option Int),pre2.length=pre.length->post.length<g->gk.l0 n (pre2++out) H0 g k (pre.length:Int)=H0 k1:=by
 intro post
 induction post with
 |nil=>
  intro pre f k hf hl hs h0 hk;obtain⟨f,rfl⟩:∃m,f=m+1:=⟨f - 1,by omega⟩
  refine⟨k,[],?_,by omega,by simp,rfl,λpre2 g H0 hp hg=>?_⟩
  ·simp only[ge.l0,dg,eZ,if_false]
  ·obtain⟨g,rfl⟩:∃m,g=m+1:=⟨g - 1,by omega⟩
   rw[← hp];simp only[gk.l0,dg,eZ,if_false]
 |cons x post ih=>
  intro pre f k hf hl hs h0 hk;simp only[Jw]at hf hl;simp only[JM,Ko,LL]at hs hk⊢;obtain⟨f,rfl⟩:∃m,f=m+1:=⟨f - 1,by omega⟩
  have hw:Ju.wrap ((pre.length:Int)+1)=(pre.length:Int)+1:=aK _ (by omega) (by omega);have hB:JE Qw x=((Js x.1+1)+JE Qz x.2):=rfl;have hm1:=nY hn k (by omega);have hwk1:Ju.wrap (k+1)=k+1:=aK _ (by omega) (by omega);obtain⟨q2,y2,a2,b2,c2,d2⟩:=rZ hn x.2 (by omega) (k+1) (by omega) (by omega);obtain⟨k1,out,i1,i2,i3,i4,i5⟩:=ih (pre++[(((rY n k,y2)):WH)]) f q2 (by omega) (by simp;omega) (by omega) (by omega) (by omega);rw[Jx,Kw]at i1 i5;refine⟨k1,(((rY n k,y2)):WH)::out,?_,by omega,by omega,by simp[i4],λpre2 g H0 hp hg=>?_⟩
  ·simp only[ge.l0,dg,eY,eX,if_true,JS,cR,dU,hw,hm1,hwk1,Jp,a2]
   simpa using i1
  ·obtain⟨g,rfl⟩:∃m,g=m+1:=⟨g - 1,by omega⟩
   have i6:=i5 (pre2++[(((rY n k,y2)):WH)]) g H0 (by simp[hp]) (by simp only[Jw]at hg;omega);rw[← hp]at i6 hw⊢;simp only[gk.l0,dg,eY,eX,if_true,JS,cR,dU,hw,hm1,hwk1,Jp,d2,decide_true,KU,JI,if_false,bJ,beq_self_eq_true,K8,nn,and_self];rw[ao (by omega)];simpa using i6
theorem Fo {n:Nat}(hn:cZ<=n)(a:WE)(hb:JE Qv a<=2147483648)(k:Int)(h0:0<k)(hk:k+(JE Qv a:Int)<=4294967296):
  ∃k1 out,ge.F n a k=some (k1,out)/\k<=k1/\k1<=k+(JE Qv a:Int)/\gk.F n out k=some k1:=by
 have hl0:=cy (e:=Qw) a;have hl1:JE Qv a=_:=cM (e:=Qw) a;obtain⟨k1,out,i1,i2,i3,i4,i5⟩:=BU hn (K0:=λk a=>some (k,a)) a [] n k (by unfold cZ at hn;omega) (by simp;omega) (by omega) h0 (by omega);exact⟨k1,out,i1,i2,by omega,i5 [] n _ rfl (by unfold cZ at hn;omega)⟩
theorem s9 {n:Nat}(hn:cZ<=n){K0:Int->Wu->Option (Int×Wu)}:∀(post pre:Wu) (f:Nat) (k:Int),post.length<f->pre.length+post.length<=2147483648->(KZ (JE Ql) post).sum<=2147483648->0<k->k+((KZ (JE Ql) post).sum:Int)<=4294967296->
  ∃k1 out,dM.l0 n K0 f k (pre.length:Int) (pre++post)=K0 k1 (pre++out)/\k<=k1/\k1<=k+((KZ (JE Ql) post).sum:Int)/\out.length=post.length/\
   ∀(pre2:Wu) (g:Nat) (H0:Int->Option Int),pre2.length=pre.length->post.length<g->dL.l0 n (pre2++out) H0 g k (pre.length:Int)=H0 k1:=by
 intro post
 induction post with
 |nil=>
  intro pre f k hf hl hs h0 hk;obtain⟨f,rfl⟩:∃m,f=m+1:=⟨f - 1,by omega⟩
  refine⟨k,[],?_,by omega,by simp,rfl,λpre2 g H0 hp hg=>?_⟩
  ·simp only[dM.l0,dg,eZ,if_false]
  ·obtain⟨g,rfl⟩:∃m,g=m+1:=⟨g - 1,by omega⟩
   rw[← hp];simp only[dL.l0,dg,eZ,if_false]
 |cons x post ih=>
  intro pre f k hf hl hs h0 hk;simp only[Jw]at hf hl;simp only[JM,Ko,LL]at hs hk⊢;obtain⟨f,rfl⟩:∃m,f=m+1:=⟨f - 1,by omega⟩
  have hw:Ju.wrap ((pre.length:Int)+1)=(pre.length:Int)+1:=aK _ (by omega) (by omega);have hB:JE Ql x=((Js x.1+1)+JE Qv x.2):=rfl;have hm1:=nY hn k (by omega);have hwk1:Ju.wrap (k+1)=k+1:=aK _ (by omega) (by omega);obtain⟨q2,y2,a2,b2,c2,d2⟩:=Fo hn x.2 (by omega) (k+1) (by omega) (by omega);obtain⟨k1,out,i1,i2,i3,i4,i5⟩:=ih (pre++[(((rY n k,y2)):Ww)]) f q2 (by omega) (by simp;omega) (by omega) (by omega) (by omega);rw[Jx,Kw]at i1 i5;refine⟨k1,(((rY n k,y2)):Ww)::out,?_,by omega,by omega,by simp[i4],λpre2 g H0 hp hg=>?_⟩
  ·simp only[dM.l0,dg,eY,eX,if_true,JS,cR,dU,hw,hm1,hwk1,Jp,a2]
   simpa using i1
  ·obtain⟨g,rfl⟩:∃m,g=m+1:=⟨g - 1,by omega⟩
   have i6:=i5 (pre2++[(((rY n k,y2)):Ww)]) g H0 (by simp[hp]) (by simp only[Jw]at hg;omega);rw[← hp]at i6 hw⊢;simp only[dL.l0,dg,eY,eX,if_true,JS,cR,dU,hw,hm1,hwk1,Jp,d2,decide_true,KU,JI,if_false,bJ,beq_self_eq_true,K8,nn,and_self];rw[ao (by omega)];simpa using i6
theorem vn {n:Nat}(hn:cZ<=n)(a:Wu)(hb:JE Qj a<=2147483648)(k:Int)(h0:0<k)(hk:k+(JE Qj a:Int)<=4294967296):
  ∃k1 out,dM.F n a k=some (k1,out)/\k<=k1/\k1<=k+(JE Qj a:Int)/\dL.F n out k=some k1:=by
 have hl0:=cy (e:=Ql) a;have hl1:JE Qj a=_:=cM (e:=Ql) a;obtain⟨k1,out,i1,i2,i3,i4,i5⟩:=s9 hn (K0:=λk a=>some (k,a)) a [] n k (by unfold cZ at hn;omega) (by simp;omega) (by omega) h0 (by omega);exact⟨k1,out,i1,i2,by omega,i5 [] n _ rfl (by unfold cZ at hn;omega)⟩
theorem tq {n:Nat}(hn:cZ<=n){K0:Int->Wy->Option (Int×Wy)}:∀(post pre:Wy) (f:Nat) (k:Int),post.length<f->pre.length+post.length<=2147483648->(KZ (JE Qq) post).sum<=2147483648->0<k->k+((KZ (JE Qq) post).sum:Int)<=4294967296->
  ∃k1 out,e8.l0 n K0 f k (pre.length:Int) (pre++post)=K0 k1 (pre++out)/\k<=k1/\k1<=k+((KZ (JE Qq) post).sum:Int)/\out.length=post.length/\
   ∀(pre2:Wy) (g:Nat) (H0:Int->Option Int),pre2.length=pre.length->post.length<g->eb.l0 n (pre2++out) H0 g k (pre.length:Int)=H0 k1:=by
 intro post
 induction post with
 |nil=>
  intro pre f k hf hl hs h0 hk;obtain⟨f,rfl⟩:∃m,f=m+1:=⟨f - 1,by omega⟩
  refine⟨k,[],?_,by omega,by simp,rfl,λpre2 g H0 hp hg=>?_⟩
  ·simp only[e8.l0,dg,eZ,if_false]
  ·obtain⟨g,rfl⟩:∃m,g=m+1:=⟨g - 1,by omega⟩
   rw[← hp];simp only[eb.l0,dg,eZ,if_false]
 |cons x post ih=>
  intro pre f k hf hl hs h0 hk;simp only[Jw]at hf hl;simp only[JM,Ko,LL]at hs hk⊢;obtain⟨f,rfl⟩:∃m,f=m+1:=⟨f - 1,by omega⟩
  have hw:Ju.wrap ((pre.length:Int)+1)=(pre.length:Int)+1:=aK _ (by omega) (by omega);have hB:JE Qq x=((Js x.1+1)+(JE Qz x.2.1+1)):=rfl;have hm1:=nY hn k (by omega);have hwk1:Ju.wrap (k+1)=k+1:=aK _ (by omega) (by omega);obtain⟨q2,y2,a2,b2,c2,d2⟩:=rZ hn x.2.1 (by omega) (k+1) (by omega) (by omega);have hwk2:Ju.wrap (q2+1)=q2+1:=aK _ (by omega) (by omega);obtain⟨k1,out,i1,i2,i3,i4,i5⟩:=ih (pre++[(((rY n k,(y2,q2))):WC)]) f (q2+1) (by omega) (by simp;omega) (by omega) (by omega) (by omega);rw[Jx,Kw]at i1 i5;refine⟨k1,(((rY n k,(y2,q2))):WC)::out,?_,by omega,by omega,by simp[i4],λpre2 g H0 hp hg=>?_⟩
  ·simp only[e8.l0,dg,eY,eX,if_true,JS,cR,dU,hw,hm1,hwk1,hwk2,Jp,a2]
   simpa using i1
  ·obtain⟨g,rfl⟩:∃m,g=m+1:=⟨g - 1,by omega⟩
   have i6:=i5 (pre2++[(((rY n k,(y2,q2))):WC)]) g H0 (by simp[hp]) (by simp only[Jw]at hg;omega);rw[← hp]at i6 hw⊢;simp only[eb.l0,dg,eY,eX,if_true,JS,cR,dU,hw,hm1,hwk1,hwk2,Jp,d2,decide_true,KU,JI,if_false,bJ,beq_self_eq_true,K8,nn,and_self];rw[ao (by omega)];simpa using i6
theorem xa {n:Nat}(hn:cZ<=n)(a:Wy)(hb:JE Qm a<=2147483648)(k:Int)(h0:0<k)(hk:k+(JE Qm a:Int)<=4294967296):
  ∃k1 out,e8.F n a k=some (k1,out)/\k<=k1/\k1<=k+(JE Qm a:Int)/\eb.F n out k=some k1:=by
 have hl0:=cy (e:=Qq) a;have hl1:JE Qm a=_:=cM (e:=Qq) a;obtain⟨k1,out,i1,i2,i3,i4,i5⟩:=tq hn (K0:=λk a=>some (k,a)) a [] n k (by unfold cZ at hn;omega) (by simp;omega) (by omega) h0 (by omega);exact⟨k1,out,i1,i2,by omega,i5 [] n _ rfl (by unfold cZ at hn;omega)⟩
theorem BV {n:Nat}(hn:cZ<=n){K0:Int->WN->Option (Int×WN)}:∀(post pre:WN) (f:Nat) (k:Int),post.length<f->pre.length+post.length<=2147483648->(KZ (JE (.int .i64)) post).sum<=2147483648->0<k->k+((KZ (JE (.int .i64)) post).sum:Int)<=4294967296->
  ∃k1 out,dE.l0 n K0 f k (pre.length:Int) (pre++post)=K0 k1 (pre++out)/\k<=k1/\k1<=k+((KZ (JE (.int .i64)) post).sum:Int)/\out.length=post.length/\
   ∀(pre2:WN) (g:Nat) (H0:Int->Option Int),pre2.length=pre.length->post.length<g->dD.l0 n (pre2++out) H0 g k (pre.length:Int)=H0 k1:=by
 intro post
 induction post with
 |nil=>
  intro pre f k hf hl hs h0 hk;obtain⟨f,rfl⟩:∃m,f=m+1:=⟨f - 1,by omega⟩
  refine⟨k,[],?_,by omega,by simp,rfl,λpre2 g H0 hp hg=>?_⟩
  ·simp only[dE.l0,dg,eZ,if_false]
  ·obtain⟨g,rfl⟩:∃m,g=m+1:=⟨g - 1,by omega⟩
   rw[← hp];simp only[dD.l0,dg,eZ,if_false]
 |cons x post ih=>
  intro pre f k hf hl hs h0 hk;simp only[Jw]at hf hl;simp only[JM,Ko,LL]at hs hk⊢;obtain⟨f,rfl⟩:∃m,f=m+1:=⟨f - 1,by omega⟩
  have hw:Ju.wrap ((pre.length:Int)+1)=(pre.length:Int)+1:=aK _ (by omega) (by omega);have hB:JE (.int .i64) x=1:=rfl;have hwk1:Ju.wrap (k+1)=k+1:=aK _ (by omega) (by omega);obtain⟨k1,out,i1,i2,i3,i4,i5⟩:=ih (pre++[((k):Int)]) f (k+1) (by omega) (by simp;omega) (by omega) (by omega) (by omega);rw[Jx,Kw]at i1 i5;refine⟨k1,((k):Int)::out,?_,by omega,by omega,by simp[i4],λpre2 g H0 hp hg=>?_⟩
  ·simp only[dE.l0,dg,eY,eX,if_true,JS,cR,dU,hw,hwk1,Jp]
   simpa using i1
  ·obtain⟨g,rfl⟩:∃m,g=m+1:=⟨g - 1,by omega⟩
   have i6:=i5 (pre2++[((k):Int)]) g H0 (by simp[hp]) (by simp only[Jw]at hg;omega);rw[← hp]at i6 hw⊢;simp only[dD.l0,dg,eY,eX,if_true,JS,cR,dU,hw,hwk1,Jp,decide_true,KU,JI,if_false,bJ,beq_self_eq_true,K8,nn,and_self];simpa using i6
theorem vo {n:Nat}(hn:cZ<=n)(a:WN)(hb:JE Qy a<=2147483648)(k:Int)(h0:0<k)(hk:k+(JE Qy a:Int)<=4294967296):
  ∃k1 out,dE.F n a k=some (k1,out)/\k<=k1/\k1<=k+(JE Qy a:Int)/\dD.F n out k=some k1:=by
 have hl0:=cy (e:=.int .i64) a;have hl1:JE Qy a=_:=cM (e:=.int .i64) a;obtain⟨k1,out,i1,i2,i3,i4,i5⟩:=BV hn (K0:=λk a=>some (k,a)) a [] n k (by unfold cZ at hn;omega) (by simp;omega) (by omega) h0 (by omega);exact⟨k1,out,i1,i2,by omega,i5 [] n _ rfl (by unfold cZ at hn;omega)⟩
theorem BW {n:Nat}(hn:cZ<=n){K0:Int->WD->Option (Int×WD)}:∀(post pre:WD) (f:Nat) (k:Int),post.length<f->pre.length+post.length<=2147483648->(KZ (JE Qn) post).sum<=2147483648->0<k->k+((KZ (JE Qn) post).sum:Int)<=4294967296->
  ∃k1 out,gl.l0 n K0 f k (pre.length:Int) (pre++post)=K0 k1 (pre++out)/\k<=k1/\k1<=k+((KZ (JE Qn) post).sum:Int)/\out.length=post.length/\
   ∀(pre2:WD) (g:Nat) (H0:Int->Option Int),pre2.length=pre.length->post.length<g->gf.l0 n (pre2++out) H0 g k (pre.length:Int)=H0 k1:=by
 intro post
 induction post with
 |nil=>
  intro pre f k hf hl hs h0 hk;obtain⟨f,rfl⟩:∃m,f=m+1:=⟨f - 1,by omega⟩
  refine⟨k,[],?_,by omega,by simp,rfl,λpre2 g H0 hp hg=>?_⟩
  ·simp only[gl.l0,dg,eZ,if_false]
  ·obtain⟨g,rfl⟩:∃m,g=m+1:=⟨g - 1,by omega⟩
   rw[← hp];simp only[gf.l0,dg,eZ,if_false]
 |cons x post ih=>
  intro pre f k hf hl hs h0 hk;simp only[Jw]at hf hl;simp only[JM,Ko,LL]at hs hk⊢;obtain⟨f,rfl⟩:∃m,f=m+1:=⟨f - 1,by omega⟩
  have hw:Ju.wrap ((pre.length:Int)+1)=(pre.length:Int)+1:=aK _ (by omega) (by omega);have hB:JE Qn x=(1+((Js x.2.1+1)+JE Qy x.2.2)):=rfl;have hwk1:Ju.wrap (k+1)=k+1:=aK _ (by omega) (by omega);have hm1:=nY hn (k+1) (by omega);have hwk2:Ju.wrap (k+1+1)=k+1+1:=aK _ (by omega) (by omega);obtain⟨q2,y2,a2,b2,c2,d2⟩:=vo hn x.2.2 (by omega) (k+1+1) (by omega) (by omega);obtain⟨k1,out,i1,i2,i3,i4,i5⟩:=ih (pre++[(((k,(rY n (k+1),y2))):WG)]) f q2 (by omega) (by simp;omega) (by omega) (by omega) (by omega);rw[Jx,Kw]at i1 i5;refine⟨k1,(((k,(rY n (k+1),y2))):WG)::out,?_,by omega,by omega,by simp[i4],λpre2 g H0 hp hg=>?_⟩
  ·simp only[gl.l0,dg,eY,eX,if_true,JS,cR,dU,hw,hwk1,hm1,hwk2,Jp,a2]
   simpa using i1
  ·obtain⟨g,rfl⟩:∃m,g=m+1:=⟨g - 1,by omega⟩
   have i6:=i5 (pre2++[(((k,(rY n (k+1),y2))):WG)]) g H0 (by simp[hp]) (by simp only[Jw]at hg;omega);rw[← hp]at i6 hw⊢;simp only[gf.l0,dg,eY,eX,if_true,JS,cR,dU,hw,hwk1,hm1,hwk2,Jp,d2,decide_true,KU,JI,if_false,bJ,beq_self_eq_true,K8,nn,and_self];rw[ao (by omega)];simpa using i6
theorem Fp {n:Nat}(hn:cZ<=n)(a:WD)(hb:JE Qk a<=2147483648)(k:Int)(h0:0<k)(hk:k+(JE Qk a:Int)<=4294967296):
  ∃k1 out,gl.F n a k=some (k1,out)/\k<=k1/\k1<=k+(JE Qk a:Int)/\gf.F n out k=some k1:=by
 have hl0:=cy (e:=Qn) a;have hl1:JE Qk a=_:=cM (e:=Qn) a;obtain⟨k1,out,i1,i2,i3,i4,i5⟩:=BW hn (K0:=λk a=>some (k,a)) a [] n k (by unfold cZ at hn;omega) (by simp;omega) (by omega) h0 (by omega);exact⟨k1,out,i1,i2,by omega,i5 [] n _ rfl (by unfold cZ at hn;omega)⟩
theorem BX {n:Nat}(hn:cZ<=n){K0:Int->WD->Option (Int×WD)}:∀(post pre:WD) (f:Nat) (k:Int),post.length<f->pre.length+post.length<=2147483648->(KZ (JE Qn) post).sum<=2147483648->0<k->k+((KZ (JE Qn) post).sum:Int)<=4294967296->
  ∃k1 out,gi.l0 n K0 f k (pre.length:Int) (pre++post)=K0 k1 (pre++out)/\k<=k1/\k1<=k+((KZ (JE Qn) post).sum:Int)/\out.length=post.length/\
   ∀(pre2:WD) (g:Nat) (H0:Int->Option Int),pre2.length=pre.length->post.length<g->gm.l0 n (pre2++out) H0 g k (pre.length:Int)=H0 k1:=by
 intro post
 induction post with
 |nil=>
  intro pre f k hf hl hs h0 hk;obtain⟨f,rfl⟩:∃m,f=m+1:=⟨f - 1,by omega⟩
  refine⟨k,[],?_,by omega,by simp,rfl,λpre2 g H0 hp hg=>?_⟩
  ·simp only[gi.l0,dg,eZ,if_false]
  ·obtain⟨g,rfl⟩:∃m,g=m+1:=⟨g - 1,by omega⟩
   rw[← hp];simp only[gm.l0,dg,eZ,if_false]
 |cons x post ih=>
  intro pre f k hf hl hs h0 hk;simp only[Jw]at hf hl;simp only[JM,Ko,LL]at hs hk⊢;obtain⟨f,rfl⟩:∃m,f=m+1:=⟨f - 1,by omega⟩
  have hw:Ju.wrap ((pre.length:Int)+1)=(pre.length:Int)+1:=aK _ (by omega) (by omega);have hB:JE Qn x=(1+((Js x.2.1+1)+JE Qy x.2.2)):=rfl;have hwk1:Ju.wrap (k+1)=k+1:=aK _ (by omega) (by omega);have hm1:=nY hn (k+1) (by omega);have hwk2:Ju.wrap (k+1+1)=k+1+1:=aK _ (by omega) (by omega);obtain⟨q2,y2,a2,b2,c2,d2⟩:=vo hn x.2.2 (by omega) (k+1+1) (by omega) (by omega);obtain⟨k1,out,i1,i2,i3,i4,i5⟩:=ih (pre++[(((k,(rY n (k+1),y2))):WG)]) f q2 (by omega) (by simp;omega) (by omega) (by omega) (by omega);rw[Jx,Kw]at i1 i5;refine⟨k1,(((k,(rY n (k+1),y2))):WG)::out,?_,by omega,by omega,by simp[i4],λpre2 g H0 hp hg=>?_⟩
  ·simp only[gi.l0,dg,eY,eX,if_true,JS,cR,dU,hw,hwk1,hm1,hwk2,Jp,a2]
   simpa using i1
  ·obtain⟨g,rfl⟩:∃m,g=m+1:=⟨g - 1,by omega⟩
   have i6:=i5 (pre2++[(((k,(rY n (k+1),y2))):WG)]) g H0 (by simp[hp]) (by simp only[Jw]at hg;omega);rw[← hp]at i6 hw⊢;simp only[gm.l0,dg,eY,eX,if_true,JS,cR,dU,hw,hwk1,hm1,hwk2,Jp,d2,decide_true,KU,JI,if_false,bJ,beq_self_eq_true,K8,nn,and_self];rw[ao (by omega)];simpa using i6
theorem Fq {n:Nat}(hn:cZ<=n)(a:WD)(hb:JE Qk a<=2147483648)(k:Int)(h0:0<k)(hk:k+(JE Qk a:Int)<=4294967296):
  ∃k1 out,gi.F n a k=some (k1,out)/\k<=k1/\k1<=k+(JE Qk a:Int)/\gm.F n out k=some k1:=by
 have hl0:=cy (e:=Qn) a;have hl1:JE Qk a=_:=cM (e:=Qn) a;obtain⟨k1,out,i1,i2,i3,i4,i5⟩:=BX hn (K0:=λk a=>some (k,a)) a [] n k (by unfold cZ at hn;omega) (by simp;omega) (by omega) h0 (by omega);exact⟨k1,out,i1,i2,by omega,i5 [] n _ rfl (by unfold cZ at hn;omega)⟩
theorem zm {n:Nat}(hn:cZ<=n){K0:Int->Wh->Option (Int×Wh)}:∀(post pre:Wh) (f:Nat) (k:Int),post.length<f->pre.length+post.length<=2147483648->(KZ (JE Qf) post).sum<=2147483648->0<k->k+((KZ (JE Qf) post).sum:Int)<=4294967296->
  ∃k1 out,fp.l0 n K0 f k (pre.length:Int) (pre++post)=K0 k1 (pre++out)/\k<=k1/\k1<=k+((KZ (JE Qf) post).sum:Int)/\out.length=post.length/\
   ∀(pre2:Wh) (g:Nat) (H0:Int->Option Int),pre2.length=pre.length->post.length<g->fq.l0 n (pre2++out) H0 g k (pre.length:Int)=H0 k1:=by
 intro post
 induction post with
 |nil=>
  intro pre f k hf hl hs h0 hk;obtain⟨f,rfl⟩:∃m,f=m+1:=⟨f - 1,by omega⟩
  refine⟨k,[],?_,by omega,by simp,rfl,λpre2 g H0 hp hg=>?_⟩
  ·simp only[fp.l0,dg,eZ,if_false]
  ·obtain⟨g,rfl⟩:∃m,g=m+1:=⟨g - 1,by omega⟩
   rw[← hp];simp only[fq.l0,dg,eZ,if_false]
 |cons x post ih=>
  intro pre f k hf hl hs h0 hk;simp only[Jw]at hf hl;simp only[JM,Ko,LL]at hs hk⊢;obtain⟨f,rfl⟩:∃m,f=m+1:=⟨f - 1,by omega⟩
  have hw:Ju.wrap ((pre.length:Int)+1)=(pre.length:Int)+1:=aK _ (by omega) (by omega);have hB:JE Qf x=(JE Qk x.1+((1+((Js x.2.1.2.1+1)+JE Qy x.2.1.2.2))+JE Qk x.2.2)):=rfl;obtain⟨q1,y1,a1,b1,c1,d1⟩:=Fp hn x.1 (by omega) k (by omega) (by omega);have hwk1:Ju.wrap (q1+1)=q1+1:=aK _ (by omega) (by omega);have hm2:=nY hn (q1+1) (by omega);have hwk2:Ju.wrap (q1+1+1)=q1+1+1:=aK _ (by omega) (by omega);obtain⟨q3,y3,a3,b3,c3,d3⟩:=vo hn x.2.1.2.2 (by omega) (q1+1+1) (by omega) (by omega);obtain⟨q4,y4,a4,b4,c4,d4⟩:=Fq hn x.2.2 (by omega) q3 (by omega) (by omega);obtain⟨k1,out,i1,i2,i3,i4,i5⟩:=ih (pre++[(((y1,((q1,(rY n (q1+1),y3)),y4))):Wk)]) f q4 (by omega) (by simp;omega) (by omega) (by omega) (by omega);rw[Jx,Kw]at i1 i5;refine⟨k1,(((y1,((q1,(rY n (q1+1),y3)),y4))):Wk)::out,?_,by omega,by omega,by simp[i4],λpre2 g H0 hp hg=>?_⟩
  ·simp only[fp.l0,dg,eY,eX,if_true,JS,cR,dU,hw,hwk1,hm2,hwk2,Jp,a1,a3,a4]
   simpa using i1
  ·obtain⟨g,rfl⟩:∃m,g=m+1:=⟨g - 1,by omega⟩
   have i6:=i5 (pre2++[(((y1,((q1,(rY n (q1+1),y3)),y4))):Wk)]) g H0 (by simp[hp]) (by simp only[Jw]at hg;omega);rw[← hp]at i6 hw⊢;simp only[fq.l0,dg,eY,eX,if_true,JS,cR,dU,hw,hwk1,hm2,hwk2,Jp,d1,d3,d4,decide_true,KU,JI,if_false,bJ,beq_self_eq_true,K8,nn,and_self];rw[ao (by omega),ao (by omega),ao (by omega)];simpa using i6
theorem De {n:Nat}(hn:cZ<=n)(a:Wh)(hb:JE Qe a<=2147483648)(k:Int)(h0:0<k)(hk:k+(JE Qe a:Int)<=4294967296):
  ∃k1 out,fp.F n a k=some (k1,out)/\k<=k1/\k1<=k+(JE Qe a:Int)/\fq.F n out k=some k1:=by
 have hl0:=cy (e:=Qf) a;have hl1:JE Qe a=_:=cM (e:=Qf) a;obtain⟨k1,out,i1,i2,i3,i4,i5⟩:=zm hn (K0:=λk a=>some (k,a)) a [] n k (by unfold cZ at hn;omega) (by simp;omega) (by omega) h0 (by omega);exact⟨k1,out,i1,i2,by omega,i5 [] n _ rfl (by unfold cZ at hn;omega)⟩
theorem Au {n:Nat}(hn:cZ<=n)(a:Wb)(hb:JE Qc a<=2147483648)(k:Int)(h0:0<k)(hk:k+(JE Qc a:Int)<=4294967296):
  ∃k1 out,io.F n a k=some (k1,out)/\k<=k1/\k1<=k+(JE Qc a:Int)/\ij.F n out k=some k1:=by
 have hB:JE Qc a=(JE Qj a.1+(JE Qm a.2.1+JE Qe a.2.2)):=rfl;obtain⟨q1,y1,a1,b1,c1,d1⟩:=vn hn a.1 (by omega) k (by omega) (by omega);obtain⟨q2,y2,a2,b2,c2,d2⟩:=xa hn a.2.1 (by omega) q1 (by omega) (by omega);obtain⟨q3,y3,a3,b3,c3,d3⟩:=De hn a.2.2 (by omega) q2 (by omega) (by omega);refine⟨((q3,(y1,(y2,y3)))).1,((q3,(y1,(y2,y3)))).2,?_,?_,?_,?_⟩
 ·unfold io.F
  exact bS a1 (bS a2 (bS a3 (rfl)))
 ·show k<=q3
  omega
 ·show q3<=_
  omega
 ·unfold ij.F
  refine bS d1 ?_
  try dsimp only
  rw[ao (by simp only[dg];omega)];refine bS d2 ?_
  try dsimp only
  rw[ao (by simp only[dg];omega)];refine bS d3 ?_
  try dsimp only
  rw[ao (by simp only[dg];omega)]
  all_goals rfl
end Go.Abs
