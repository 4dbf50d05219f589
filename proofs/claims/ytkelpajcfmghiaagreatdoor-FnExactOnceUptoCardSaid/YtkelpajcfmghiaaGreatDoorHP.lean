/- What the laws' helpers answer. Conditions: none. -/
import Derived.Test.YtkelpajcfmghiaaGreatDoorF4
import Derived.Test.YtkelpajcfmghiaaGreatDoorPl
open Bool renaming false_eq_true → JG,not_false → KY,not_true → KR
open ByteArray renaming empty → Jo,size → Jq
open Go.Abs.Kd renaming bulk → JC
open Go.IntKind renaming i64 → Js
open Int renaming natCast_add → LJ,toNat_natCast → JQ
open List renaming length → Jp,length_append → Jv,length_cons → Ju,length_eq_zero_iff → Kq,length_singleton → Ku,map → KW,map_cons → JK,sum_cons → Kl
open Option renaming bind_some → Jn
namespace Go.Abs
theorem vf {n:Nat}(hn:cZ<=n)(a:WL)(hb:∀x,x∈a->JC .str x<=2147483648)(hl:Jp a<=2147483648){K0:Int->Option Int}(hK:∀x,∃r,K0 x=some r):∀(d k:Nat) (left i:Int),0<=i->(Jp a:Int) - i=d->d<k->∃r,dD.l0 n a K0 k left i=some r:=by
 intro d
 induction d with
 |zero=>
  intro k left i h0 h1 hk;obtain⟨k,rfl⟩:∃m,k=m+1:=⟨k - 1,by omega⟩
  simp only[dD.l0,dg];rw[ao (by omega)];exact hK _
 |succ d ih=>
  intro k left i h0 h1 hk;obtain⟨k,rfl⟩:∃m,k=m+1:=⟨k - 1,by omega⟩
  have hw:Js.wrap (i+1)=i+1:=aK _ (by omega) (by omega);have hx:=hb _ (getD_mem' a i Jo h0 (by omega));simp only[dD.l0,dg,hw];rw[ab (by omega),ab ⟨h0,by omega⟩]
  repeat' first|exact⟨_,rfl⟩|exact ih _ _ _ (by omega) (by omega) (by omega)|split
theorem rS {n:Nat}(hn:cZ<=n)(a:WL)(hb:JC Qz a<=2147483648)(left:Int):∃r,dD.F n a left=some r:=by
 have hs:=cM (e:=.str) a;have hl:=cy (e:=.str) a;have hm:∀x,x∈a->JC .str x<=2147483648:=λx hx=>by have:=dk (e:=.str) hx;omega
 unfold dD.F
 repeat' first|exact⟨_,rfl⟩|exact vf hn a hm (by omega) (λx=>⟨_,rfl⟩) (Jp a) n _ 0 (by omega) (by omega) (by unfold cZ at hn;omega)|split
theorem Ho {n:Nat}(hn:cZ<=n)(a:WH)(hb:JC Qw a<=2147483648)(left:Int):∃r,ld.F n a left=some r:=by
 unfold ld.F
 split
 ·exact⟨_,rfl⟩
 refine dj (rS hn _ (by simp only[JC]at hb⊢;omega) _) (λr=>?_)
 try dsimp only
 split
 ·exact⟨_,rfl⟩
 exact⟨_,rfl⟩
theorem BI {n:Nat}(hn:cZ<=n)(a:WE)(hb:∀x,x∈a->JC Qw x<=2147483648)(hl:Jp a<=2147483648){K0:Int->Option Int}(hK:∀x,∃r,K0 x=some r):∀(d k:Nat) (left i:Int),0<=i->(Jp a:Int) - i=d->d<k->∃r,gJ.l0 n a K0 k left i=some r:=by
 intro d
 induction d with
 |zero=>
  intro k left i h0 h1 hk;obtain⟨k,rfl⟩:∃m,k=m+1:=⟨k - 1,by omega⟩
  simp only[gJ.l0,dg];rw[ao (by omega)];exact hK _
 |succ d ih=>
  intro k left i h0 h1 hk;obtain⟨k,rfl⟩:∃m,k=m+1:=⟨k - 1,by omega⟩
  have hw:Js.wrap (i+1)=i+1:=aK _ (by omega) (by omega);have hx:=hb _ (getD_mem' a i (Jo,[]) h0 (by omega));simp only[gJ.l0,dg,hw];rw[ab (by omega),ab ⟨h0,by omega⟩]
  repeat' first|exact⟨_,rfl⟩|exact ih _ _ _ (by omega) (by omega) (by omega)|split|refine dj (Ho hn _ hx _) (λr=>?_)
theorem F6 {n:Nat}(hn:cZ<=n)(a:WE)(hb:JC Qv a<=2147483648)(left:Int):∃r,gJ.F n a left=some r:=by
 have hs:=cM (e:=.st Qx) a;have hl:=cy (e:=.st Qx) a;have hm:∀x,x∈a->JC Qw x<=2147483648:=λx hx=>by have:=dk (e:=.st Qx) hx;omega
 unfold gJ.F
 repeat' first|exact⟨_,rfl⟩|exact BI hn a hm (by omega) (λx=>⟨_,rfl⟩) (Jp a) n _ 0 (by omega) (by omega) (by unfold cZ at hn;omega)|split
theorem wY {n:Nat}(hn:cZ<=n)(a:Ww)(hb:JC Ql a<=2147483648)(left:Int):∃r,ib.F n a left=some r:=by
 unfold ib.F
 split
 ·exact⟨_,rfl⟩
 refine dj (F6 hn _ (by simp only[JC]at hb⊢;omega) _) (λr=>?_)
 try dsimp only
 split
 ·exact⟨_,rfl⟩
 exact⟨_,rfl⟩
theorem rT {n:Nat}(hn:cZ<=n)(a:Wu)(hb:∀x,x∈a->JC Ql x<=2147483648)(hl:Jp a<=2147483648){K0:Int->Option Int}(hK:∀x,∃r,K0 x=some r):∀(d k:Nat) (left i:Int),0<=i->(Jp a:Int) - i=d->d<k->∃r,dT.l0 n a K0 k left i=some r:=by
 intro d
 induction d with
 |zero=>
  intro k left i h0 h1 hk;obtain⟨k,rfl⟩:∃m,k=m+1:=⟨k - 1,by omega⟩
  simp only[dT.l0,dg];rw[ao (by omega)];exact hK _
 |succ d ih=>
  intro k left i h0 h1 hk;obtain⟨k,rfl⟩:∃m,k=m+1:=⟨k - 1,by omega⟩
  have hw:Js.wrap (i+1)=i+1:=aK _ (by omega) (by omega);have hx:=hb _ (getD_mem' a i (Jo,[]) h0 (by omega));simp only[dT.l0,dg,hw];rw[ab (by omega),ab ⟨h0,by omega⟩]
  repeat' first|exact⟨_,rfl⟩|exact ih _ _ _ (by omega) (by omega) (by omega)|split|refine dj (wY hn _ hx _) (λr=>?_)
theorem vg {n:Nat}(hn:cZ<=n)(a:Wu)(hb:JC Qj a<=2147483648)(left:Int):∃r,dT.F n a left=some r:=by
 have hs:=cM (e:=.st Qp) a;have hl:=cy (e:=.st Qp) a;have hm:∀x,x∈a->JC Ql x<=2147483648:=λx hx=>by have:=dk (e:=.st Qp) hx;omega
 unfold dT.F
 repeat' first|exact⟨_,rfl⟩|exact rT hn a hm (by omega) (λx=>⟨_,rfl⟩) (Jp a) n _ 0 (by omega) (by omega) (by unfold cZ at hn;omega)|split
theorem zf {n:Nat}(hn:cZ<=n)(a:WC)(hb:JC Qq a<=2147483648)(left:Int):∃r,iD.F n a left=some r:=by
 unfold iD.F
 split
 ·exact⟨_,rfl⟩
 refine dj (rS hn _ (by simp only[JC]at hb⊢;omega) _) (λr=>?_)
 try dsimp only
 split
 ·exact⟨_,rfl⟩
 exact⟨_,rfl⟩
theorem tj {n:Nat}(hn:cZ<=n)(a:Wy)(hb:∀x,x∈a->JC Qq x<=2147483648)(hl:Jp a<=2147483648){K0:Int->Option Int}(hK:∀x,∃r,K0 x=some r):∀(d k:Nat) (left i:Int),0<=i->(Jp a:Int) - i=d->d<k->∃r,ec.l0 n a K0 k left i=some r:=by
 intro d
 induction d with
 |zero=>
  intro k left i h0 h1 hk;obtain⟨k,rfl⟩:∃m,k=m+1:=⟨k - 1,by omega⟩
  simp only[ec.l0,dg];rw[ao (by omega)];exact hK _
 |succ d ih=>
  intro k left i h0 h1 hk;obtain⟨k,rfl⟩:∃m,k=m+1:=⟨k - 1,by omega⟩
  have hw:Js.wrap (i+1)=i+1:=aK _ (by omega) (by omega);have hx:=hb _ (getD_mem' a i (Jo,([],0)) h0 (by omega));simp only[ec.l0,dg,hw];rw[ab (by omega),ab ⟨h0,by omega⟩]
  repeat' first|exact⟨_,rfl⟩|exact ih _ _ _ (by omega) (by omega) (by omega)|split|refine dj (zf hn _ hx _) (λr=>?_)
theorem wZ {n:Nat}(hn:cZ<=n)(a:Wy)(hb:JC Qm a<=2147483648)(left:Int):∃r,ec.F n a left=some r:=by
 have hs:=cM (e:=.st Qt) a;have hl:=cy (e:=.st Qt) a;have hm:∀x,x∈a->JC Qq x<=2147483648:=λx hx=>by have:=dk (e:=.st Qt) hx;omega
 unfold ec.F
 repeat' first|exact⟨_,rfl⟩|exact tj hn a hm (by omega) (λx=>⟨_,rfl⟩) (Jp a) n _ 0 (by omega) (by omega) (by unfold cZ at hn;omega)|split
theorem Aq {n:Nat}(hn:cZ<=n)(a:WN)(hb:JC Qy a<=2147483648)(left:Int):∃r,iJ.F n a left=some r:=by
 unfold iJ.F
 split
 ·exact⟨_,rfl⟩
 exact⟨_,rfl⟩
theorem Hp {n:Nat}(hn:cZ<=n)(a:WG)(hb:JC Qn a<=2147483648)(left:Int):∃r,lf.F n a left=some r:=by
 unfold lf.F
 split
 ·exact⟨_,rfl⟩
 refine dj (Aq hn _ (by simp only[JC]at hb⊢;omega) _) (λr=>?_)
 try dsimp only
 split
 ·exact⟨_,rfl⟩
 exact⟨_,rfl⟩
theorem BJ {n:Nat}(hn:cZ<=n)(a:WD)(hb:∀x,x∈a->JC Qn x<=2147483648)(hl:Jp a<=2147483648){K0:Int->Option Int}(hK:∀x,∃r,K0 x=some r):∀(d k:Nat) (left i:Int),0<=i->(Jp a:Int) - i=d->d<k->∃r,gH.l0 n a K0 k left i=some r:=by
 intro d
 induction d with
 |zero=>
  intro k left i h0 h1 hk;obtain⟨k,rfl⟩:∃m,k=m+1:=⟨k - 1,by omega⟩
  simp only[gH.l0,dg];rw[ao (by omega)];exact hK _
 |succ d ih=>
  intro k left i h0 h1 hk;obtain⟨k,rfl⟩:∃m,k=m+1:=⟨k - 1,by omega⟩
  have hw:Js.wrap (i+1)=i+1:=aK _ (by omega) (by omega);have hx:=hb _ (getD_mem' a i (0,(Jo,[])) h0 (by omega));simp only[gH.l0,dg,hw];rw[ab (by omega),ab ⟨h0,by omega⟩]
  repeat' first|exact⟨_,rfl⟩|exact ih _ _ _ (by omega) (by omega) (by omega)|split|refine dj (Hp hn _ hx _) (λr=>?_)
theorem F7 {n:Nat}(hn:cZ<=n)(a:WD)(hb:JC Qk a<=2147483648)(left:Int):∃r,gH.F n a left=some r:=by
 have hs:=cM (e:=.st Qr) a;have hl:=cy (e:=.st Qr) a;have hm:∀x,x∈a->JC Qn x<=2147483648:=λx hx=>by have:=dk (e:=.st Qr) hx;omega
 unfold gH.F
 repeat' first|exact⟨_,rfl⟩|exact BJ hn a hm (by omega) (λx=>⟨_,rfl⟩) (Jp a) n _ 0 (by omega) (by omega) (by unfold cZ at hn;omega)|split
theorem D7 {n:Nat}(hn:cZ<=n)(a:WG)(hb:JC Qn a<=2147483648)(left:Int):∃r,jg.F n a left=some r:=by
 unfold jg.F
 split
 ·exact⟨_,rfl⟩
 refine dj (Aq hn _ (by simp only[JC]at hb⊢;omega) _) (λr=>?_)
 try dsimp only
 split
 ·exact⟨_,rfl⟩
 exact⟨_,rfl⟩
theorem BK {n:Nat}(hn:cZ<=n)(a:WD)(hb:∀x,x∈a->JC Qn x<=2147483648)(hl:Jp a<=2147483648){K0:Int->Option Int}(hK:∀x,∃r,K0 x=some r):∀(d k:Nat) (left i:Int),0<=i->(Jp a:Int) - i=d->d<k->∃r,gG.l0 n a K0 k left i=some r:=by
 intro d
 induction d with
 |zero=>
  intro k left i h0 h1 hk;obtain⟨k,rfl⟩:∃m,k=m+1:=⟨k - 1,by omega⟩
  simp only[gG.l0,dg];rw[ao (by omega)];exact hK _
 |succ d ih=>
  intro k left i h0 h1 hk;obtain⟨k,rfl⟩:∃m,k=m+1:=⟨k - 1,by omega⟩
  have hw:Js.wrap (i+1)=i+1:=aK _ (by omega) (by omega);have hx:=hb _ (getD_mem' a i (0,(Jo,[])) h0 (by omega));simp only[gG.l0,dg,hw];rw[ab (by omega),ab ⟨h0,by omega⟩]
  repeat' first|exact⟨_,rfl⟩|exact ih _ _ _ (by omega) (by omega) (by omega)|split|refine dj (D7 hn _ hx _) (λr=>?_)
theorem F8 {n:Nat}(hn:cZ<=n)(a:WD)(hb:JC Qk a<=2147483648)(left:Int):∃r,gG.F n a left=some r:=by
 have hs:=cM (e:=.st Qr) a;have hl:=cy (e:=.st Qr) a;have hm:∀x,x∈a->JC Qn x<=2147483648:=λx hx=>by have:=dk (e:=.st Qr) hx;omega
 unfold gG.F
 repeat' first|exact⟨_,rfl⟩|exact BK hn a hm (by omega) (λx=>⟨_,rfl⟩) (Jp a) n _ 0 (by omega) (by omega) (by unfold cZ at hn;omega)|split
theorem F9 {n:Nat}(hn:cZ<=n)(a:Wk)(hb:JC Qf a<=2147483648)(left:Int):∃r,km.F n a left=some r:=by
 unfold km.F;refine dj (F7 hn _ (by simp only[JC]at hb⊢;omega) _) (λr=>?_)
 try dsimp only
 split
 ·exact⟨_,rfl⟩
 refine dj (D7 hn _ (by simp only[JC]at hb⊢;omega) _) (λr=>?_)
 try dsimp only
 split
 ·exact⟨_,rfl⟩
 refine dj (F8 hn _ (by simp only[JC]at hb⊢;omega) _) (λr=>?_)
 try dsimp only
 split
 ·exact⟨_,rfl⟩
 exact⟨_,rfl⟩
theorem zg {n:Nat}(hn:cZ<=n)(a:Wh)(hb:∀x,x∈a->JC Qf x<=2147483648)(hl:Jp a<=2147483648){K0:Int->Option Int}(hK:∀x,∃r,K0 x=some r):∀(d k:Nat) (left i:Int),0<=i->(Jp a:Int) - i=d->d<k->∃r,fR.l0 n a K0 k left i=some r:=by
 intro d
 induction d with
 |zero=>
  intro k left i h0 h1 hk;obtain⟨k,rfl⟩:∃m,k=m+1:=⟨k - 1,by omega⟩
  simp only[fR.l0,dg];rw[ao (by omega)];exact hK _
 |succ d ih=>
  intro k left i h0 h1 hk;obtain⟨k,rfl⟩:∃m,k=m+1:=⟨k - 1,by omega⟩
  have hw:Js.wrap (i+1)=i+1:=aK _ (by omega) (by omega);have hx:=hb _ (getD_mem' a i ([],((0,(Jo,[])),[])) h0 (by omega));simp only[fR.l0,dg,hw];rw[ab (by omega),ab ⟨h0,by omega⟩]
  repeat' first|exact⟨_,rfl⟩|exact ih _ _ _ (by omega) (by omega) (by omega)|split|refine dj (F9 hn _ hx _) (λr=>?_)
theorem D8 {n:Nat}(hn:cZ<=n)(a:Wh)(hb:JC Qe a<=2147483648)(left:Int):∃r,fR.F n a left=some r:=by
 have hs:=cM (e:=.st Qg) a;have hl:=cy (e:=.st Qg) a;have hm:∀x,x∈a->JC Qf x<=2147483648:=λx hx=>by have:=dk (e:=.st Qg) hx;omega
 unfold fR.F
 repeat' first|exact⟨_,rfl⟩|exact zg hn a hm (by omega) (λx=>⟨_,rfl⟩) (Jp a) n _ 0 (by omega) (by omega) (by unfold cZ at hn;omega)|split
theorem Fa {n:Nat}(hn:cZ<=n)(a:Wb)(hb:JC Qc a<=2147483648)(left:Int):∃r,kq.F n a left=some r:=by
 unfold kq.F;refine dj (vg hn _ (by simp only[JC]at hb⊢;omega) _) (λr=>?_)
 try dsimp only
 split
 ·exact⟨_,rfl⟩
 refine dj (wZ hn _ (by simp only[JC]at hb⊢;omega) _) (λr=>?_)
 try dsimp only
 split
 ·exact⟨_,rfl⟩
 refine dj (D8 hn _ (by simp only[JC]at hb⊢;omega) _) (λr=>?_)
 try dsimp only
 split
 ·exact⟨_,rfl⟩
 exact⟨_,rfl⟩
theorem vh {n:Nat}(hn:cZ<=n)(a:WL)(hl:Jp a<=2147483648)(hb:∀x,x∈a->JC .str x<=2147483648){K0:WL->Option WL}:∀(post pre junk:WL) (k:Nat),a=pre++post->junk.length=post.length->post.length<k->dF.l0 n a K0 k (pre.length:Int) (pre++junk)=K0 a:=by
 intro post
 induction post with
 |nil=>
  intro pre junk k ha hj hk;obtain⟨k,rfl⟩:∃m,k=m+1:=⟨k - 1,by omega⟩
  obtain rfl:junk=[]:=Kq.1 hj;subst ha;simp only[dF.l0,dg,eZ,if_false]
 |cons x post ih=>
  intro pre junk k ha hj hk;obtain⟨k,rfl⟩:∃m,k=m+1:=⟨k - 1,by omega⟩
  match junk,hj with
  |y::junk,hj=>
   have hw:Js.wrap ((pre.length:Int)+1)=((pre++[x]).length:Int):=by
    rw[aK _ (by omega) (by rw[ha]at hl;simp at hl;omega)];simp
   have hx:=hb x (by rw[ha];simp);have:=ih (pre++[x]) junk k (by rw[ha];simp) (by simpa using hj) (by simpa using hk);subst ha;simp only[dF.l0,dg,eY,eX,if_true,JQ,cR,dU,hw,Jn];simpa using this
theorem rU {n:Nat}(hn:cZ<=n)(a:WL)(hb:JC Qz a<=2147483648):dF.F n a=some a:=by
 have hs:=cM (e:=.str) a;have hl:=cy (e:=.str) a;have hm:∀x,x∈a->JC .str x<=2147483648:=λx hx=>by have:=dk (e:=.str) hx;omega
 unfold dF.F;rw[ab ⟨by omega,by omega,by unfold aT;omega⟩];exact vh hn a (by omega) hm a [] _ n rfl (by simp) (by unfold cZ at hn;omega)
theorem Hq {n:Nat}(hn:cZ<=n)(a:WH)(hb:JC Qw a<=2147483648):kY.F n a=some a:=by
 unfold kY.F;refine bS (rU hn _ (by simp only[JC]at hb⊢;omega)) ?_
 rfl
theorem BL {n:Nat}(hn:cZ<=n)(a:WE)(hl:Jp a<=2147483648)(hb:∀x,x∈a->JC Qw x<=2147483648){K0:WE->Option WE}:∀(post pre junk:WE) (k:Nat),a=pre++post->junk.length=post.length->post.length<k->gO.l0 n a K0 k (pre.length:Int) (pre++junk)=K0 a:=by
 intro post
 induction post with
 |nil=>
  intro pre junk k ha hj hk;obtain⟨k,rfl⟩:∃m,k=m+1:=⟨k - 1,by omega⟩
  obtain rfl:junk=[]:=Kq.1 hj;subst ha;simp only[gO.l0,dg,eZ,if_false]
 |cons x post ih=>
  intro pre junk k ha hj hk;obtain⟨k,rfl⟩:∃m,k=m+1:=⟨k - 1,by omega⟩
  match junk,hj with
  |y::junk,hj=>
   have hw:Js.wrap ((pre.length:Int)+1)=((pre++[x]).length:Int):=by
    rw[aK _ (by omega) (by rw[ha]at hl;simp at hl;omega)];simp
   have hx:=hb x (by rw[ha];simp);have:=ih (pre++[x]) junk k (by rw[ha];simp) (by simpa using hj) (by simpa using hk);subst ha;simp only[gO.l0,dg,eY,eX,if_true,JQ,cR,dU,hw,Hq hn x hx,Jn];simpa using this
theorem Fc {n:Nat}(hn:cZ<=n)(a:WE)(hb:JC Qv a<=2147483648):gO.F n a=some a:=by
 have hs:=cM (e:=.st Qx) a;have hl:=cy (e:=.st Qx) a;have hm:∀x,x∈a->JC Qw x<=2147483648:=λx hx=>by have:=dk (e:=.st Qx) hx;omega
 unfold gO.F;rw[ab ⟨by omega,by omega,by unfold aT;omega⟩];exact BL hn a (by omega) hm a [] _ n rfl (by simp) (by unfold cZ at hn;omega)
theorem x4 {n:Nat}(hn:cZ<=n)(a:Ww)(hb:JC Ql a<=2147483648):ic.F n a=some a:=by
 unfold ic.F;refine bS (Fc hn _ (by simp only[JC]at hb⊢;omega)) ?_
 rfl
theorem rV {n:Nat}(hn:cZ<=n)(a:Wu)(hl:Jp a<=2147483648)(hb:∀x,x∈a->JC Ql x<=2147483648){K0:Wu->Option Wu}:∀(post pre junk:Wu) (k:Nat),a=pre++post->junk.length=post.length->post.length<k->dP.l0 n a K0 k (pre.length:Int) (pre++junk)=K0 a:=by
 intro post
 induction post with
 |nil=>
  intro pre junk k ha hj hk;obtain⟨k,rfl⟩:∃m,k=m+1:=⟨k - 1,by omega⟩
  obtain rfl:junk=[]:=Kq.1 hj;subst ha;simp only[dP.l0,dg,eZ,if_false]
 |cons x post ih=>
  intro pre junk k ha hj hk;obtain⟨k,rfl⟩:∃m,k=m+1:=⟨k - 1,by omega⟩
  match junk,hj with
  |y::junk,hj=>
   have hw:Js.wrap ((pre.length:Int)+1)=((pre++[x]).length:Int):=by
    rw[aK _ (by omega) (by rw[ha]at hl;simp at hl;omega)];simp
   have hx:=hb x (by rw[ha];simp);have:=ih (pre++[x]) junk k (by rw[ha];simp) (by simpa using hj) (by simpa using hk);subst ha;simp only[dP.l0,dg,eY,eX,if_true,JQ,cR,dU,hw,x4 hn x hx,Jn];simpa using this
theorem vi {n:Nat}(hn:cZ<=n)(a:Wu)(hb:JC Qj a<=2147483648):dP.F n a=some a:=by
 have hs:=cM (e:=.st Qp) a;have hl:=cy (e:=.st Qp) a;have hm:∀x,x∈a->JC Ql x<=2147483648:=λx hx=>by have:=dk (e:=.st Qp) hx;omega
 unfold dP.F;rw[ab ⟨by omega,by omega,by unfold aT;omega⟩];exact rV hn a (by omega) hm a [] _ n rfl (by simp) (by unfold cZ at hn;omega)
theorem zh {n:Nat}(hn:cZ<=n)(a:WC)(hb:JC Qq a<=2147483648):iI.F n a=some a:=by
 unfold iI.F;refine bS (rU hn _ (by simp only[JC]at hb⊢;omega)) ?_
 rfl
theorem tl {n:Nat}(hn:cZ<=n)(a:Wy)(hl:Jp a<=2147483648)(hb:∀x,x∈a->JC Qq x<=2147483648){K0:Wy->Option Wy}:∀(post pre junk:Wy) (k:Nat),a=pre++post->junk.length=post.length->post.length<k->ef.l0 n a K0 k (pre.length:Int) (pre++junk)=K0 a:=by
 intro post
 induction post with
 |nil=>
  intro pre junk k ha hj hk;obtain⟨k,rfl⟩:∃m,k=m+1:=⟨k - 1,by omega⟩
  obtain rfl:junk=[]:=Kq.1 hj;subst ha;simp only[ef.l0,dg,eZ,if_false]
 |cons x post ih=>
  intro pre junk k ha hj hk;obtain⟨k,rfl⟩:∃m,k=m+1:=⟨k - 1,by omega⟩
  match junk,hj with
  |y::junk,hj=>
   have hw:Js.wrap ((pre.length:Int)+1)=((pre++[x]).length:Int):=by
    rw[aK _ (by omega) (by rw[ha]at hl;simp at hl;omega)];simp
   have hx:=hb x (by rw[ha];simp);have:=ih (pre++[x]) junk k (by rw[ha];simp) (by simpa using hj) (by simpa using hk);subst ha;simp only[ef.l0,dg,eY,eX,if_true,JQ,cR,dU,hw,zh hn x hx,Jn];simpa using this
theorem x5 {n:Nat}(hn:cZ<=n)(a:Wy)(hb:JC Qm a<=2147483648):ef.F n a=some a:=by
 have hs:=cM (e:=.st Qt) a;have hl:=cy (e:=.st Qt) a;have hm:∀x,x∈a->JC Qq x<=2147483648:=λx hx=>by have:=dk (e:=.st Qt) hx;omega
 unfold ef.F;rw[ab ⟨by omega,by omega,by unfold aT;omega⟩];exact tl hn a (by omega) hm a [] _ n rfl (by simp) (by unfold cZ at hn;omega)
theorem BM {n:Nat}(hn:cZ<=n)(a:WN)(hl:Jp a<=2147483648)(hb:∀x,x∈a->JC QA x<=2147483648){K0:WN->Option WN}:∀(post pre junk:WN) (k:Nat),a=pre++post->junk.length=post.length->post.length<k->fh.l0 n a K0 k (pre.length:Int) (pre++junk)=K0 a:=by
 intro post
 induction post with
 |nil=>
  intro pre junk k ha hj hk;obtain⟨k,rfl⟩:∃m,k=m+1:=⟨k - 1,by omega⟩
  obtain rfl:junk=[]:=Kq.1 hj;subst ha;simp only[fh.l0,dg,eZ,if_false]
 |cons x post ih=>
  intro pre junk k ha hj hk;obtain⟨k,rfl⟩:∃m,k=m+1:=⟨k - 1,by omega⟩
  match junk,hj with
  |y::junk,hj=>
   have hw:Js.wrap ((pre.length:Int)+1)=((pre++[x]).length:Int):=by
    rw[aK _ (by omega) (by rw[ha]at hl;simp at hl;omega)];simp
   have hx:=hb x (by rw[ha];simp);have:=ih (pre++[x]) junk k (by rw[ha];simp) (by simpa using hj) (by simpa using hk);subst ha;simp only[fh.l0,dg,eY,eX,if_true,JQ,cR,dU,hw,Jn];simpa using this
theorem Ar {n:Nat}(hn:cZ<=n)(a:WN)(hb:JC Qy a<=2147483648):fh.F n a=some a:=by
 have hs:=cM (e:=.int .i64) a;have hl:=cy (e:=.int .i64) a;have hm:∀x,x∈a->JC QA x<=2147483648:=λx hx=>by have:=dk (e:=.int .i64) hx;omega
 unfold fh.F;rw[ab ⟨by omega,by omega,by unfold aT;omega⟩];exact BM hn a (by omega) hm a [] _ n rfl (by simp) (by unfold cZ at hn;omega)
theorem Hr {n:Nat}(hn:cZ<=n)(a:WG)(hb:JC Qn a<=2147483648):kZ.F n a=some a:=by
 unfold kZ.F;refine bS (Ar hn _ (by simp only[JC]at hb⊢;omega)) ?_
 rfl
theorem BN {n:Nat}(hn:cZ<=n)(a:WD)(hl:Jp a<=2147483648)(hb:∀x,x∈a->JC Qn x<=2147483648){K0:WD->Option WD}:∀(post pre junk:WD) (k:Nat),a=pre++post->junk.length=post.length->post.length<k->gL.l0 n a K0 k (pre.length:Int) (pre++junk)=K0 a:=by
 intro post
 induction post with
 |nil=>
  intro pre junk k ha hj hk;obtain⟨k,rfl⟩:∃m,k=m+1:=⟨k - 1,by omega⟩
  obtain rfl:junk=[]:=Kq.1 hj;subst ha;simp only[gL.l0,dg,eZ,if_false]
 |cons x post ih=>
  intro pre junk k ha hj hk;obtain⟨k,rfl⟩:∃m,k=m+1:=⟨k - 1,by omega⟩
  match junk,hj with
  |y::junk,hj=>
   have hw:Js.wrap ((pre.length:Int)+1)=((pre++[x]).length:Int):=by
    rw[aK _ (by omega) (by rw[ha]at hl;simp at hl;omega)];simp
   have hx:=hb x (by rw[ha];simp);have:=ih (pre++[x]) junk k (by rw[ha];simp) (by simpa using hj) (by simpa using hk);subst ha;simp only[gL.l0,dg,eY,eX,if_true,JQ,cR,dU,hw,Hr hn x hx,Jn];simpa using this
theorem Fe {n:Nat}(hn:cZ<=n)(a:WD)(hb:JC Qk a<=2147483648):gL.F n a=some a:=by
 have hs:=cM (e:=.st Qr) a;have hl:=cy (e:=.st Qr) a;have hm:∀x,x∈a->JC Qn x<=2147483648:=λx hx=>by have:=dk (e:=.st Qr) hx;omega
 unfold gL.F;rw[ab ⟨by omega,by omega,by unfold aT;omega⟩];exact BN hn a (by omega) hm a [] _ n rfl (by simp) (by unfold cZ at hn;omega)
theorem D9 {n:Nat}(hn:cZ<=n)(a:WG)(hb:JC Qn a<=2147483648):jf.F n a=some a:=by
 unfold jf.F;refine bS (Ar hn _ (by simp only[JC]at hb⊢;omega)) ?_
 rfl
theorem BO {n:Nat}(hn:cZ<=n)(a:WD)(hl:Jp a<=2147483648)(hb:∀x,x∈a->JC Qn x<=2147483648){K0:WD->Option WD}:∀(post pre junk:WD) (k:Nat),a=pre++post->junk.length=post.length->post.length<k->gK.l0 n a K0 k (pre.length:Int) (pre++junk)=K0 a:=by
 intro post
 induction post with
 |nil=>
  intro pre junk k ha hj hk;obtain⟨k,rfl⟩:∃m,k=m+1:=⟨k - 1,by omega⟩
  obtain rfl:junk=[]:=Kq.1 hj;subst ha;simp only[gK.l0,dg,eZ,if_false]
 |cons x post ih=>
  intro pre junk k ha hj hk;obtain⟨k,rfl⟩:∃m,k=m+1:=⟨k - 1,by omega⟩
  match junk,hj with
  |y::junk,hj=>
   have hw:Js.wrap ((pre.length:Int)+1)=((pre++[x]).length:Int):=by
    rw[aK _ (by omega) (by rw[ha]at hl;simp at hl;omega)];simp
   have hx:=hb x (by rw[ha];simp);have:=ih (pre++[x]) junk k (by rw[ha];simp) (by simpa using hj) (by simpa using hk);subst ha;simp only[gK.l0,dg,eY,eX,if_true,JQ,cR,dU,hw,D9 hn x hx,Jn];simpa using this
theorem Ff {n:Nat}(hn:cZ<=n)(a:WD)(hb:JC Qk a<=2147483648):gK.F n a=some a:=by
 have hs:=cM (e:=.st Qr) a;have hl:=cy (e:=.st Qr) a;have hm:∀x,x∈a->JC Qn x<=2147483648:=λx hx=>by have:=dk (e:=.st Qr) hx;omega
 unfold gK.F;rw[ab ⟨by omega,by omega,by unfold aT;omega⟩];exact BO hn a (by omega) hm a [] _ n rfl (by simp) (by unfold cZ at hn;omega)
theorem Fh {n:Nat}(hn:cZ<=n)(a:Wk)(hb:JC Qf a<=2147483648):ko.F n a=some a:=by
 unfold ko.F;refine bS (Fe hn _ (by simp only[JC]at hb⊢;omega)) ?_;refine bS (D9 hn _ (by simp only[JC]at hb⊢;omega)) ?_;refine bS (Ff hn _ (by simp only[JC]at hb⊢;omega)) ?_
 rfl
theorem zi {n:Nat}(hn:cZ<=n)(a:Wh)(hl:Jp a<=2147483648)(hb:∀x,x∈a->JC Qf x<=2147483648){K0:Wh->Option Wh}:∀(post pre junk:Wh) (k:Nat),a=pre++post->junk.length=post.length->post.length<k->fT.l0 n a K0 k (pre.length:Int) (pre++junk)=K0 a:=by
 intro post
 induction post with
 |nil=>
  intro pre junk k ha hj hk;obtain⟨k,rfl⟩:∃m,k=m+1:=⟨k - 1,by omega⟩
  obtain rfl:junk=[]:=Kq.1 hj;subst ha;simp only[fT.l0,dg,eZ,if_false]
 |cons x post ih=>
  intro pre junk k ha hj hk;obtain⟨k,rfl⟩:∃m,k=m+1:=⟨k - 1,by omega⟩
  match junk,hj with
  |y::junk,hj=>
   have hw:Js.wrap ((pre.length:Int)+1)=((pre++[x]).length:Int):=by
    rw[aK _ (by omega) (by rw[ha]at hl;simp at hl;omega)];simp
   have hx:=hb x (by rw[ha];simp);have:=ih (pre++[x]) junk k (by rw[ha];simp) (by simpa using hj) (by simpa using hk);subst ha;simp only[fT.l0,dg,eY,eX,if_true,JQ,cR,dU,hw,Fh hn x hx,Jn];simpa using this
theorem Da {n:Nat}(hn:cZ<=n)(a:Wh)(hb:JC Qe a<=2147483648):fT.F n a=some a:=by
 have hs:=cM (e:=.st Qg) a;have hl:=cy (e:=.st Qg) a;have hm:∀x,x∈a->JC Qf x<=2147483648:=λx hx=>by have:=dk (e:=.st Qg) hx;omega
 unfold fT.F;rw[ab ⟨by omega,by omega,by unfold aT;omega⟩];exact zi hn a (by omega) hm a [] _ n rfl (by simp) (by unfold cZ at hn;omega)
theorem qU {n:Nat}(hn:cZ<=n)(a:Wb)(hb:JC Qc a<=2147483648):gN.F n a=some a:=by
 unfold gN.F;refine bS (vi hn _ (by simp only[JC]at hb⊢;omega)) ?_;refine bS (x5 hn _ (by simp only[JC]at hb⊢;omega)) ?_;refine bS (Da hn _ (by simp only[JC]at hb⊢;omega)) ?_
 rfl
theorem vj {n:Nat}(hn:cZ<=n)(a:WL)(hb:∀x,x∈a->JC .str x<=2147483648)(hl:Jp a<=2147483648){K0:Unit->Option Bool}:∀(d k:Nat) (i:Int),0<=i->(Jp a:Int) - i=d->d<k->dI.l0 n a a K0 k i=K0 ():=by
 intro d
 induction d with
 |zero=>
  intro k i h0 h1 hk;obtain⟨k,rfl⟩:∃m,k=m+1:=⟨k - 1,by omega⟩
  simp only[dI.l0,dg];rw[ao (by omega)]
 |succ d ih=>
  intro k i h0 h1 hk;obtain⟨k,rfl⟩:∃m,k=m+1:=⟨k - 1,by omega⟩
  have hw:Js.wrap (i+1)=i+1:=aK _ (by omega) (by omega);have hx:=hb _ (getD_mem' a i Jo h0 (by omega));simp only[dI.l0,dg,hw];rw[ab (by omega),ab ⟨h0,by omega⟩,ab ⟨h0,by omega⟩];simp only[Jn,decide_true,KR,JG,if_false,bJ];exact ih _ _ (by omega) (by omega) (by omega)
theorem rW {n:Nat}(hn:cZ<=n)(a:WL)(hb:JC Qz a<=2147483648):dI.F n a a=some true:=by
 have hs:=cM (e:=.str) a;have hl:=cy (e:=.str) a;have hm:∀x,x∈a->JC .str x<=2147483648:=λx hx=>by have:=dk (e:=.str) hx;omega
 unfold dI.F;rw[ao (by simp)];exact vj hn a hm (by omega) (Jp a) n 0 (by omega) (by omega) (by unfold cZ at hn;omega)
theorem Hs {n:Nat}(hn:cZ<=n)(a:WH)(hb:JC Qw a<=2147483648):lh.F n a a=some true:=by
 unfold lh.F;rw[ao (by simp[bJ])];refine bS (rW hn _ (by simp only[JC]at hb⊢;omega)) ?_
 try dsimp only
 rw[ao (by simp[bJ])]
 all_goals rfl
theorem BP {n:Nat}(hn:cZ<=n)(a:WE)(hb:∀x,x∈a->JC Qw x<=2147483648)(hl:Jp a<=2147483648){K0:Unit->Option Bool}:∀(d k:Nat) (i:Int),0<=i->(Jp a:Int) - i=d->d<k->gT.l0 n a a K0 k i=K0 ():=by
 intro d
 induction d with
 |zero=>
  intro k i h0 h1 hk;obtain⟨k,rfl⟩:∃m,k=m+1:=⟨k - 1,by omega⟩
  simp only[gT.l0,dg];rw[ao (by omega)]
 |succ d ih=>
  intro k i h0 h1 hk;obtain⟨k,rfl⟩:∃m,k=m+1:=⟨k - 1,by omega⟩
  have hw:Js.wrap (i+1)=i+1:=aK _ (by omega) (by omega);have hx:=hb _ (getD_mem' a i (Jo,[]) h0 (by omega));simp only[gT.l0,dg,hw];rw[ab (by omega),ab ⟨h0,by omega⟩,ab ⟨h0,by omega⟩];simp only[Hs hn _ hx,Jn,decide_true,KR,JG,if_false,bJ];exact ih _ _ (by omega) (by omega) (by omega)
theorem Fi {n:Nat}(hn:cZ<=n)(a:WE)(hb:JC Qv a<=2147483648):gT.F n a a=some true:=by
 have hs:=cM (e:=.st Qx) a;have hl:=cy (e:=.st Qx) a;have hm:∀x,x∈a->JC Qw x<=2147483648:=λx hx=>by have:=dk (e:=.st Qx) hx;omega
 unfold gT.F;rw[ao (by simp)];exact BP hn a hm (by omega) (Jp a) n 0 (by omega) (by omega) (by unfold cZ at hn;omega)
theorem x6 {n:Nat}(hn:cZ<=n)(a:Ww)(hb:JC Ql a<=2147483648):ie.F n a a=some true:=by
 unfold ie.F;rw[ao (by simp[bJ])];refine bS (Fi hn _ (by simp only[JC]at hb⊢;omega)) ?_
 try dsimp only
 rw[ao (by simp[bJ])]
 all_goals rfl
theorem rX {n:Nat}(hn:cZ<=n)(a:Wu)(hb:∀x,x∈a->JC Ql x<=2147483648)(hl:Jp a<=2147483648){K0:Unit->Option Bool}:∀(d k:Nat) (i:Int),0<=i->(Jp a:Int) - i=d->d<k->dQ.l0 n a a K0 k i=K0 ():=by
 intro d
 induction d with
 |zero=>
  intro k i h0 h1 hk;obtain⟨k,rfl⟩:∃m,k=m+1:=⟨k - 1,by omega⟩
  simp only[dQ.l0,dg];rw[ao (by omega)]
 |succ d ih=>
  intro k i h0 h1 hk;obtain⟨k,rfl⟩:∃m,k=m+1:=⟨k - 1,by omega⟩
  have hw:Js.wrap (i+1)=i+1:=aK _ (by omega) (by omega);have hx:=hb _ (getD_mem' a i (Jo,[]) h0 (by omega));simp only[dQ.l0,dg,hw];rw[ab (by omega),ab ⟨h0,by omega⟩,ab ⟨h0,by omega⟩];simp only[x6 hn _ hx,Jn,decide_true,KR,JG,if_false,bJ];exact ih _ _ (by omega) (by omega) (by omega)
theorem vk {n:Nat}(hn:cZ<=n)(a:Wu)(hb:JC Qj a<=2147483648):dQ.F n a a=some true:=by
 have hs:=cM (e:=.st Qp) a;have hl:=cy (e:=.st Qp) a;have hm:∀x,x∈a->JC Ql x<=2147483648:=λx hx=>by have:=dk (e:=.st Qp) hx;omega
 unfold dQ.F;rw[ao (by simp)];exact rX hn a hm (by omega) (Jp a) n 0 (by omega) (by omega) (by unfold cZ at hn;omega)
theorem zj {n:Nat}(hn:cZ<=n)(a:WC)(hb:JC Qq a<=2147483648):iK.F n a a=some true:=by
 unfold iK.F;rw[ao (by simp[bJ])];refine bS (rW hn _ (by simp only[JC]at hb⊢;omega)) ?_
 try dsimp only
 rw[ao (by simp[bJ])];rw[ao (by simp[bJ])]
 all_goals rfl
theorem tm {n:Nat}(hn:cZ<=n)(a:Wy)(hb:∀x,x∈a->JC Qq x<=2147483648)(hl:Jp a<=2147483648){K0:Unit->Option Bool}:∀(d k:Nat) (i:Int),0<=i->(Jp a:Int) - i=d->d<k->ei.l0 n a a K0 k i=K0 ():=by
 intro d
 induction d with
 |zero=>
  intro k i h0 h1 hk;obtain⟨k,rfl⟩:∃m,k=m+1:=⟨k - 1,by omega⟩
  simp only[ei.l0,dg];rw[ao (by omega)]
 |succ d ih=>
  intro k i h0 h1 hk;obtain⟨k,rfl⟩:∃m,k=m+1:=⟨k - 1,by omega⟩
  have hw:Js.wrap (i+1)=i+1:=aK _ (by omega) (by omega);have hx:=hb _ (getD_mem' a i (Jo,([],0)) h0 (by omega));simp only[ei.l0,dg,hw];rw[ab (by omega),ab ⟨h0,by omega⟩,ab ⟨h0,by omega⟩];simp only[zj hn _ hx,Jn,decide_true,KR,JG,if_false,bJ];exact ih _ _ (by omega) (by omega) (by omega)
theorem x7 {n:Nat}(hn:cZ<=n)(a:Wy)(hb:JC Qm a<=2147483648):ei.F n a a=some true:=by
 have hs:=cM (e:=.st Qt) a;have hl:=cy (e:=.st Qt) a;have hm:∀x,x∈a->JC Qq x<=2147483648:=λx hx=>by have:=dk (e:=.st Qt) hx;omega
 unfold ei.F;rw[ao (by simp)];exact tm hn a hm (by omega) (Jp a) n 0 (by omega) (by omega) (by unfold cZ at hn;omega)
theorem BQ {n:Nat}(hn:cZ<=n)(a:WN)(hb:∀x,x∈a->JC QA x<=2147483648)(hl:Jp a<=2147483648){K0:Unit->Option Bool}:∀(d k:Nat) (i:Int),0<=i->(Jp a:Int) - i=d->d<k->fg.l0 n a a K0 k i=K0 ():=by
 intro d
 induction d with
 |zero=>
  intro k i h0 h1 hk;obtain⟨k,rfl⟩:∃m,k=m+1:=⟨k - 1,by omega⟩
  simp only[fg.l0,dg];rw[ao (by omega)]
 |succ d ih=>
  intro k i h0 h1 hk;obtain⟨k,rfl⟩:∃m,k=m+1:=⟨k - 1,by omega⟩
  have hw:Js.wrap (i+1)=i+1:=aK _ (by omega) (by omega);have hx:=hb _ (getD_mem' a i 0 h0 (by omega));simp only[fg.l0,dg,hw];rw[ab (by omega),ab ⟨h0,by omega⟩,ab ⟨h0,by omega⟩];simp only[Jn,decide_true,KR,JG,if_false,bJ];exact ih _ _ (by omega) (by omega) (by omega)
theorem As {n:Nat}(hn:cZ<=n)(a:WN)(hb:JC Qy a<=2147483648):fg.F n a a=some true:=by
 have hs:=cM (e:=.int .i64) a;have hl:=cy (e:=.int .i64) a;have hm:∀x,x∈a->JC QA x<=2147483648:=λx hx=>by have:=dk (e:=.int .i64) hx;omega
 unfold fg.F;rw[ao (by simp)];exact BQ hn a hm (by omega) (Jp a) n 0 (by omega) (by omega) (by unfold cZ at hn;omega)
theorem Ht {n:Nat}(hn:cZ<=n)(a:WG)(hb:JC Qn a<=2147483648):li.F n a a=some true:=by
 unfold li.F;rw[ao (by simp[bJ])];rw[ao (by simp[bJ])];refine bS (As hn _ (by simp only[JC]at hb⊢;omega)) ?_
 try dsimp only
 rw[ao (by simp[bJ])]
 all_goals rfl
theorem BR {n:Nat}(hn:cZ<=n)(a:WD)(hb:∀x,x∈a->JC Qn x<=2147483648)(hl:Jp a<=2147483648){K0:Unit->Option Bool}:∀(d k:Nat) (i:Int),0<=i->(Jp a:Int) - i=d->d<k->gD.l0 n a a K0 k i=K0 ():=by
 intro d
 induction d with
 |zero=>
  intro k i h0 h1 hk;obtain⟨k,rfl⟩:∃m,k=m+1:=⟨k - 1,by omega⟩
  simp only[gD.l0,dg];rw[ao (by omega)]
 |succ d ih=>
  intro k i h0 h1 hk;obtain⟨k,rfl⟩:∃m,k=m+1:=⟨k - 1,by omega⟩
  have hw:Js.wrap (i+1)=i+1:=aK _ (by omega) (by omega);have hx:=hb _ (getD_mem' a i (0,(Jo,[])) h0 (by omega));simp only[gD.l0,dg,hw];rw[ab (by omega),ab ⟨h0,by omega⟩,ab ⟨h0,by omega⟩];simp only[Ht hn _ hx,Jn,decide_true,KR,JG,if_false,bJ];exact ih _ _ (by omega) (by omega) (by omega)
theorem Fj {n:Nat}(hn:cZ<=n)(a:WD)(hb:JC Qk a<=2147483648):gD.F n a a=some true:=by
 have hs:=cM (e:=.st Qr) a;have hl:=cy (e:=.st Qr) a;have hm:∀x,x∈a->JC Qn x<=2147483648:=λx hx=>by have:=dk (e:=.st Qr) hx;omega
 unfold gD.F;rw[ao (by simp)];exact BR hn a hm (by omega) (Jp a) n 0 (by omega) (by omega) (by unfold cZ at hn;omega)
theorem Db {n:Nat}(hn:cZ<=n)(a:WG)(hb:JC Qn a<=2147483648):je.F n a a=some true:=by
 unfold je.F;rw[ao (by simp[bJ])];rw[ao (by simp[bJ])];refine bS (As hn _ (by simp only[JC]at hb⊢;omega)) ?_
 try dsimp only
 rw[ao (by simp[bJ])]
 all_goals rfl
theorem BS {n:Nat}(hn:cZ<=n)(a:WD)(hb:∀x,x∈a->JC Qn x<=2147483648)(hl:Jp a<=2147483648){K0:Unit->Option Bool}:∀(d k:Nat) (i:Int),0<=i->(Jp a:Int) - i=d->d<k->gQ.l0 n a a K0 k i=K0 ():=by
 intro d
 induction d with
 |zero=>
  intro k i h0 h1 hk;obtain⟨k,rfl⟩:∃m,k=m+1:=⟨k - 1,by omega⟩
  simp only[gQ.l0,dg];rw[ao (by omega)]
 |succ d ih=>
  intro k i h0 h1 hk;obtain⟨k,rfl⟩:∃m,k=m+1:=⟨k - 1,by omega⟩
  have hw:Js.wrap (i+1)=i+1:=aK _ (by omega) (by omega);have hx:=hb _ (getD_mem' a i (0,(Jo,[])) h0 (by omega));simp only[gQ.l0,dg,hw];rw[ab (by omega),ab ⟨h0,by omega⟩,ab ⟨h0,by omega⟩];simp only[Db hn _ hx,Jn,decide_true,KR,JG,if_false,bJ];exact ih _ _ (by omega) (by omega) (by omega)
theorem Fk {n:Nat}(hn:cZ<=n)(a:WD)(hb:JC Qk a<=2147483648):gQ.F n a a=some true:=by
 have hs:=cM (e:=.st Qr) a;have hl:=cy (e:=.st Qr) a;have hm:∀x,x∈a->JC Qn x<=2147483648:=λx hx=>by have:=dk (e:=.st Qr) hx;omega
 unfold gQ.F;rw[ao (by simp)];exact BS hn a hm (by omega) (Jp a) n 0 (by omega) (by omega) (by unfold cZ at hn;omega)
theorem Fl {n:Nat}(hn:cZ<=n)(a:Wk)(hb:JC Qf a<=2147483648):kt.F n a a=some true:=by
 unfold kt.F;refine bS (Fj hn _ (by simp only[JC]at hb⊢;omega)) ?_
 try dsimp only
 rw[ao (by simp[bJ])];refine bS (Db hn _ (by simp only[JC]at hb⊢;omega)) ?_
 try dsimp only
 rw[ao (by simp[bJ])];refine bS (Fk hn _ (by simp only[JC]at hb⊢;omega)) ?_
 try dsimp only
 rw[ao (by simp[bJ])]
 all_goals rfl
theorem zk {n:Nat}(hn:cZ<=n)(a:Wh)(hb:∀x,x∈a->JC Qf x<=2147483648)(hl:Jp a<=2147483648){K0:Unit->Option Bool}:∀(d k:Nat) (i:Int),0<=i->(Jp a:Int) - i=d->d<k->fS.l0 n a a K0 k i=K0 ():=by
 intro d
 induction d with
 |zero=>
  intro k i h0 h1 hk;obtain⟨k,rfl⟩:∃m,k=m+1:=⟨k - 1,by omega⟩
  simp only[fS.l0,dg];rw[ao (by omega)]
 |succ d ih=>
  intro k i h0 h1 hk;obtain⟨k,rfl⟩:∃m,k=m+1:=⟨k - 1,by omega⟩
  have hw:Js.wrap (i+1)=i+1:=aK _ (by omega) (by omega);have hx:=hb _ (getD_mem' a i ([],((0,(Jo,[])),[])) h0 (by omega));simp only[fS.l0,dg,hw];rw[ab (by omega),ab ⟨h0,by omega⟩,ab ⟨h0,by omega⟩];simp only[Fl hn _ hx,Jn,decide_true,KR,JG,if_false,bJ];exact ih _ _ (by omega) (by omega) (by omega)
theorem Dc {n:Nat}(hn:cZ<=n)(a:Wh)(hb:JC Qe a<=2147483648):fS.F n a a=some true:=by
 have hs:=cM (e:=.st Qg) a;have hl:=cy (e:=.st Qg) a;have hm:∀x,x∈a->JC Qf x<=2147483648:=λx hx=>by have:=dk (e:=.st Qg) hx;omega
 unfold fS.F;rw[ao (by simp)];exact zk hn a hm (by omega) (Jp a) n 0 (by omega) (by omega) (by unfold cZ at hn;omega)
theorem qV {n:Nat}(hn:cZ<=n)(a:Wb)(hb:JC Qc a<=2147483648):gE.F n a a=some true:=by
 unfold gE.F;refine bS (vk hn _ (by simp only[JC]at hb⊢;omega)) ?_
 try dsimp only
 rw[ao (by simp[bJ])];refine bS (x7 hn _ (by simp only[JC]at hb⊢;omega)) ?_
 try dsimp only
 rw[ao (by simp[bJ])];refine bS (Dc hn _ (by simp only[JC]at hb⊢;omega)) ?_
 try dsimp only
 rw[ao (by simp[bJ])]
 all_goals rfl
def rY (n:Nat)(k:Int):ByteArray:=(aN.F n k).getD Jo
theorem Gf (x:Int):Jq (rc [x])=1:=rfl
theorem x8 {n:Nat}{K0:ByteArray->Option ByteArray}(hK:∀x:ByteArray,x.size<=64->∃r,K0 x=some r):∀(d k:Nat) (z:Int) (out:ByteArray),z<10 ^ d->z<=4294967296->d<k->out.size+d<=40->∃r,aN.l0 n K0 k z out=some r:=by
 intro d
 induction d with
 |zero=>
  intro k z out hz hz2 hk ho;obtain⟨k,rfl⟩:∃m,k=m+1:=⟨k - 1,by omega⟩
  simp only[aN.l0,dg];rw[ao (by simp at hz;omega)];exact hK _ (by omega)
 |succ d ih=>
  intro k z out hz hz2 hk ho;obtain⟨k,rfl⟩:∃m,k=m+1:=⟨k - 1,by omega⟩
  simp only[aN.l0,dg]
  split
  ·rename_i hp
   have hlt:z / 10<10 ^ d:=by rw[Int.pow_succ]at hz;omega
   have e1:Int.tdiv z 10=z / 10:=Int.tdiv_eq_ediv_of_nonneg (by omega);rw[ab (by rw[Gf];unfold aT;omega),e1,aK _ (by omega) (by omega)];exact ih k _ _ hlt (by omega) (by omega) (by rw[ByteArray.size_append,Gf];omega)
  ·exact hK _ (by omega)
theorem nX {n:Nat}(hn:cZ<=n)(k:Int)(hk:k<=4294967296):aN.F n k=some (rY n k):=by
 have:∃r,aN.F n k=some r:=by
  unfold aN.F
  split
  ·exact⟨_,rfl⟩
  ·exact x8 (λx hx=>by rw[ab (by show 1+x.size<=aT;unfold aT;omega)];exact⟨_,rfl⟩) 10 n k _ (by omega) (by omega) (by unfold cZ at hn;omega) (by show 0+10<=40;omega)
 obtain⟨r,hr⟩:=this;rw[rY,hr];rfl
theorem vl {n:Nat}(hn:cZ<=n){K0:Int->WL->Option (Int×WL)}:∀(post pre:WL) (f:Nat) (k:Int),post.length<f->pre.length+post.length<=2147483648->(KW (JC .str) post).sum<=2147483648->0<k->k+((KW (JC .str) post).sum:Int)<=4294967296->
  ∃k1 out,dw.l0 n K0 f k (pre.length:Int) (pre++post)=K0 k1 (pre++out)/\k<=k1/\k1<=k+((KW (JC .str) post).sum:Int)/\out.length=post.length/\
   ∀(pre2:WL) (g:Nat) (H0:Int->Option Int),pre2.length=pre.length->post.length<g->du.l0 n (pre2++out) H0 g k (pre.length:Int)=H0 k1:=by
 intro post
 induction post with
 |nil=>
  intro pre f k hf hl hs h0 hk;obtain⟨f,rfl⟩:∃m,f=m+1:=⟨f - 1,by omega⟩
  refine⟨k,[],?_,by omega,by simp,rfl,λpre2 g H0 hp hg=>?_⟩
  ·simp only[dw.l0,dg,eZ,if_false]
  ·obtain⟨g,rfl⟩:∃m,g=m+1:=⟨g - 1,by omega⟩
   rw[← hp];simp only[du.l0,dg,eZ,if_false]
 |cons x post ih=>
  intro pre f k hf hl hs h0 hk;simp only[Ju]at hf hl;simp only[JK,Kl,LJ]at hs hk⊢;obtain⟨f,rfl⟩:∃m,f=m+1:=⟨f - 1,by omega⟩
  have hw:Js.wrap ((pre.length:Int)+1)=(pre.length:Int)+1:=aK _ (by omega) (by omega);have hB:JC .str x=(Jq x+1):=rfl;have hm1:=nX hn k (by omega);have hwk1:Js.wrap (k+1)=k+1:=aK _ (by omega) (by omega);obtain⟨k1,out,i1,i2,i3,i4,i5⟩:=ih (pre++[((rY n k):ByteArray)]) f (k+1) (by omega) (by simp;omega) (by omega) (by omega) (by omega);rw[Jv,Ku]at i1 i5;refine⟨k1,((rY n k):ByteArray)::out,?_,by omega,by omega,by simp[i4],λpre2 g H0 hp hg=>?_⟩
  ·simp only[dw.l0,dg,eY,eX,if_true,JQ,cR,dU,hw,hm1,hwk1,Jn]
   simpa using i1
  ·obtain⟨g,rfl⟩:∃m,g=m+1:=⟨g - 1,by omega⟩
   have i6:=i5 (pre2++[((rY n k):ByteArray)]) g H0 (by simp[hp]) (by simp only[Ju]at hg;omega);rw[← hp]at i6 hw⊢;simp only[du.l0,dg,eY,eX,if_true,JQ,cR,dU,hw,hm1,hwk1,Jn,decide_true,KR,JG,if_false,bJ,beq_self_eq_true,KY,nn,and_self];simpa using i6
theorem rZ {n:Nat}(hn:cZ<=n)(a:WL)(hb:JC Qz a<=2147483648)(k:Int)(h0:0<k)(hk:k+(JC Qz a:Int)<=4294967296):
  ∃k1 out,dw.F n a k=some (k1,out)/\k<=k1/\k1<=k+(JC Qz a:Int)/\du.F n out k=some k1:=by
 have hl0:=cy (e:=.str) a;have hl1:=cM (e:=.str) a;obtain⟨k1,out,i1,i2,i3,i4,i5⟩:=vl hn (K0:=λk a=>some (k,a)) a [] n k (by unfold cZ at hn;omega) (by simp;omega) (by omega) h0 (by omega);exact⟨k1,out,i1,i2,by omega,i5 [] n _ rfl (by unfold cZ at hn;omega)⟩
theorem BT {n:Nat}(hn:cZ<=n){K0:Int->WE->Option (Int×WE)}:∀(post pre:WE) (f:Nat) (k:Int),post.length<f->pre.length+post.length<=2147483648->(KW (JC Qw) post).sum<=2147483648->0<k->k+((KW (JC Qw) post).sum:Int)<=4294967296->
  ∃k1 out,gh.l0 n K0 f k (pre.length:Int) (pre++post)=K0 k1 (pre++out)/\k<=k1/\k1<=k+((KW (JC Qw) post).sum:Int)/\out.length=post.length/\
   ∀(pre2:WE) (g:Nat) (H0:Int->Option Int),pre2.length=pre.length->post.length<g->gf.l0 n (pre2++out) H0 g k (pre.length:Int)=H0 k1:=by
 intro post
 induction post with
 |nil=>
  intro pre f k hf hl hs h0 hk;obtain⟨f,rfl⟩:∃m,f=m+1:=⟨f - 1,by omega⟩
  refine⟨k,[],?_,by omega,by simp,rfl,λpre2 g H0 hp hg=>?_⟩
  ·simp only[gh.l0,dg,eZ,if_false]
  ·obtain⟨g,rfl⟩:∃m,g=m+1:=⟨g - 1,by omega⟩
   rw[← hp];simp only[gf.l0,dg,eZ,if_false]
 |cons x post ih=>
  intro pre f k hf hl hs h0 hk;simp only[Ju]at hf hl;simp only[JK,Kl,LJ]at hs hk⊢;obtain⟨f,rfl⟩:∃m,f=m+1:=⟨f - 1,by omega⟩
  have hw:Js.wrap ((pre.length:Int)+1)=(pre.length:Int)+1:=aK _ (by omega) (by omega);have hB:JC Qw x=((Jq x.1+1)+JC Qz x.2):=rfl;have hm1:=nX hn k (by omega);have hwk1:Js.wrap (k+1)=k+1:=aK _ (by omega) (by omega);obtain⟨q2,y2,a2,b2,c2,d2⟩:=rZ hn x.2 (by omega) (k+1) (by omega) (by omega);obtain⟨k1,out,i1,i2,i3,i4,i5⟩:=ih (pre++[(((rY n k,y2)):WH)]) f q2 (by omega) (by simp;omega) (by omega) (by omega) (by omega);rw[Jv,Ku]at i1 i5;refine⟨k1,(((rY n k,y2)):WH)::out,?_,by omega,by omega,by simp[i4],λpre2 g H0 hp hg=>?_⟩
  ·simp only[gh.l0,dg,eY,eX,if_true,JQ,cR,dU,hw,hm1,hwk1,Jn,a2]
   simpa using i1
  ·obtain⟨g,rfl⟩:∃m,g=m+1:=⟨g - 1,by omega⟩
   have i6:=i5 (pre2++[(((rY n k,y2)):WH)]) g H0 (by simp[hp]) (by simp only[Ju]at hg;omega);rw[← hp]at i6 hw⊢;simp only[gf.l0,dg,eY,eX,if_true,JQ,cR,dU,hw,hm1,hwk1,Jn,d2,decide_true,KR,JG,if_false,bJ,beq_self_eq_true,KY,nn,and_self];rw[ao (by omega)];simpa using i6
theorem Fm {n:Nat}(hn:cZ<=n)(a:WE)(hb:JC Qv a<=2147483648)(k:Int)(h0:0<k)(hk:k+(JC Qv a:Int)<=4294967296):
  ∃k1 out,gh.F n a k=some (k1,out)/\k<=k1/\k1<=k+(JC Qv a:Int)/\gf.F n out k=some k1:=by
 have hl0:=cy (e:=.st Qx) a;have hl1:=cM (e:=.st Qx) a;obtain⟨k1,out,i1,i2,i3,i4,i5⟩:=BT hn (K0:=λk a=>some (k,a)) a [] n k (by unfold cZ at hn;omega) (by simp;omega) (by omega) h0 (by omega);exact⟨k1,out,i1,i2,by omega,i5 [] n _ rfl (by unfold cZ at hn;omega)⟩
theorem s9 {n:Nat}(hn:cZ<=n){K0:Int->Wu->Option (Int×Wu)}:∀(post pre:Wu) (f:Nat) (k:Int),post.length<f->pre.length+post.length<=2147483648->(KW (JC Ql) post).sum<=2147483648->0<k->k+((KW (JC Ql) post).sum:Int)<=4294967296->
  ∃k1 out,dL.l0 n K0 f k (pre.length:Int) (pre++post)=K0 k1 (pre++out)/\k<=k1/\k1<=k+((KW (JC Ql) post).sum:Int)/\out.length=post.length/\
   ∀(pre2:Wu) (g:Nat) (H0:Int->Option Int),pre2.length=pre.length->post.length<g->dM.l0 n (pre2++out) H0 g k (pre.length:Int)=H0 k1:=by
 intro post
 induction post with
 |nil=>
  intro pre f k hf hl hs h0 hk;obtain⟨f,rfl⟩:∃m,f=m+1:=⟨f - 1,by omega⟩
  refine⟨k,[],?_,by omega,by simp,rfl,λpre2 g H0 hp hg=>?_⟩
  ·simp only[dL.l0,dg,eZ,if_false]
  ·obtain⟨g,rfl⟩:∃m,g=m+1:=⟨g - 1,by omega⟩
   rw[← hp];simp only[dM.l0,dg,eZ,if_false]
 |cons x post ih=>
  intro pre f k hf hl hs h0 hk;simp only[Ju]at hf hl;simp only[JK,Kl,LJ]at hs hk⊢;obtain⟨f,rfl⟩:∃m,f=m+1:=⟨f - 1,by omega⟩
  have hw:Js.wrap ((pre.length:Int)+1)=(pre.length:Int)+1:=aK _ (by omega) (by omega);have hB:JC Ql x=((Jq x.1+1)+JC Qv x.2):=rfl;have hm1:=nX hn k (by omega);have hwk1:Js.wrap (k+1)=k+1:=aK _ (by omega) (by omega);obtain⟨q2,y2,a2,b2,c2,d2⟩:=Fm hn x.2 (by omega) (k+1) (by omega) (by omega);obtain⟨k1,out,i1,i2,i3,i4,i5⟩:=ih (pre++[(((rY n k,y2)):Ww)]) f q2 (by omega) (by simp;omega) (by omega) (by omega) (by omega);rw[Jv,Ku]at i1 i5;refine⟨k1,(((rY n k,y2)):Ww)::out,?_,by omega,by omega,by simp[i4],λpre2 g H0 hp hg=>?_⟩
  ·simp only[dL.l0,dg,eY,eX,if_true,JQ,cR,dU,hw,hm1,hwk1,Jn,a2]
   simpa using i1
  ·obtain⟨g,rfl⟩:∃m,g=m+1:=⟨g - 1,by omega⟩
   have i6:=i5 (pre2++[(((rY n k,y2)):Ww)]) g H0 (by simp[hp]) (by simp only[Ju]at hg;omega);rw[← hp]at i6 hw⊢;simp only[dM.l0,dg,eY,eX,if_true,JQ,cR,dU,hw,hm1,hwk1,Jn,d2,decide_true,KR,JG,if_false,bJ,beq_self_eq_true,KY,nn,and_self];rw[ao (by omega)];simpa using i6
theorem vm {n:Nat}(hn:cZ<=n)(a:Wu)(hb:JC Qj a<=2147483648)(k:Int)(h0:0<k)(hk:k+(JC Qj a:Int)<=4294967296):
  ∃k1 out,dL.F n a k=some (k1,out)/\k<=k1/\k1<=k+(JC Qj a:Int)/\dM.F n out k=some k1:=by
 have hl0:=cy (e:=.st Qp) a;have hl1:=cM (e:=.st Qp) a;obtain⟨k1,out,i1,i2,i3,i4,i5⟩:=s9 hn (K0:=λk a=>some (k,a)) a [] n k (by unfold cZ at hn;omega) (by simp;omega) (by omega) h0 (by omega);exact⟨k1,out,i1,i2,by omega,i5 [] n _ rfl (by unfold cZ at hn;omega)⟩
theorem tn {n:Nat}(hn:cZ<=n){K0:Int->Wy->Option (Int×Wy)}:∀(post pre:Wy) (f:Nat) (k:Int),post.length<f->pre.length+post.length<=2147483648->(KW (JC Qq) post).sum<=2147483648->0<k->k+((KW (JC Qq) post).sum:Int)<=4294967296->
  ∃k1 out,e8.l0 n K0 f k (pre.length:Int) (pre++post)=K0 k1 (pre++out)/\k<=k1/\k1<=k+((KW (JC Qq) post).sum:Int)/\out.length=post.length/\
   ∀(pre2:Wy) (g:Nat) (H0:Int->Option Int),pre2.length=pre.length->post.length<g->ea.l0 n (pre2++out) H0 g k (pre.length:Int)=H0 k1:=by
 intro post
 induction post with
 |nil=>
  intro pre f k hf hl hs h0 hk;obtain⟨f,rfl⟩:∃m,f=m+1:=⟨f - 1,by omega⟩
  refine⟨k,[],?_,by omega,by simp,rfl,λpre2 g H0 hp hg=>?_⟩
  ·simp only[e8.l0,dg,eZ,if_false]
  ·obtain⟨g,rfl⟩:∃m,g=m+1:=⟨g - 1,by omega⟩
   rw[← hp];simp only[ea.l0,dg,eZ,if_false]
 |cons x post ih=>
  intro pre f k hf hl hs h0 hk;simp only[Ju]at hf hl;simp only[JK,Kl,LJ]at hs hk⊢;obtain⟨f,rfl⟩:∃m,f=m+1:=⟨f - 1,by omega⟩
  have hw:Js.wrap ((pre.length:Int)+1)=(pre.length:Int)+1:=aK _ (by omega) (by omega);have hB:JC Qq x=((Jq x.1+1)+(JC Qz x.2.1+1)):=rfl;have hm1:=nX hn k (by omega);have hwk1:Js.wrap (k+1)=k+1:=aK _ (by omega) (by omega);obtain⟨q2,y2,a2,b2,c2,d2⟩:=rZ hn x.2.1 (by omega) (k+1) (by omega) (by omega);have hwk2:Js.wrap (q2+1)=q2+1:=aK _ (by omega) (by omega);obtain⟨k1,out,i1,i2,i3,i4,i5⟩:=ih (pre++[(((rY n k,(y2,q2))):WC)]) f (q2+1) (by omega) (by simp;omega) (by omega) (by omega) (by omega);rw[Jv,Ku]at i1 i5;refine⟨k1,(((rY n k,(y2,q2))):WC)::out,?_,by omega,by omega,by simp[i4],λpre2 g H0 hp hg=>?_⟩
  ·simp only[e8.l0,dg,eY,eX,if_true,JQ,cR,dU,hw,hm1,hwk1,hwk2,Jn,a2]
   simpa using i1
  ·obtain⟨g,rfl⟩:∃m,g=m+1:=⟨g - 1,by omega⟩
   have i6:=i5 (pre2++[(((rY n k,(y2,q2))):WC)]) g H0 (by simp[hp]) (by simp only[Ju]at hg;omega);rw[← hp]at i6 hw⊢;simp only[ea.l0,dg,eY,eX,if_true,JQ,cR,dU,hw,hm1,hwk1,hwk2,Jn,d2,decide_true,KR,JG,if_false,bJ,beq_self_eq_true,KY,nn,and_self];rw[ao (by omega)];simpa using i6
theorem x9 {n:Nat}(hn:cZ<=n)(a:Wy)(hb:JC Qm a<=2147483648)(k:Int)(h0:0<k)(hk:k+(JC Qm a:Int)<=4294967296):
  ∃k1 out,e8.F n a k=some (k1,out)/\k<=k1/\k1<=k+(JC Qm a:Int)/\ea.F n out k=some k1:=by
 have hl0:=cy (e:=.st Qt) a;have hl1:=cM (e:=.st Qt) a;obtain⟨k1,out,i1,i2,i3,i4,i5⟩:=tn hn (K0:=λk a=>some (k,a)) a [] n k (by unfold cZ at hn;omega) (by simp;omega) (by omega) h0 (by omega);exact⟨k1,out,i1,i2,by omega,i5 [] n _ rfl (by unfold cZ at hn;omega)⟩
theorem BU {n:Nat}(hn:cZ<=n){K0:Int->WN->Option (Int×WN)}:∀(post pre:WN) (f:Nat) (k:Int),post.length<f->pre.length+post.length<=2147483648->(KW (JC QA) post).sum<=2147483648->0<k->k+((KW (JC QA) post).sum:Int)<=4294967296->
  ∃k1 out,dE.l0 n K0 f k (pre.length:Int) (pre++post)=K0 k1 (pre++out)/\k<=k1/\k1<=k+((KW (JC QA) post).sum:Int)/\out.length=post.length/\
   ∀(pre2:WN) (g:Nat) (H0:Int->Option Int),pre2.length=pre.length->post.length<g->dG.l0 n (pre2++out) H0 g k (pre.length:Int)=H0 k1:=by
 intro post
 induction post with
 |nil=>
  intro pre f k hf hl hs h0 hk;obtain⟨f,rfl⟩:∃m,f=m+1:=⟨f - 1,by omega⟩
  refine⟨k,[],?_,by omega,by simp,rfl,λpre2 g H0 hp hg=>?_⟩
  ·simp only[dE.l0,dg,eZ,if_false]
  ·obtain⟨g,rfl⟩:∃m,g=m+1:=⟨g - 1,by omega⟩
   rw[← hp];simp only[dG.l0,dg,eZ,if_false]
 |cons x post ih=>
  intro pre f k hf hl hs h0 hk;simp only[Ju]at hf hl;simp only[JK,Kl,LJ]at hs hk⊢;obtain⟨f,rfl⟩:∃m,f=m+1:=⟨f - 1,by omega⟩
  have hw:Js.wrap ((pre.length:Int)+1)=(pre.length:Int)+1:=aK _ (by omega) (by omega);have hB:JC QA x=1:=rfl;have hwk1:Js.wrap (k+1)=k+1:=aK _ (by omega) (by omega);obtain⟨k1,out,i1,i2,i3,i4,i5⟩:=ih (pre++[((k):Int)]) f (k+1) (by omega) (by simp;omega) (by omega) (by omega) (by omega);rw[Jv,Ku]at i1 i5;refine⟨k1,((k):Int)::out,?_,by omega,by omega,by simp[i4],λpre2 g H0 hp hg=>?_⟩
  ·simp only[dE.l0,dg,eY,eX,if_true,JQ,cR,dU,hw,hwk1,Jn]
   simpa using i1
  ·obtain⟨g,rfl⟩:∃m,g=m+1:=⟨g - 1,by omega⟩
   have i6:=i5 (pre2++[((k):Int)]) g H0 (by simp[hp]) (by simp only[Ju]at hg;omega);rw[← hp]at i6 hw⊢;simp only[dG.l0,dg,eY,eX,if_true,JQ,cR,dU,hw,hwk1,Jn,decide_true,KR,JG,if_false,bJ,beq_self_eq_true,KY,nn,and_self];simpa using i6
theorem vn {n:Nat}(hn:cZ<=n)(a:WN)(hb:JC Qy a<=2147483648)(k:Int)(h0:0<k)(hk:k+(JC Qy a:Int)<=4294967296):
  ∃k1 out,dE.F n a k=some (k1,out)/\k<=k1/\k1<=k+(JC Qy a:Int)/\dG.F n out k=some k1:=by
 have hl0:=cy (e:=.int .i64) a;have hl1:=cM (e:=.int .i64) a;obtain⟨k1,out,i1,i2,i3,i4,i5⟩:=BU hn (K0:=λk a=>some (k,a)) a [] n k (by unfold cZ at hn;omega) (by simp;omega) (by omega) h0 (by omega);exact⟨k1,out,i1,i2,by omega,i5 [] n _ rfl (by unfold cZ at hn;omega)⟩
theorem BV {n:Nat}(hn:cZ<=n){K0:Int->WD->Option (Int×WD)}:∀(post pre:WD) (f:Nat) (k:Int),post.length<f->pre.length+post.length<=2147483648->(KW (JC Qn) post).sum<=2147483648->0<k->k+((KW (JC Qn) post).sum:Int)<=4294967296->
  ∃k1 out,gm.l0 n K0 f k (pre.length:Int) (pre++post)=K0 k1 (pre++out)/\k<=k1/\k1<=k+((KW (JC Qn) post).sum:Int)/\out.length=post.length/\
   ∀(pre2:WD) (g:Nat) (H0:Int->Option Int),pre2.length=pre.length->post.length<g->gj.l0 n (pre2++out) H0 g k (pre.length:Int)=H0 k1:=by
 intro post
 induction post with
 |nil=>
  intro pre f k hf hl hs h0 hk;obtain⟨f,rfl⟩:∃m,f=m+1:=⟨f - 1,by omega⟩
  refine⟨k,[],?_,by omega,by simp,rfl,λpre2 g H0 hp hg=>?_⟩
  ·simp only[gm.l0,dg,eZ,if_false]
  ·obtain⟨g,rfl⟩:∃m,g=m+1:=⟨g - 1,by omega⟩
   rw[← hp];simp only[gj.l0,dg,eZ,if_false]
 |cons x post ih=>
  intro pre f k hf hl hs h0 hk;simp only[Ju]at hf hl;simp only[JK,Kl,LJ]at hs hk⊢;obtain⟨f,rfl⟩:∃m,f=m+1:=⟨f - 1,by omega⟩
  have hw:Js.wrap ((pre.length:Int)+1)=(pre.length:Int)+1:=aK _ (by omega) (by omega);have hB:JC Qn x=(1+((Jq x.2.1+1)+JC Qy x.2.2)):=rfl;have hwk1:Js.wrap (k+1)=k+1:=aK _ (by omega) (by omega);have hm1:=nX hn (k+1) (by omega);have hwk2:Js.wrap (k+1+1)=k+1+1:=aK _ (by omega) (by omega);obtain⟨q2,y2,a2,b2,c2,d2⟩:=vn hn x.2.2 (by omega) (k+1+1) (by omega) (by omega);obtain⟨k1,out,i1,i2,i3,i4,i5⟩:=ih (pre++[(((k,(rY n (k+1),y2))):WG)]) f q2 (by omega) (by simp;omega) (by omega) (by omega) (by omega);rw[Jv,Ku]at i1 i5;refine⟨k1,(((k,(rY n (k+1),y2))):WG)::out,?_,by omega,by omega,by simp[i4],λpre2 g H0 hp hg=>?_⟩
  ·simp only[gm.l0,dg,eY,eX,if_true,JQ,cR,dU,hw,hwk1,hm1,hwk2,Jn,a2]
   simpa using i1
  ·obtain⟨g,rfl⟩:∃m,g=m+1:=⟨g - 1,by omega⟩
   have i6:=i5 (pre2++[(((k,(rY n (k+1),y2))):WG)]) g H0 (by simp[hp]) (by simp only[Ju]at hg;omega);rw[← hp]at i6 hw⊢;simp only[gj.l0,dg,eY,eX,if_true,JQ,cR,dU,hw,hwk1,hm1,hwk2,Jn,d2,decide_true,KR,JG,if_false,bJ,beq_self_eq_true,KY,nn,and_self];rw[ao (by omega)];simpa using i6
theorem Fo {n:Nat}(hn:cZ<=n)(a:WD)(hb:JC Qk a<=2147483648)(k:Int)(h0:0<k)(hk:k+(JC Qk a:Int)<=4294967296):
  ∃k1 out,gm.F n a k=some (k1,out)/\k<=k1/\k1<=k+(JC Qk a:Int)/\gj.F n out k=some k1:=by
 have hl0:=cy (e:=.st Qr) a;have hl1:=cM (e:=.st Qr) a;obtain⟨k1,out,i1,i2,i3,i4,i5⟩:=BV hn (K0:=λk a=>some (k,a)) a [] n k (by unfold cZ at hn;omega) (by simp;omega) (by omega) h0 (by omega);exact⟨k1,out,i1,i2,by omega,i5 [] n _ rfl (by unfold cZ at hn;omega)⟩
theorem BW {n:Nat}(hn:cZ<=n){K0:Int->WD->Option (Int×WD)}:∀(post pre:WD) (f:Nat) (k:Int),post.length<f->pre.length+post.length<=2147483648->(KW (JC Qn) post).sum<=2147483648->0<k->k+((KW (JC Qn) post).sum:Int)<=4294967296->
  ∃k1 out,gi.l0 n K0 f k (pre.length:Int) (pre++post)=K0 k1 (pre++out)/\k<=k1/\k1<=k+((KW (JC Qn) post).sum:Int)/\out.length=post.length/\
   ∀(pre2:WD) (g:Nat) (H0:Int->Option Int),pre2.length=pre.length->post.length<g->gl.l0 n (pre2++out) H0 g k (pre.length:Int)=H0 k1:=by
 intro post
 induction post with
 |nil=>
  intro pre f k hf hl hs h0 hk;obtain⟨f,rfl⟩:∃m,f=m+1:=⟨f - 1,by omega⟩
  refine⟨k,[],?_,by omega,by simp,rfl,λpre2 g H0 hp hg=>?_⟩
  ·simp only[gi.l0,dg,eZ,if_false]
  ·obtain⟨g,rfl⟩:∃m,g=m+1:=⟨g - 1,by omega⟩
   rw[← hp];simp only[gl.l0,dg,eZ,if_false]
 |cons x post ih=>
  intro pre f k hf hl hs h0 hk;simp only[Ju]at hf hl;simp only[JK,Kl,LJ]at hs hk⊢;obtain⟨f,rfl⟩:∃m,f=m+1:=⟨f - 1,by omega⟩
  have hw:Js.wrap ((pre.length:Int)+1)=(pre.length:Int)+1:=aK _ (by omega) (by omega);have hB:JC Qn x=(1+((Jq x.2.1+1)+JC Qy x.2.2)):=rfl;have hwk1:Js.wrap (k+1)=k+1:=aK _ (by omega) (by omega);have hm1:=nX hn (k+1) (by omega);have hwk2:Js.wrap (k+1+1)=k+1+1:=aK _ (by omega) (by omega);obtain⟨q2,y2,a2,b2,c2,d2⟩:=vn hn x.2.2 (by omega) (k+1+1) (by omega) (by omega);obtain⟨k1,out,i1,i2,i3,i4,i5⟩:=ih (pre++[(((k,(rY n (k+1),y2))):WG)]) f q2 (by omega) (by simp;omega) (by omega) (by omega) (by omega);rw[Jv,Ku]at i1 i5;refine⟨k1,(((k,(rY n (k+1),y2))):WG)::out,?_,by omega,by omega,by simp[i4],λpre2 g H0 hp hg=>?_⟩
  ·simp only[gi.l0,dg,eY,eX,if_true,JQ,cR,dU,hw,hwk1,hm1,hwk2,Jn,a2]
   simpa using i1
  ·obtain⟨g,rfl⟩:∃m,g=m+1:=⟨g - 1,by omega⟩
   have i6:=i5 (pre2++[(((k,(rY n (k+1),y2))):WG)]) g H0 (by simp[hp]) (by simp only[Ju]at hg;omega);rw[← hp]at i6 hw⊢;simp only[gl.l0,dg,eY,eX,if_true,JQ,cR,dU,hw,hwk1,hm1,hwk2,Jn,d2,decide_true,KR,JG,if_false,bJ,beq_self_eq_true,KY,nn,and_self];rw[ao (by omega)];simpa using i6
theorem Fp {n:Nat}(hn:cZ<=n)(a:WD)(hb:JC Qk a<=2147483648)(k:Int)(h0:0<k)(hk:k+(JC Qk a:Int)<=4294967296):
  ∃k1 out,gi.F n a k=some (k1,out)/\k<=k1/\k1<=k+(JC Qk a:Int)/\gl.F n out k=some k1:=by
 have hl0:=cy (e:=.st Qr) a;have hl1:=cM (e:=.st Qr) a;obtain⟨k1,out,i1,i2,i3,i4,i5⟩:=BW hn (K0:=λk a=>some (k,a)) a [] n k (by unfold cZ at hn;omega) (by simp;omega) (by omega) h0 (by omega);exact⟨k1,out,i1,i2,by omega,i5 [] n _ rfl (by unfold cZ at hn;omega)⟩
theorem zl {n:Nat}(hn:cZ<=n){K0:Int->Wh->Option (Int×Wh)}:∀(post pre:Wh) (f:Nat) (k:Int),post.length<f->pre.length+post.length<=2147483648->(KW (JC Qf) post).sum<=2147483648->0<k->k+((KW (JC Qf) post).sum:Int)<=4294967296->
  ∃k1 out,fu.l0 n K0 f k (pre.length:Int) (pre++post)=K0 k1 (pre++out)/\k<=k1/\k1<=k+((KW (JC Qf) post).sum:Int)/\out.length=post.length/\
   ∀(pre2:Wh) (g:Nat) (H0:Int->Option Int),pre2.length=pre.length->post.length<g->fq.l0 n (pre2++out) H0 g k (pre.length:Int)=H0 k1:=by
 intro post
 induction post with
 |nil=>
  intro pre f k hf hl hs h0 hk;obtain⟨f,rfl⟩:∃m,f=m+1:=⟨f - 1,by omega⟩
  refine⟨k,[],?_,by omega,by simp,rfl,λpre2 g H0 hp hg=>?_⟩
  ·simp only[fu.l0,dg,eZ,if_false]
  ·obtain⟨g,rfl⟩:∃m,g=m+1:=⟨g - 1,by omega⟩
   rw[← hp];simp only[fq.l0,dg,eZ,if_false]
 |cons x post ih=>
  intro pre f k hf hl hs h0 hk;simp only[Ju]at hf hl;simp only[JK,Kl,LJ]at hs hk⊢;obtain⟨f,rfl⟩:∃m,f=m+1:=⟨f - 1,by omega⟩
  have hw:Js.wrap ((pre.length:Int)+1)=(pre.length:Int)+1:=aK _ (by omega) (by omega);have hB:JC Qf x=(JC Qk x.1+((1+((Jq x.2.1.2.1+1)+JC Qy x.2.1.2.2))+JC Qk x.2.2)):=rfl;obtain⟨q1,y1,a1,b1,c1,d1⟩:=Fo hn x.1 (by omega) k (by omega) (by omega);have hwk1:Js.wrap (q1+1)=q1+1:=aK _ (by omega) (by omega);have hm2:=nX hn (q1+1) (by omega);have hwk2:Js.wrap (q1+1+1)=q1+1+1:=aK _ (by omega) (by omega);obtain⟨q3,y3,a3,b3,c3,d3⟩:=vn hn x.2.1.2.2 (by omega) (q1+1+1) (by omega) (by omega);obtain⟨q4,y4,a4,b4,c4,d4⟩:=Fp hn x.2.2 (by omega) q3 (by omega) (by omega);obtain⟨k1,out,i1,i2,i3,i4,i5⟩:=ih (pre++[(((y1,((q1,(rY n (q1+1),y3)),y4))):Wk)]) f q4 (by omega) (by simp;omega) (by omega) (by omega) (by omega);rw[Jv,Ku]at i1 i5;refine⟨k1,(((y1,((q1,(rY n (q1+1),y3)),y4))):Wk)::out,?_,by omega,by omega,by simp[i4],λpre2 g H0 hp hg=>?_⟩
  ·simp only[fu.l0,dg,eY,eX,if_true,JQ,cR,dU,hw,hwk1,hm2,hwk2,Jn,a1,a3,a4]
   simpa using i1
  ·obtain⟨g,rfl⟩:∃m,g=m+1:=⟨g - 1,by omega⟩
   have i6:=i5 (pre2++[(((y1,((q1,(rY n (q1+1),y3)),y4))):Wk)]) g H0 (by simp[hp]) (by simp only[Ju]at hg;omega);rw[← hp]at i6 hw⊢;simp only[fq.l0,dg,eY,eX,if_true,JQ,cR,dU,hw,hwk1,hm2,hwk2,Jn,d1,d3,d4,decide_true,KR,JG,if_false,bJ,beq_self_eq_true,KY,nn,and_self];rw[ao (by omega),ao (by omega),ao (by omega)];simpa using i6
theorem Dd {n:Nat}(hn:cZ<=n)(a:Wh)(hb:JC Qe a<=2147483648)(k:Int)(h0:0<k)(hk:k+(JC Qe a:Int)<=4294967296):
  ∃k1 out,fu.F n a k=some (k1,out)/\k<=k1/\k1<=k+(JC Qe a:Int)/\fq.F n out k=some k1:=by
 have hl0:=cy (e:=.st Qg) a;have hl1:=cM (e:=.st Qg) a;obtain⟨k1,out,i1,i2,i3,i4,i5⟩:=zl hn (K0:=λk a=>some (k,a)) a [] n k (by unfold cZ at hn;omega) (by simp;omega) (by omega) h0 (by omega);exact⟨k1,out,i1,i2,by omega,i5 [] n _ rfl (by unfold cZ at hn;omega)⟩
theorem At {n:Nat}(hn:cZ<=n)(a:Wb)(hb:JC Qc a<=2147483648)(k:Int)(h0:0<k)(hk:k+(JC Qc a:Int)<=4294967296):
  ∃k1 out,ij.F n a k=some (k1,out)/\k<=k1/\k1<=k+(JC Qc a:Int)/\ii.F n out k=some k1:=by
 have hB:JC Qc a=(JC Qj a.1+(JC Qm a.2.1+JC Qe a.2.2)):=rfl;obtain⟨q1,y1,a1,b1,c1,d1⟩:=vm hn a.1 (by omega) k (by omega) (by omega);obtain⟨q2,y2,a2,b2,c2,d2⟩:=x9 hn a.2.1 (by omega) q1 (by omega) (by omega);obtain⟨q3,y3,a3,b3,c3,d3⟩:=Dd hn a.2.2 (by omega) q2 (by omega) (by omega);refine⟨((q3,(y1,(y2,y3)))).1,((q3,(y1,(y2,y3)))).2,?_,?_,?_,?_⟩
 ·unfold ij.F
  exact bS a1 (bS a2 (bS a3 (rfl)))
 ·show k<=q3
  omega
 ·show q3<=_
  omega
 ·unfold ii.F
  refine bS d1 ?_
  try dsimp only
  rw[ao (by simp only[dg];omega)];refine bS d2 ?_
  try dsimp only
  rw[ao (by simp only[dg];omega)];refine bS d3 ?_
  try dsimp only
  rw[ao (by simp only[dg];omega)]
  all_goals rfl
end Go.Abs
