/- The parsers' programs. Conditions: none. -/
import Derived.Test.YtkelpajcfmghiaaGreatDoorF4
import Derived.Test.YtkelpajcfmghiaaGreatDoorT7
open Bool renaming and_eq_true → Jm,eq_false_iff → JK,false_eq_true → Jt,not_false → KJ,or_eq_false_iff → K8,true_and → Kf
open ByteArray renaming empty → Jd
open Go.Abs renaming seq → JL
open Go.IntKind renaming i64 → Jh
open List renaming getD_eq_getElem?_getD → KB,length → Je,length_cons → Jj,length_nil → Jo,mem_append → KC,mem_singleton → JQ,nil_append → Kg
open Option renaming bind_eq_some_iff → LC,bind_some → Jc
open Option.some renaming injEq → Jq
open Prod.mk renaming injEq → JH
set_option linter.unusedVariables false
set_option linter.unusedSimpArgs false
namespace Go.Abs
abbrev Tk:Type:=Int×ByteArray×Int
abbrev Xp:Type:=Int×ByteArray×List Int
abbrev Rl:Type:=List Xp×Xp×List Xp
abbrev PP:Type:=List (ByteArray×List (ByteArray×List ByteArray))×List (ByteArray×(List ByteArray)×Int)×List Rl
abbrev RR:Type:=List Tk×Int×Int×Int×Bool×Bool×List Xp×PP
abbrev lY:Type:=List Tk×Int×Int×Int×Bool
def aR (L:List Tk)(k:Nat):Tk:=L.getD k (0,(Jd,0))
def gr (L:List Tk)(Z:Int)(k:Nat):Int:=if k<L.length then(aR L k).2.2 else Z
abbrev sH (L:List Tk)(Z:Int)(k:Nat)(m:Bool)(E:List Xp)(P:PP):RR:=(L,(k:Int),Z,0,false,m,E,P)
abbrev sF (L:List Tk)(Z:Int)(b:Int)(k:Nat)(m:Bool)(E:List Xp)(P:PP):RR:=(L,(k:Int),Z,b,true,m,E,P)
abbrev iH (L:List Tk)(Z:Int)(k:Nat)(m:Bool):lY:=(L,(k:Int),Z,-1,m)
abbrev iF (L:List Tk)(Z:Int)(b:Int)(k:Nat)(m:Bool):lY:=(L,(k:Int),Z,b,m)
def xS (t:Tk)(s:ByteArray):Bool:=(decide (t.1=5)||decide (t.1=1))&&decide (t.2.1=s)
def ib (t:Tk)(s:ByteArray):Bool:=decide (t.1=5)&&decide (t.2.1=s)
def mu (t:Tk)(s:ByteArray):Bool:=decide (t.1=1)&&decide (t.2.1=s)
theorem py (a b:ByteArray):JL a b=decide (a=b):=by
 rw[jv a,jv b,gv]
 by_cases h:a.data.toList=b.data.toList
 ·rw[h];simp
 ·have:¬bt a.data.toList=bt b.data.toList:=λe=>h (by have:=congrArg (λx=>x.data.toList) e;simpa[ez]using this)
  rw[dp this,beq_eq_false_iff_ne];exact h
theorem nk {k:Nat}(h:k<=1000000000):IntKind.wrap .i64 ((k:Int)+1)=((k+1:Nat):Int):=by
 rw[aJ _ (by omega) (by omega)];omega
theorem J9 {k j:Nat}(h:k<=1000000000)(hj:j<=10):IntKind.wrap .i64 ((k:Int)+(j:Int))=((k+j:Nat):Int):=by
 rw[aJ _ (by omega) (by omega)];omega
theorem iU {L:List Tk}{k:Nat}(h:¬k<L.length):aR L k=(0,(Jd,0)):=by
 unfold aR;rw[KB,List.getElem?_eq_none (by omega)]
 rfl
section
variable {n:Nat} {L:List Tk} {Z:Int} (hL:L.length<=3000)
include hL in
theorem In {b:Int}{f m:Bool}{E:List Xp}{P:PP}{k j:Nat}(hk:k<=L.length)(hj:j<=10):
  bh.F n (L,(k:Int),Z,b,f,m,E,P) (j:Int)=some (if k+j<L.length then aR L (k+j)else(0,(Jd,Z))):=by
 unfold bh.F;simp only[J9 (show k<=1000000000 by omega) hj]
 by_cases h:k+j<L.length
 ·rw[ab (by simp;omega),ab (by omega),ab h]
  rfl
 ·rw[ao (by simp;omega),ao h]
include hL in
theorem oJ {b:Int}{f m:Bool}{E:List Xp}{P:PP}{k:Nat}(hk:k<=L.length):
  bh.F n (L,(k:Int),Z,b,f,m,E,P) 0=some (if k<L.length then aR L k else(0,(Jd,Z))):=In (j:=0) hL hk (by omega)
include hL in
theorem tJ {b:Int}{f m:Bool}{E:List Xp}{P:PP}{k:Nat}(hk:k<=L.length)(s:ByteArray):
  bQ.F n (L,(k:Int),Z,b,f,m,E,P) s=some (!f&&xS (aR L k) s):=by
 unfold bQ.F;rw[oJ hL hk,Jc];cases f with
 |true=>rw[ao (by simp)];rfl
 |false=>
  rw[ab (by simp)];unfold xS
  by_cases h:k<L.length
  ·rw[ab h]
   simp only[py]
   by_cases c1:(aR L k).1=5
   ·rw[ao (by simp[c1])];simp[c1]
   ·rw[ab (by simp[c1])]
    by_cases c2:(aR L k).1=1
    ·rw[ab (by simp[c2])];simp[c1,c2]
    ·rw[ao (by simp[c2])];simp[c1,c2]
  ·rw[ao h,iU h]
   rfl
include hL in
theorem Db {m:Bool}{E:List Xp}{P:PP}{k:Nat}(hk:k<=L.length):da.F n (sH L Z k m E P)=some (sF L Z (gr L Z k) k m E P):=by
 unfold da.F gr;simp only[KJ,if_true];rw[oJ hL hk,Jc]
 by_cases h:k<L.length
 ·rw[ab h,ab h]
 ·rw[ao h,ao h]
include hL in
theorem q8 {m:Bool}{E:List Xp}{P:PP}{k:Nat}(hk:k<=L.length)(s:ByteArray):aT.F n (sH L Z k m E P) s=some (xS (aR L k) s,sH L Z (if xS (aR L k) s=true then k+1 else k) m E P):=by
 unfold aT.F;rw[tJ hL hk,Jc,KJ,Kf];cases h:xS (aR L k) s with
 |true=>rw[ab rfl,ab rfl];simp only[nk (show k<=1000000000 by omega)]
 |false=>rw[ao (by simp),ao (by simp)]
include hL in
theorem kt {b:Int}{m:Bool}{E:List Xp}{P:PP}{k:Nat}(hk:k<=L.length)(s:ByteArray):aT.F n (sF L Z b k m E P) s=some (false,sF L Z b k m E P):=by
 unfold aT.F;rw[tJ hL hk,Jc]
 rfl
include hL in
theorem x6 {m:Bool}{E:List Xp}{P:PP}{k:Nat}(hk:k<=L.length)(s:ByteArray):bo.F n (sH L Z k m E P) s=some (if xS (aR L k) s=true then sH L Z (k+1) m E P else sF L Z (gr L Z k) k m E P):=by
 unfold bo.F;rw[q8 hL hk,Jc];cases h:xS (aR L k) s with
 |true=>rw[ao (by simp),ab rfl,ab rfl]
 |false=>
  rw[ab (by simp),ao (by simp)];simp only[Jt,if_false];rw[Db hL hk,Jc]
include hL in
theorem rY {b:Int}{m:Bool}{E:List Xp}{P:PP}{k:Nat}(hk:k<=L.length)(s:ByteArray):bo.F n (sF L Z b k m E P) s=some (sF L Z b k m E P):=by
 unfold bo.F;rw[kt hL hk,Jc]
 rfl
include hL in
theorem rZ {m:Bool}{E:List Xp}{P:PP}{k:Nat}(hk:k<=L.length){K:Int}(hK:K≠0):bE.F n (sH L Z k m E P) K=some (if(aR L k).1=K then((aR L k).2.1,sH L Z (k+1) m E P)else(Jd,sF L Z (gr L Z k) k m E P)):=by
 unfold bE.F;rw[oJ hL hk,Jc];simp only[if_true]
 by_cases h:k<L.length
 ·simp only[ab h]
  by_cases c:(aR L k).1=K
  ·rw[ao (by simp[c]),ab c]
   simp only[nk (show k<=1000000000 by omega)]
  ·rw[ab (by simp[c]),ao c,Db hL hk,Jc]
 ·simp only[ao h]
  rw[ab (by simp;omega),ao (by rw[iU h];exact λh=>hK h.symm),Db hL hk,Jc]
include hL in
theorem Dc {b:Int}{m:Bool}{E:List Xp}{P:PP}{k:Nat}(hk:k<=L.length){K:Int}:bE.F n (sF L Z b k m E P) K=some (Jd,sF L Z b k m E P):=by
 unfold bE.F;rw[oJ hL hk,Jc]
 rfl
theorem lZ {b:Int}{f m:Bool}{E:List Xp}{P:PP}{k:Int}{t most:Int}:aW.F n (L,k,Z,b,f,m,E,P) t most=some (L,k,Z,b,f,m||decide (t>most),E,P):=by
 unfold aW.F;cases m with
 |true=>rw[ao (by simp)];rfl
 |false=>rw[ab (by simp)];simp
include hL in
theorem x7 {m:Bool}{E:List Xp}{P:PP}{k:Nat}(hk:k<=L.length):bf.F n (sH L Z k m E P)=some (sF L Z (gr L Z k) k m E P):=by
 unfold bf.F gr;simp only[KJ,if_true];rw[oJ hL hk,Jc]
 by_cases h:k<L.length
 ·rw[ab h,ab h]
 ·rw[ao h,ao h]
theorem Ht {b:Int}{m:Bool}{E:List Xp}{P:PP}{k:Nat}:bf.F n (sF L Z b k m E P)=some (sF L Z b k m E P):=rfl
include hL in
theorem mS {m:Bool}{E:List Xp}{P:PP}{k:Nat}(hk:k<=L.length)(s:ByteArray):aB.F n (sH L Z k m E P) s=some (xS (aR L k) s,sH L Z (if xS (aR L k) s=true then k+1 else k) m E P):=by
 unfold aB.F;rw[tJ hL hk,Jc,KJ,Kf];cases h:xS (aR L k) s with
 |true=>rw[ab rfl,ab rfl];simp only[nk (show k<=1000000000 by omega)]
 |false=>rw[ao (by simp),ao (by simp)]
include hL in
theorem mT {b:Int}{m:Bool}{E:List Xp}{P:PP}{k:Nat}(hk:k<=L.length)(s:ByteArray):aB.F n (sF L Z b k m E P) s=some (false,sF L Z b k m E P):=by
 unfold aB.F;rw[tJ hL hk,Jc]
 rfl
include hL in
theorem Ag {m:Bool}{E:List Xp}{P:PP}{k:Nat}(hk:k<=L.length)(s:ByteArray):bl.F n (sH L Z k m E P) s=some (if xS (aR L k) s=true then sH L Z (k+1) m E P else sF L Z (gr L Z k) k m E P):=by
 unfold bl.F;rw[mS hL hk,Jc];cases h:xS (aR L k) s with
 |true=>rw[ao (by simp),ab rfl,ab rfl]
 |false=>
  rw[ab (by simp),ao (by simp)];simp only[Jt,if_false];rw[x7 hL hk,Jc]
include hL in
theorem uZ {b:Int}{m:Bool}{E:List Xp}{P:PP}{k:Nat}(hk:k<=L.length)(s:ByteArray):bl.F n (sF L Z b k m E P) s=some (sF L Z b k m E P):=by
 unfold bl.F;rw[mT hL hk,Jc]
 rfl
include hL in
theorem Gq {m:Bool}{E:List Xp}{P:PP}{k:Nat}(hk:k<=L.length){K:Int}(hK:K≠0):cX.F n (sH L Z k m E P) K=some (if(aR L k).1=K then((aR L k).2.1,sH L Z (k+1) m E P)else(Jd,sF L Z (gr L Z k) k m E P)):=by
 unfold cX.F;rw[oJ hL hk,Jc];simp only[if_true]
 by_cases h:k<L.length
 ·simp only[ab h]
  by_cases c:(aR L k).1=K
  ·rw[ao (by simp[c]),ab c]
   simp only[nk (show k<=1000000000 by omega)]
  ·rw[ab (by simp[c]),ao c,x7 hL hk,Jc]
 ·simp only[ao h]
  rw[ab (by simp;omega),ao (by rw[iU h];exact λh=>hK h.symm),x7 hL hk,Jc]
theorem z8 {b:Int}{f m:Bool}{E:List Xp}{P:PP}{k:Int}{t most:Int}:dk.F n (L,k,Z,b,f,m,E,P) t most=some (L,k,Z,b,f,m||decide (t>most),E,P):=by
 unfold dk.F;cases m with
 |true=>rw[ao (by simp)];rfl
 |false=>rw[ab (by simp)];simp
theorem pz {b:Int}{f m:Bool}{E:List Xp}{P:PP}{k:Int}{K:Int}{t:ByteArray}{l:List Int}(h:E.length<=100000):bm.F n (L,k,Z,b,f,m,E,P) K t l=some ((E.length:Int),(L,k,Z,b,f,m,E++[(K,(t,l))],P)):=by
 unfold bm.F;simp only[];rw[ab (by simp only[Jj,Jo,aU];omega),aJ _ (by omega) (by simp;omega)]
 simp
include hL in
theorem Gr {m:Bool}{k j:Nat}(hk:k<=L.length)(hj:j<=10):aY.F n (iH L Z k m) (j:Int)=some (aR L (k+j)):=by
 unfold aY.F;simp only[J9 (show k<=1000000000 by omega) hj];rw[ab (by simp)]
 by_cases h:k+j<L.length
 ·rw[ao (by simp;omega),ab (by omega)]
  rfl
 ·rw[ab (by simp;omega),iU h]
include hL in
theorem pA {m:Bool}{k:Nat}(hk:k<=L.length):aY.F n (iH L Z k m) 0=some (aR L k):=Gr (j:=0) hL hk (by omega)
theorem x8 {b:Int}(hb:0<=b){m:Bool}{k:Nat}(j:Int):aY.F n (iF L Z b k m) j=some (0,(Jd,0)):=by
 unfold aY.F;rw[ao (by simp;omega)]
include hL in
theorem Hu {m:Bool}{k:Nat}(hk:k<=L.length)(s:ByteArray):bU.F n (iH L Z k m) s=some (ib (aR L k) s):=by
 unfold bU.F ib;rw[pA hL hk,Jc]
 by_cases c:(aR L k).1=5
 ·rw[ab (by simp[c]),py];simp[c]
 ·rw[ao (by simp[c])];simp[c]
theorem BG {b:Int}(hb:0<=b){m:Bool}{k:Nat}(s:ByteArray):bU.F n (iF L Z b k m) s=some false:=by
 unfold bU.F;rw[x8 hb,Jc]
 rfl
include hL in
theorem nP {m:Bool}{k:Nat}(hk:k<=L.length)(s:ByteArray):bL.F n (iH L Z k m) s=some (mu (aR L k) s):=by
 unfold bL.F mu;rw[pA hL hk,Jc]
 by_cases c:(aR L k).1=1
 ·rw[ab (by simp[c]),py];simp[c]
 ·rw[ao (by simp[c])];simp[c]
theorem oL {b:Int}(hb:0<=b){m:Bool}{k:Nat}(s:ByteArray):bL.F n (iF L Z b k m) s=some false:=by
 unfold bL.F;rw[x8 hb,Jc]
 rfl
include hL in
theorem x9 {m:Bool}{k:Nat}(hk:k<=L.length):aZ.F n (iH L Z k m)=some (iF L Z (gr L Z k) k m):=by
 have hL0:=hL;unfold aZ.F gr;rw[ao (by simp)]
 by_cases h:k<L.length
 ·rw[ab (by simp;omega),ab (show(0:Int)<=(k:Int)/\(k:Int)<(L.length:Int)by omega),ab h]
  rfl
 ·rw[ao (by simp;omega),ao h]
theorem s9 {b:Int}(hb:0<=b){m:Bool}{k:Nat}:aZ.F n (iF L Z b k m)=some (iF L Z b k m):=by
 unfold aZ.F;rw[ab (by simp;omega)]
include hL in
theorem jt {m:Bool}{k:Nat}(hk:k<=L.length)(s:ByteArray):aD.F n (iH L Z k m) s=some (ib (aR L k) s,iH L Z (if ib (aR L k) s=true then k+1 else k) m):=by
 unfold aD.F;rw[Hu hL hk,Jc];cases h:ib (aR L k) s with
 |true=>rw[ab rfl,ab rfl];simp only[nk (show k<=1000000000 by omega)]
 |false=>rw[ao (by simp),ao (by simp)]
theorem gu {b:Int}(hb:0<=b){m:Bool}{k:Nat}(s:ByteArray):aD.F n (iF L Z b k m) s=some (false,iF L Z b k m):=by
 unfold aD.F;rw[BG hb,Jc]
 rfl
include hL in
theorem mU {m:Bool}{k:Nat}(hk:k<=L.length)(s:ByteArray):aA.F n (iH L Z k m) s=some (if ib (aR L k) s=true then iH L Z (k+1) m else iF L Z (gr L Z k) k m):=by
 unfold aA.F;rw[jt hL hk,Jc];cases h:ib (aR L k) s with
 |true=>rw[ao (by simp),ab rfl,ab rfl]
 |false=>
  rw[ab (by simp),ao (by simp)];simp only[Jt,if_false];rw[x9 hL hk,Jc]
theorem ku {b:Int}(hb:0<=b){m:Bool}{k:Nat}(s:ByteArray):aA.F n (iF L Z b k m) s=some (iF L Z b k m):=by
 unfold aA.F;rw[gu hb,Jc,ab (by simp),s9 hb,Jc]
include hL in
theorem xa {m:Bool}{k:Nat}(hk:k<=L.length){K:Int}(hK:K≠0):bO.F n (iH L Z k m) K=some (if(aR L k).1=K then((aR L k).2.1,iH L Z (k+1) m)else(Jd,iF L Z (gr L Z k) k m)):=by
 unfold bO.F;rw[pA hL hk,Jc]
 by_cases c:(aR L k).1=K
 ·rw[ao (by simp[c]),ab c]
  simp only[nk (show k<=1000000000 by omega)]
 ·rw[ab (by simp[c]),ao c,x9 hL hk,Jc]
theorem Hv {b:Int}(hb:0<=b){m:Bool}{k:Nat}{K:Int}(hK:K≠0):bO.F n (iF L Z b k m) K=some (Jd,iF L Z b k m):=by
 unfold bO.F;rw[x8 hb,Jc,ab (by simp;omega),s9 hb,Jc]
theorem pB {E:List Xp}{e:Xp}(h:E.length<=100000):bw.F n E e=some ((E.length:Int),E++[e]):=by
 unfold bw.F;rw[ab (by simp only[Jj,Jo,aU];omega),aJ _ (by omega) (by simp;omega)]
 simp
end
def dx:List ByteArray:=[⟨#[58,45]⟩,⟨#[33,61]⟩,⟨#[60,61]⟩,⟨#[40]⟩,⟨#[41]⟩,⟨#[44]⟩,⟨#[46]⟩,⟨#[33]⟩,⟨#[61]⟩,⟨#[60]⟩,⟨#[43]⟩,⟨#[45]⟩,⟨#[42]⟩,⟨#[124]⟩,⟨#[95]⟩]
def lI:List ByteArray:=[⟨#[116,121,112,101]⟩,⟨#[114,101,108]⟩,⟨#[110,117,109,98,101,114]⟩,⟨#[115,121,109,98,111,108]⟩,⟨#[105,110,112,117,116]⟩,⟨#[111,117,116,112,117,116]⟩,⟨#[105,110,108,105,110,101]⟩]
structure ef (L:List Tk) (Z:Int):Prop where
 few:L.length<=3000
 zp:0<=Z
 pos:∀t∈L,0<=t.2.2
 txt:∀t∈L,t.2.1.size<=30
 sg:∀t∈L,t.1=1->t.2.1∉dx
 wd:∀t∈L,t.1=5->t.2.1∉lI
 num:∀n,100000<=n->∀s,(s=Jd\/∃t∈L,t.1=3/\t.2.1=s)->∃a b u,bn.F n s=some a/\bR.F n (Jh.wrap (0 - a.1))=some u/\iB.F n s=some b/\de.F n (Jh.wrap (0 - b))=some u/\u.size<=30
section
variable {L:List Tk} {Z:Int} {n:Nat}
theorem eH {k:Nat}(h:k<L.length):aR L k∈L:=by
 unfold aR;rw[KB,List.getElem?_eq_getElem h,Option.getD_some];exact List.getElem_mem h
theorem lJ {k:Nat}(h:(aR L k).1≠0):k<L.length:=by
 rcases Nat.lt_or_ge k L.length with h1|h1
 ·exact h1
 ·exact bJ (by rw[iU (by omega)]) h
theorem eI (H:ef L Z){s:ByteArray}(hs:s∈dx)(k:Nat):xS (aR L k) s=ib (aR L k) s:=by
 unfold xS ib
 by_cases c:(aR L k).1=1
 ·have hk:=lJ (L:=L) (k:=k) (by rw[c];decide)
  have:=H.sg _ (eH hk) c;have hne:¬(aR L k).2.1=s:=λe=>this (e▸hs)
  simp[hne]
 ·simp[c]
theorem pC (H:ef L Z){s:ByteArray}(hs:s∈lI)(k:Nat):xS (aR L k) s=mu (aR L k) s:=by
 unfold xS mu
 by_cases c:(aR L k).1=5
 ·have hk:=lJ (L:=L) (k:=k) (by rw[c];decide)
  have:=H.wd _ (eH hk) c;have hne:¬(aR L k).2.1=s:=λe=>this (e▸hs)
  simp[hne]
 ·simp[c]
theorem eJ {k:Nat}{s:ByteArray}(h:ib (aR L k) s=true):k<L.length/\(aR L k).1=5/\(aR L k).2.1=s:=by
 unfold ib at h;simp only[Jm,db]at h;exact⟨lJ (by rw[h.1];decide),h.1,h.2⟩
theorem xb {t:Tk}{s:ByteArray}(h:t.2.1≠s):ib t s=false:=by
 unfold ib
 simp[h]
theorem eh (H:ef L Z)(k:Nat):0<=gr L Z k:=by
 unfold gr
 split
 ·exact H.pos _ (eH ‹_›)
 ·exact H.zp
def OkE (B:Prop)(m:Bool)(E:List Xp):Prop:=m=false->B/\∀e∈E,e.2.1.size<=30/\e.2.2.length<=6
theorem OkE.app {B:Prop}{m:Bool}{E:List Xp}{e:Xp}(h:OkE B m E)(h1:m=false->e.2.1.size<=30/\e.2.2.length<=6):OkE B m (E++[e]):=by
 intro hm;refine⟨(h hm).1,λx hx=>?_⟩;rcases KC.1 hx with hx|hx
 ·exact(h hm).2 x hx
 ·rw[JQ.1 hx];exact h1 hm
theorem OkE.or {B:Prop}{m c:Bool}{E:List Xp}(h:OkE B m E):OkE B (m||c) E:=by
 intro hm;have:m=false:=by cases m<;>simp_all
 exact h this
def SimX {α:Type}(L:List Tk)(Z:Int)(P:PP)(k:Nat)(m:Bool)(E:List Xp)(Q:Bool->α->Prop)(x:Option (α×RR))(y:Option (α×lY×List Xp)):Prop:=
 (∃a k' m' E',x=some (a,sH L Z k' m' E' P)/\y=some (a,iH L Z k' m',E')/\k<=k'/\k'<=L.length/\E'.length+k<=k'+E.length/\(∀B,OkE B m E->OkE B m' E'/\Q m' a))\/
 (∃a a' b k1 m1 E1 k2 m2 E2,x=some (a,sF L Z b k1 m1 E1 P)/\y=some (a',iF L Z b k2 m2,E2)/\0<=b/\k1<=L.length/\k2<=L.length/\E1.length+k<=k1+E.length/\E2.length+k<=k2+E.length)
theorem SimX.up {α:Type}{P:PP}{k k0:Nat}{m m0:Bool}{E E0:List Xp}{Q:Bool->α->Prop}{x:Option (α×RR)}{y:Option (α×lY×List Xp)}(h:SimX L Z P k m E Q x y)(hk:k0<=k)(he:E.length+k0<=k+E0.length)(ho:∀B,OkE B m0 E0->OkE B m E):SimX L Z P k0 m0 E0 Q x y:=by
 rcases h with⟨a,k',m',E',h1,h2,h3,h4,h5,h6⟩|⟨a,a',b,k1,m1,E1,k2,m2,E2,e1,e2,h3,h4,h5,h6,h7⟩
 ·exact .inl ⟨a,k',m',E',h1,h2,by omega,h4,by omega,λB h=>h6 B (ho B h)⟩
 ·exact .inr ⟨a,a',b,k1,m1,E1,k2,m2,E2,e1,e2,h3,h4,h5,by omega,by omega⟩
abbrev qT:Bool->Int->Prop:=λ_ _=>True
def qL {α:Type}:Bool->List α->Prop:=λm o=>m=false->o.length<=6
abbrev F9 (n:Nat):=ak.l0 n (ae.F n) (af.F n) (ak.F n) (aj.F n)
abbrev Fa (n:Nat):=ai.l0 n (ac.F n) (aa.F n) (ai.F n) (ag.F n)
abbrev Dd (n:Nat):=af.l0 n (ae.F n) (af.F n) (ak.F n) (aj.F n)
abbrev De (n:Nat):=aa.l0 n (ac.F n) (aa.F n) (ai.F n) (ag.F n)
abbrev Fc (n:Nat):=ae.l0 n (ae.F n) (af.F n) (ak.F n) (aj.F n)
abbrev Fe (n:Nat):=ac.l0 n (ac.F n) (aa.F n) (ai.F n) (ag.F n)
theorem Hw (hL:L.length<=3000){b:Int}{k:Nat}{m:Bool}{E:List Xp}{P:PP}(hk:k<=L.length):aj.F (n+1) (sF L Z b k m E P)=some (0,sF L Z b k m E P):=by
 show aj.G n (ae.F n) (af.F n) (ak.F n) (aj.F n) (sF L Z b k m E P)=_;unfold aj.G;rw[oJ hL hk,Jc,ab rfl]
theorem za (hL:L.length<=3000){b:Int}{k:Nat}{m:Bool}{E:List Xp}{P:PP}(hk:k<=L.length){K}(f:Nat)(a:Int):F9 n K (f+1) a (sF L Z b k m E P)=K a (sF L Z b k m E P):=by
 unfold F9 ak.l0;rw[mT hL hk,Jc,ao (by simp)]
theorem Hx (hL:L.length<=3000){b:Int}{k:Nat}{m:Bool}{E:List Xp}{P:PP}(hk:k<=L.length):ak.F (n+2) (sF L Z b k m E P)=some (0,sF L Z b k m E P):=by
 show ak.G (n+1) (ae.F (n+1)) (af.F (n+1)) (ak.F (n+1)) (aj.F (n+1)) (sF L Z b k m E P)=_;unfold ak.G;rw[Hw hL hk,Jc];exact za hL hk _ _
theorem Df (hL:L.length<=3000){b:Int}{k:Nat}{m:Bool}{E:List Xp}{P:PP}(hk:k<=L.length){K}(f:Nat)(a:Int):Dd n K (f+1) a (sF L Z b k m E P)=K a (sF L Z b k m E P):=by
 unfold Dd af.l0;rw[tJ hL hk,Jc,tJ hL hk,Jc]
 rfl
theorem Io (hL:L.length<=3000){b:Int}{k:Nat}{m:Bool}{E:List Xp}{P:PP}(hk:k<=L.length):af.F (n+3) (sF L Z b k m E P)=some (0,sF L Z b k m E P):=by
 show af.G (n+2) (ae.F (n+2)) (af.F (n+2)) (ak.F (n+2)) (aj.F (n+2)) (sF L Z b k m E P)=_;unfold af.G;rw[Hx hL hk,Jc];exact Df hL hk _ _
theorem zb (hL:L.length<=3000){b:Int}{k:Nat}{m:Bool}{E:List Xp}{P:PP}(hk:k<=L.length){K}(f:Nat)(o:List Int):Fc n K (f+1) (sF L Z b k m E P) o=K (sF L Z b k m E P) o:=by
 unfold Fc ae.l0;rw[mT hL hk,Jc,ao (by simp)]
theorem Hy {b:Int}(hb:0<=b){k:Nat}{m:Bool}{E:List Xp}:ag.F (n+1) (iF L Z b k m) E=some (0,iF L Z b k m,E):=by
 show ag.G n (ac.F n) (aa.F n) (ai.F n) (ag.F n) (iF L Z b k m) E=_;unfold ag.G;rw[x8 hb,Jc,ab (by simp)];unfold ag.j0;rw[ao (by simp),ao (by simp),gu hb,Jc,ao (by simp),gu hb,Jc,ao (by simp),ao (by simp),gu hb,Jc,ao (by simp)];show(aZ.F n (iF L Z b k m)).bind _=_;rw[s9 hb,Jc]
theorem zd {b:Int}(hb:0<=b){k:Nat}{m:Bool}{E:List Xp}{K}(f:Nat)(a:Int):Fa n K (f+1) a (iF L Z b k m) E=K a (iF L Z b k m) E:=by
 unfold Fa ai.l0;rw[gu hb,Jc,ao (by simp)]
theorem Hz {b:Int}(hb:0<=b){k:Nat}{m:Bool}{E:List Xp}:ai.F (n+2) (iF L Z b k m) E=some (0,iF L Z b k m,E):=by
 show ai.G (n+1) (ac.F (n+1)) (aa.F (n+1)) (ai.F (n+1)) (ag.F (n+1)) (iF L Z b k m) E=_;unfold ai.G;rw[Hy hb,Jc];exact zd hb _ _
theorem Dg {b:Int}(hb:0<=b){k:Nat}{m:Bool}{E:List Xp}{K}(f:Nat)(a:Int):De n K (f+1) a (iF L Z b k m) E=K a (iF L Z b k m) E:=by
 unfold De aa.l0;rw[BG hb,Jc,BG hb,Jc]
 rfl
theorem Ip {b:Int}(hb:0<=b){k:Nat}{m:Bool}{E:List Xp}:aa.F (n+3) (iF L Z b k m) E=some (0,iF L Z b k m,E):=by
 show aa.G (n+2) (ac.F (n+2)) (aa.F (n+2)) (ai.F (n+2)) (ag.F (n+2)) (iF L Z b k m) E=_;unfold aa.G;rw[Hz hb,Jc];exact Dg hb _ _
theorem ze {b:Int}(hb:0<=b){k:Nat}{m:Bool}{E:List Xp}{K}(f:Nat)(o:List Int):Fe n K (f+1) (iF L Z b k m) E o=K (iF L Z b k m) E o:=by
 unfold Fe ac.l0;rw[gu hb,Jc,ao (by simp)]
def Ah (L:List Tk)(Z:Int)(n:Nat):Prop:=∀k m E P,k<=L.length->E.length<=k->4*(L.length - k)+100002<=n->SimX L Z P k m E qT (aj.F n (sH L Z k m E P)) (ag.F n (iH L Z k m) E)
def Ai (L:List Tk)(Z:Int)(n:Nat):Prop:=∀k m E P,k<=L.length->E.length<=k->4*(L.length - k)+100003<=n->SimX L Z P k m E qT (ak.F n (sH L Z k m E P)) (ai.F n (iH L Z k m) E)
def Dh (L:List Tk)(Z:Int)(n:Nat):Prop:=∀k m E P,k<=L.length->E.length<=k->4*(L.length - k)+100004<=n->SimX L Z P k m E qT (af.F n (sH L Z k m E P)) (aa.F n (iH L Z k m) E)
def Aj (n:Nat)(p:lY)(E:List Xp):Option (List Int×lY×List Xp):=(ac.F n p E).bind λr=>(aA.F n r.2.1 ⟨#[41]⟩).bind λw=>some (r.1,w,r.2.2)
def Gs (L:List Tk)(Z:Int)(n:Nat):Prop:=∀k m E P,k<=L.length->E.length<=k->4*(L.length - k)+100005<=n->
 SimX L Z P k m E qL (ae.F n (sH L Z k m E P)) (Aj n (iH L Z k m) E)
theorem m9 {p p':lY}{E E':List Xp}{a:List Int}(h:Aj n p E=some (a,p',E')):∃r,ac.F n p E=some (a,r,E')/\aA.F n r ⟨#[41]⟩=some p':=by
 unfold Aj at h;obtain⟨r,h1,h2⟩:=LC.1 h;obtain⟨w,h3,h4⟩:=LC.1 h2;simp only[Jq,JH]at h4;obtain⟨q1,q2,q3⟩:=h4;subst q2;refine⟨r.2.1,?_,h3⟩;rw[h1,← q1,← q3]
theorem BH (H:ef L Z)(hl:Gs L Z n)(he:Dh L Z n):Ah L Z (n+1):=by
 intro k m E P hk hE hn;have hL:=H.few;have hn0:100001<=n:=by omega
 show SimX L Z P k m E qT (aj.G n (ae.F n) (af.F n) (ak.F n) (aj.F n) (sH L Z k m E P))
  (ag.G n (ac.F n) (aa.F n) (ai.F n) (ag.F n) (iH L Z k m) E)
 unfold aj.G ag.G;rw[oJ hL hk,pA hL hk,Jc,Jc,ao (by simp)];obtain⟨r,hr⟩:∃r:Tk,r=if k<L.length then aR L k else(0,(Jd,Z)):=⟨_,rfl⟩
 have r1:r.1=(aR L k).1:=by
  rw[hr]
  split
  ·rfl
  ·rw[iU ‹_›]
 have r2:r.2.1=(aR L k).2.1:=by
  rw[hr]
  split
  ·rfl
  ·rw[iU ‹_›]
 rw[← hr];have bG:=λ(s:ByteArray) (hs:s∈dx)=>eI H hs k
 by_cases c3:(aR L k).1=3\/(aR L k).1=4
 ·-- a number,a text
  have hlt:=lJ (L:=L) (k:=k) (by rcases c3 with h|h<;>rw[h]<;>decide);refine .inl ⟨(E.length:Int),k+1,m,E++[(3,((aR L k).2.1,[]))],?_,?_,by omega,by omega,by simp;omega,λB h=>⟨h.app λ_=>⟨H.txt _ (eH hlt),by simp⟩,trivial⟩⟩
  ·rcases c3 with h|h
   ·rw[ao (by simp[r1,h])]
    unfold aj.j0;rw[ab rfl,r2];simp only[nk (show k<=1000000000 by omega)];rw[pz (by omega),Jc]
   ·rw[ab (by simp[r1,h])]
    unfold aj.j0;rw[ab (by simp[r1,h]),r2];simp only[nk (show k<=1000000000 by omega)];rw[pz (by omega),Jc]
  ·rcases c3 with h|h
   ·rw[ao (by simp[h])]
    unfold ag.j0;rw[ab rfl,pB (by omega),Jc];simp only[nk (show k<=1000000000 by omega)]
   ·rw[ab (by simp[h])]
    unfold ag.j0;rw[ab (by simp[h]),pB (by omega),Jc];simp only[nk (show k<=1000000000 by omega)]
 have c3':¬(aR L k).1=3:=λh=>c3 (.inl h)
 have c4':¬(aR L k).1=4:=λh=>c3 (.inr h)
 rw[ab (by simp[r1,c3']),ab (by simp[c3'])];unfold aj.j0 ag.j0;rw[ao (by simp[r1,c4']),ao (by simp[c4']),mS hL hk,Jc,bG _ (by simp[dx]),r1,r2]
 by_cases cm:ib (aR L k) ⟨#[45]⟩=true
 ·-- a minus sign
  obtain⟨hlt,g5,gt⟩:=eJ cm;have hu:ib (aR L k) ⟨#[95]⟩=false:=xb (by rw[gt];decide);simp only[cm,if_true];rw[ao (by simp[g5]),jt hL hk,Jc,hu,ao (by simp)];simp only[Jt,if_false];rw[jt hL hk,Jc,cm,ab rfl];simp only[if_true];rw[Gq hL (show k+1<=L.length by omega) (by decide),xa hL (show k+1<=L.length by omega) (by decide),Jc,Jc]
  by_cases cw:(aR L (k+1)).1=3
  ·have hlt2:=lJ (L:=L) (k:=k+1) (by rw[cw];decide)
   obtain⟨a,b,u,n1,n2,n3,n4,n5⟩:=H.num n (by omega) (aR L (k+1)).2.1 (.inr ⟨_,eH hlt2,cw,rfl⟩);simp only[cw,if_true];refine .inl ⟨(E.length:Int),k+1+1,m,E++[(3,(u,[]))],?_,?_,by omega,by omega,by simp;omega,λB h=>⟨h.app λ_=>⟨n5,by simp⟩,trivial⟩⟩
   ·rw[n1,Jc,n2,Jc,pz (by omega),Jc]
   ·rw[n3,Jc,n4,Jc,pB (by omega),Jc]
  ·obtain⟨a,b,u,n1,n2,n3,n4,n5⟩:=H.num n (by omega) Jd (.inl rfl)
   simp only[cw,if_false];refine .inr ⟨(E.length:Int),(E.length:Int),gr L Z (k+1),k+1,m,E++[(3,(u,[]))],k+1,m,E++[(3,(u,[]))],?_,?_,eh H _,by omega,by omega,by simp;omega,by simp;omega⟩
   ·rw[n1,Jc,n2,Jc,pz (by omega),Jc]
   ·rw[n3,Jc,n4,Jc,pB (by omega),Jc]
 rw[JK.2 cm,ao (by simp)];simp only[Jt,if_false]
 by_cases c1:(aR L k).1=1
 ·-- a variable
  have hlt:=lJ (L:=L) (k:=k) (by rw[c1];decide);rw[ab (by simp[c1]),ab (by simp[c1])];refine .inl ⟨(E.length:Int),k+1,m,E++[(1,((aR L k).2.1,[]))],?_,?_,by omega,by omega,by simp;omega,λB h=>⟨h.app λ_=>⟨H.txt _ (eH hlt),by simp⟩,trivial⟩⟩
  ·simp only[nk (show k<=1000000000 by omega)]
   rw[pz (by omega),Jc]
  ·rw[pB (by omega),Jc]
   simp only[nk (show k<=1000000000 by omega)]
 rw[ao (by simp[c1]),ao (by simp[c1]),mS hL hk,Jc,jt hL hk,Jc,bG _ (by simp[dx])]
 by_cases cu:ib (aR L k) ⟨#[95]⟩=true
 ·-- an underscore
  obtain⟨hlt,g5,gt⟩:=eJ cu;simp only[cu,if_true];refine .inl ⟨(E.length:Int),k+1,m,E++[(2,(Jd,[]))],?_,?_,by omega,by omega,by simp;omega,λB h=>⟨h.app λ_=>⟨by simp,by simp⟩,trivial⟩⟩
  ·rw[pz (by omega),Jc]
  ·rw[pB (by omega),Jc]
 simp only[JK.2 cu,Jt,if_false];rw[jt hL hk,Jc];simp only[JK.2 cm,Jt,if_false]
 by_cases c2:(aR L k).1=2
 ·-- a constructor
  have hlt:=lJ (L:=L) (k:=k) (by rw[c2];decide);rw[ab (by simp[c2]),ab (by simp[c2])];simp only[nk (show k<=1000000000 by omega)];rw[mS hL (show k+1<=L.length by omega),jt hL (show k+1<=L.length by omega),Jc,Jc,eI H (by simp[dx]) (k+1)]
  by_cases cp:ib (aR L (k+1)) ⟨#[40]⟩=true
  ·obtain⟨hlt2,_,_⟩:=eJ cp
   simp only[cp,if_true];rcases hl (k+1+1) m E P (by omega) (by omega) (by omega)with⟨a,k',m',E',e1,e2,h3,h4,h5,h8⟩|⟨a,a',b,k1,m1,E1,k2,m2,E2,e1,e2,h3,h4,h5,h6,h7⟩
   ·obtain⟨r,i1,i2⟩:=m9 e2
    refine .inl ⟨(E'.length:Int),k',m',E'++[(4,((aR L k).2.1,a))],?_,?_,by omega,h4,by simp;omega,λB h=>⟨(h8 B h).1.app λhm=>⟨H.txt _ (eH hlt),(h8 B h).2 hm⟩,trivial⟩⟩
    ·rw[e1,Jc,pz (by omega),Jc]
    ·rw[i1,Jc,i2,Jc,pB (E:=E') (by omega),Jc]
   ·obtain⟨r,i1,i2⟩:=m9 e2
    refine .inr ⟨(E1.length:Int),(E2.length:Int),b,k1,m1,E1++[(4,((aR L k).2.1,a))],k2,m2,E2++[(4,((aR L k).2.1,a'))],?_,?_,h3,h4,h5,by simp;omega,by simp;omega⟩
    ·rw[e1,Jc,pz (by omega),Jc]
    ·rw[i1,Jc,i2,Jc,pB (E:=E2) (by omega),Jc]
  ·simp only[JK.2 cp,Jt,if_false]
   refine .inl ⟨(E.length:Int),k+1,m,E++[(4,((aR L k).2.1,[]))],?_,?_,by omega,by omega,by simp;omega,λB h=>⟨h.app λ_=>⟨H.txt _ (eH hlt),by simp⟩,trivial⟩⟩
   ·rw[pz (by omega),Jc]
   ·rw[pB (by omega),Jc]
 rw[ao (by simp[c2]),ao (by simp[c2]),mS hL hk,jt hL hk,Jc,Jc,bG _ (by simp[dx])]
 by_cases cp:ib (aR L k) ⟨#[40]⟩=true
 ·obtain⟨hlt,_,_⟩:=eJ cp
  simp only[cp,if_true];rcases he (k+1) m E P (by omega) (by omega) (by omega)with⟨a,k',m',E',e1,e2,h3,h4,h5,h8⟩|⟨a,a',b,k1,m1,E1,k2,m2,E2,e1,e2,h3,h4,h5,h6,h7⟩
  ·rw[e1,e2,Jc,Jc,Ag hL h4,mU hL h4,Jc,Jc,eI H (by simp[dx])]
   by_cases cq:ib (aR L k') ⟨#[41]⟩=true
   ·obtain⟨hlt2,_,_⟩:=eJ cq
    simp only[cq,if_true];exact .inl ⟨a,k'+1,m',E',rfl,rfl,by omega,by omega,by omega,h8⟩
   ·simp only[JK.2 cq,Jt,if_false]
    exact .inr ⟨a,a,gr L Z k',k',m',E',k',m',E',rfl,rfl,eh H _,h4,h4,by omega,by omega⟩
  ·rw[e1,e2,Jc,Jc,uZ hL h4,ku h3,Jc,Jc]
   exact .inr ⟨a,a',b,k1,m1,E1,k2,m2,E2,rfl,rfl,h3,h4,h5,by omega,by omega⟩
 ·simp only[JK.2 cp,Jt,if_false]
  refine .inr ⟨0,0,gr L Z k,k,m,E,k,m,E,?_,?_,eh H _,hk,hk,by omega,by omega⟩
  ·show(bf.F n (sH L Z k m E P)).bind _=_
   rw[x7 hL hk,Jc]
  ·show(aZ.F n (iH L Z k m)).bind _=_
   rw[x9 hL hk,Jc]
end
section
variable {L:List Tk} {Z:Int} {n:Nat}
theorem tK (H:ef L Z)(hp:Ah L Z n)(P:PP):∀f k m E a,k<=L.length->E.length<=k->4*(L.length - k)+100002<=n->L.length - k<f->
  SimX L Z P k m E qT (F9 n (λt r=>some (t,r)) f a (sH L Z k m E P)) (Fa n (λt p r=>some (t,p,r)) f a (iH L Z k m) E)
 |0,k,m,E,a,hk,hE,hn,hf=>by omega
 |f+1,k,m,E,a,hk,hE,hn,hf=>by
  have hL:=H.few;unfold F9 Fa ak.l0 ai.l0;rw[mS hL hk,jt hL hk,Jc,Jc,eI H (by simp[dx])]
  by_cases c:ib (aR L k) ⟨#[42]⟩=true
  ·obtain⟨hlt,_,_⟩:=eJ c
   simp only[c,if_true];rcases hp (k+1) m E P (by omega) (by omega) (by omega)with⟨b,k',m',E',e1,e2,h3,h4,h5,h8⟩|⟨b,b',p,k1,m1,E1,k2,m2,E2,e1,e2,h3,h4,h5,h6,h7⟩
   ·rw[e1,e2,Jc,Jc]
    rw[pz (by omega),pB (E:=E') (by omega),Jc,Jc];exact(tK H hp P f k' m' _ _ h4 (by simp;omega) (by omega) (by omega)).up (by omega) (by simp;omega) λB h=>(h8 B h).1.app λ_=>⟨by simp,by simp⟩
   ·rw[e1,e2,Jc,Jc]
    rw[pz (by omega),pB (E:=E2) (by omega),Jc,Jc];obtain⟨g,rfl⟩:∃g,f=g+1:=⟨f - 1,by omega⟩
    refine .inr ⟨_,_,p,k1,m1,_,k2,m2,_,za hL h4 g _,zd h3 g _,h3,h4,h5,by simp;omega,by simp;omega⟩
  ·simp only[JK.2 c,Jt,if_false]
   exact .inl ⟨a,k,m,E,rfl,rfl,by omega,hk,by omega,λB h=>⟨h,trivial⟩⟩
theorem BI (H:ef L Z)(hp:Ah L Z n):Ai L Z (n+1):=by
 intro k m E P hk hE hn;have hL:=H.few;show SimX L Z P k m E qT (ak.G n (ae.F n) (af.F n) (ak.F n) (aj.F n) (sH L Z k m E P))
  (ai.G n (ac.F n) (aa.F n) (ai.F n) (ag.F n) (iH L Z k m) E)
 unfold ak.G ai.G;rcases hp k m E P hk hE (by omega)with⟨b,k',m',E',e1,e2,h3,h4,h5,h8⟩|⟨b,b',p,k1,m1,E1,k2,m2,E2,e1,e2,h3,h4,h5,h6,h7⟩
 ·rw[e1,e2,Jc,Jc]
  exact(tK H hp P n k' m' E' b h4 (by omega) (by omega) (by omega)).up (by omega) (by omega) λB h=>(h8 B h).1
 ·rw[e1,e2,Jc,Jc]
  obtain⟨g,rfl⟩:∃g,n=g+1:=⟨n - 1,by omega⟩
  exact .inr ⟨_,_,p,k1,m1,_,k2,m2,_,za hL h4 g _,zd h3 g _,h3,h4,h5,by omega,by omega⟩
theorem xc (H:ef L Z)(hp:Ai L Z n)(P:PP):∀f k m E a,k<=L.length->E.length<=k->4*(L.length - k)+100003<=n->L.length - k<f->
  SimX L Z P k m E qT (Dd n (λt r=>some (t,r)) f a (sH L Z k m E P)) (De n (λt p r=>some (t,p,r)) f a (iH L Z k m) E)
 |0,k,m,E,a,hk,hE,hn,hf=>by omega
 |f+1,k,m,E,a,hk,hE,hn,hf=>by
  have hL:=H.few;unfold Dd De af.l0 aa.l0;rw[tJ hL hk,Hu hL hk,Jc,Jc,eI H (by simp[dx])];have main:∀K:Int,(aR L k).1=5->SimX L Z P k m E qT
    (af.j2 n (ae.F n) (af.F n) (ak.F n) (aj.F n) a K (sH L Z k m E P) (λt r=>Dd n (λt r=>some (t,r)) f t r))
    (aa.j2 n (ac.F n) (aa.F n) (ai.F n) (ag.F n) a K (iH L Z k m) E (λt p r=>De n (λt p r=>some (t,p,r)) f t p r)):=by
   intro K g5;have hlt:=lJ (L:=L) (k:=k) (by rw[g5];decide);unfold af.j2 aa.j2;simp only[nk (show k<=1000000000 by omega)];rcases hp (k+1) m E P (by omega) (by omega) (by omega)with⟨b,k',m',E',e1,e2,h3,h4,h5,h8⟩|⟨b,b',p,k1,m1,E1,k2,m2,E2,e1,e2,h3,h4,h5,h6,h7⟩
   ·rw[e1,e2,Jc,Jc]
    rw[pz (by omega),pB (E:=E') (by omega),Jc,Jc];exact(xc H hp P f k' m' _ _ h4 (by simp;omega) (by omega) (by omega)).up (by omega) (by simp;omega) λB h=>(h8 B h).1.app λ_=>⟨by simp,by simp⟩
   ·rw[e1,e2,Jc,Jc]
    rw[pz (by omega),pB (E:=E2) (by omega),Jc,Jc];obtain⟨g,rfl⟩:∃g,f=g+1:=⟨f - 1,by omega⟩
    refine .inr ⟨_,_,p,k1,m1,_,k2,m2,_,Df hL h4 g _,Dg h3 g _,h3,h4,h5,by simp;omega,by simp;omega⟩
  by_cases c:ib (aR L k) ⟨#[43]⟩=true
  ·obtain⟨hlt,g5,gt⟩:=eJ c
   have c2:ib (aR L k) ⟨#[45]⟩=false:=xb (by rw[gt];decide);rw[c,ao (by simp),ao (by simp)];unfold af.j1 aa.j1;rw[tJ hL hk,Hu hL hk,Jc,Jc,eI H (by simp[dx]),c2,ao (by simp),ao (by simp)];exact main 5 g5
  ·rw[JK.2 c,ab (by simp),ab rfl,tJ hL hk,Hu hL hk,Jc,Jc,eI H (by simp[dx])]
   by_cases c2:ib (aR L k) ⟨#[45]⟩=true
   ·obtain⟨hlt,g5,gt⟩:=eJ c2
    rw[c2,ab (by simp),ab (by simp)];unfold af.j1 aa.j1;rw[tJ hL hk,Hu hL hk,Jc,Jc,eI H (by simp[dx]),c2,ab (by simp),ab (by simp)];exact main 6 g5
   ·rw[JK.2 c2,ao (by simp),ao (by simp)]
    exact .inl ⟨a,k,m,E,rfl,rfl,by omega,hk,by omega,λB h=>⟨h,trivial⟩⟩
theorem Di (H:ef L Z)(hp:Ai L Z n):Dh L Z (n+1):=by
 intro k m E P hk hE hn;have hL:=H.few;show SimX L Z P k m E qT (af.G n (ae.F n) (af.F n) (ak.F n) (aj.F n) (sH L Z k m E P))
  (aa.G n (ac.F n) (aa.F n) (ai.F n) (ag.F n) (iH L Z k m) E)
 unfold af.G aa.G;rcases hp k m E P hk hE (by omega)with⟨b,k',m',E',e1,e2,h3,h4,h5,h8⟩|⟨b,b',p,k1,m1,E1,k2,m2,E2,e1,e2,h3,h4,h5,h6,h7⟩
 ·rw[e1,e2,Jc,Jc]
  exact(xc H hp P n k' m' E' b h4 (by omega) (by omega) (by omega)).up (by omega) (by omega) λB h=>(h8 B h).1
 ·rw[e1,e2,Jc,Jc]
  obtain⟨g,rfl⟩:∃g,n=g+1:=⟨n - 1,by omega⟩
  exact .inr ⟨_,_,p,k1,m1,_,k2,m2,_,Df hL h4 g _,Dg h3 g _,h3,h4,h5,by omega,by omega⟩
def IK (r:RR)(o:List Int)(n:Nat):Option (List Int×RR):=
 (bl.F n r ⟨#[41]⟩).bind λr9=>(dk.F n r9 (Je o:Int) 6).bind λr10=>some (o,r10)
def IL (p:lY)(r:List Xp)(o:List Int):Option (List Int×lY×List Xp):=
 if p.2.2.2.2=false then
 some (o,(p.1,(p.2.1,(p.2.2.1,(p.2.2.2.1,decide ((Je o:Int)>6))))),r)
 else
 some (o,(p.1,(p.2.1,(p.2.2.1,(p.2.2.2.1,true)))),r)
theorem zf {b:Int}{k:Nat}{m:Bool}{r:List Xp}{o:List Int}:IL (iF L Z b k m) r o=some (o,iF L Z b k (m||decide ((Je o:Int)>6)),r):=by
 unfold IL;cases m<;>simp
theorem Dj (hL:L.length<=3000){b:Int}{k:Nat}{m:Bool}{E:List Xp}{P:PP}(hk:k<=L.length){o:List Int}:IK (sF L Z b k m E P) o n=some (o,sF L Z b k (m||decide ((Je o:Int)>6)) E P):=by
 unfold IK;rw[uZ hL hk,Jc,z8,Jc]
def mV (n:Nat)(x:Option (List Int×lY×List Xp)):Option (List Int×lY×List Xp):=x.bind λr=>(aA.F n r.2.1 ⟨#[41]⟩).bind λw=>some (r.1,w,r.2.2)
theorem Gt {n0:Nat}{b:Int}(hb:0<=b){k:Nat}{m:Bool}{r:List Xp}{o:List Int}:mV n0 (IL (iF L Z b k m) r o)=some (o,iF L Z b k (m||decide ((Je o:Int)>6)),r):=by
 rw[zf];unfold mV;rw[Jc,ku hb,Jc]
theorem Gu {α:Type}{m:Bool}{o:List α}:qL (m||decide ((Je o:Int)>6)) o:=by
 intro h;simp only[K8,vk]at h;omega
theorem tL {n0:Nat}(H:ef L Z)(hp:Dh L Z n)(P:PP):∀f k m E o,k<=L.length->E.length<=k->4*(L.length - k)+100004<=n->L.length - k<f->o.length+(L.length - k)<=10000->
  SimX L Z P k m E qL (Fc n (λr o=>IK r o n) f (sH L Z k m E P) o) (mV n0 (Fe n IL f (iH L Z k m) E o))
 |0,k,m,E,o,hk,hE,hn,hf,ho=>by omega
 |f+1,k,m,E,o,hk,hE,hn,hf,ho=>by
  have hL:=H.few;unfold Fc Fe ae.l0 ac.l0;rw[mS hL hk,jt hL hk,Jc,Jc,eI H (by simp[dx])]
  by_cases c:ib (aR L k) ⟨#[44]⟩=true
  ·obtain⟨hlt,_,_⟩:=eJ c
   simp only[c,if_true];rcases hp (k+1) m E P (by omega) (by omega) (by omega)with⟨b,k',m',E',e1,e2,h3,h4,h5,h8⟩|⟨b,b',p,k1,m1,E1,k2,m2,E2,e1,e2,h3,h4,h5,h6,h7⟩
   ·rw[e1,e2,Jc,Jc,ab (by simp only[Jj,Jo,aU];omega),ab (by simp only[Jj,Jo,aU];omega)]
    exact(tL H hp P f k' m' E' _ h4 (by omega) (by omega) (by omega) (by simp;omega)).up (by omega) (by omega) λB h=>(h8 B h).1
   ·rw[e1,e2,Jc,Jc,ab (by simp only[Jj,Jo,aU];omega),ab (by simp only[Jj,Jo,aU];omega)]
    obtain⟨g,rfl⟩:∃g,f=g+1:=⟨f - 1,by omega⟩
    exact .inr ⟨o++[b],o++[b'],p,k1,_,E1,k2,_,E2,(zb hL h4 g _).trans (Dj hL h4),(congrArg (mV n0) (ze h3 g _)).trans (Gt h3),h3,h4,h5,by omega,by omega⟩
  ·simp only[JK.2 c,Jt,if_false]
   rw[zf];unfold IK mV;rw[Ag hL hk,Jc,Jc,mU hL hk,eI H (by simp[dx])]
   by_cases cq:ib (aR L k) ⟨#[41]⟩=true
   ·obtain⟨hlt,_,_⟩:=eJ cq
    simp only[cq,if_true];rw[z8];exact .inl ⟨o,k+1,_,E,rfl,rfl,by omega,by omega,by omega,λB h=>⟨h.or,Gu⟩⟩
   ·simp only[JK.2 cq,Jt,if_false]
    rw[z8];exact .inr ⟨o,o,gr L Z k,k,_,E,k,_,E,rfl,rfl,eh H _,hk,hk,by omega,by omega⟩
theorem BJ {n0:Nat}(H:ef L Z)(hp:Dh L Z n)(k m E P)(hk:k<=L.length)(hE:E.length<=k)(hn:4*(L.length - k)+100004<=n):
  SimX L Z P k m E qL (ae.F (n+1) (sH L Z k m E P)) (mV n0 (ac.F (n+1) (iH L Z k m) E)):=by
 have hL:=H.few;show SimX L Z P k m E qL (ae.G n (ae.F n) (af.F n) (ak.F n) (aj.F n) (sH L Z k m E P))
  (mV n0 (ac.G n (ac.F n) (aa.F n) (ai.F n) (ag.F n) (iH L Z k m) E))
 unfold ae.G ac.G;rcases hp k m E P hk hE (by omega)with⟨b,k',m',E',e1,e2,h3,h4,h5,h8⟩|⟨b,b',p,k1,m1,E1,k2,m2,E2,e1,e2,h3,h4,h5,h6,h7⟩
 ·rw[e1,e2,Jc,Jc]
  exact(tL H hp P n k' m' E' [b] h4 (by omega) (by omega) (by omega) (by simp;omega)).up (by omega) (by omega) λB h=>(h8 B h).1
 ·rw[e1,e2,Jc,Jc]
  obtain⟨g,rfl⟩:∃g,n=g+1:=⟨n - 1,by omega⟩
  exact .inr ⟨[b],[b'],p,k1,_,E1,k2,_,E2,(zb hL h4 g _).trans (Dj hL h4),(congrArg (mV n0) (ze h3 g _)).trans (Gt h3),h3,h4,h5,by omega,by omega⟩
theorem sc (H:ef L Z):∀n,Ah L Z n/\Ai L Z n/\Dh L Z n/\Gs L Z n
 |0=>⟨λk m E P _ _ h=>by omega,λk m E P _ _ h=>by omega,λk m E P _ _ h=>by omega,λk m E P _ _ h=>by omega⟩
 |n+1=>by
  obtain⟨h1,h2,h3,h4⟩:=sc H n;exact⟨BH H h4 h3,BI H h1,Di H h2,λk m E P hk hE hn=>BJ (n0:=n+1) H h3 k m E P hk hE (by omega)⟩
theorem Dk (H:ef L Z)(k m E P)(hk:k<=L.length)(hE:E.length<=k)(hn:200000<=n):SimX L Z P k m E qT (af.F n (sH L Z k m E P)) (aa.F n (iH L Z k m) E):=
 (sc H n).2.2.1 k m E P hk hE (by have:=H.few;omega)
theorem Ff (H:ef L Z)(k m E P)(hk:k<=L.length)(hE:E.length<=k)(hn:200000<=n):SimX L Z P k m E qL (ae.F n (sH L Z k m E P)) (Aj n (iH L Z k m) E):=
 (sc H n).2.2.2 k m E P hk hE (by have:=H.few;omega)
end
def SimT {α:Type}(L:List Tk)(Z:Int)(P:PP)(E:List Xp)(k:Nat)(m:Bool)(Q:Bool->α->Prop)(x:Option (α×RR))(y:Option (α×lY)):Prop:=
 (∃a k' m',x=some (a,sH L Z k' m' E P)/\y=some (a,iH L Z k' m')/\k<=k'/\k'<=L.length/\(m'=false->m=false)/\Q m' a)\/
 (∃a a' b k1 m1 k2 m2,x=some (a,sF L Z b k1 m1 E P)/\y=some (a',iF L Z b k2 m2)/\0<=b/\k1<=L.length/\k2<=L.length)
theorem SimT.up {α:Type}{L:List Tk}{Z:Int}{P:PP}{E:List Xp}{k k0:Nat}{m m0:Bool}{Q:Bool->α->Prop}{x:Option (α×RR)}{y:Option (α×lY)}(h:SimT L Z P E k m Q x y)(hk:k0<=k)(hm:m=false->m0=false):SimT L Z P E k0 m0 Q x y:=by
 rcases h with⟨a,k',m',h1,h2,h3,h4,h5,h6⟩|h
 ·exact .inl ⟨a,k',m',h1,h2,by omega,h4,λh=>hm (h5 h),h6⟩
 ·exact .inr h
abbrev qS:Bool->ByteArray->Prop:=λ_ a=>a.size<=30
def zg (l:List ByteArray):Prop:=l.length<=6/\∀t∈l,t.size<=30
abbrev Ja:Bool->List ByteArray->Prop:=λm l=>m=false->zg l
def Iq (c:ByteArray×List ByteArray):Prop:=c.1.size<=30/\zg c.2
abbrev qC:Bool->(ByteArray×List ByteArray)->Prop:=λm c=>m=false->Iq c
section
variable {L:List Tk} {Z:Int} {n:Nat} {P:PP} {E:List Xp}
theorem Ir (hL:L.length<=3000){b:Int}{k:Nat}{m:Bool}(hk:k<=L.length):dl.F n (sF L Z b k m E P)=some (Jd,sF L Z b k m E P):=by
 unfold dl.F;rw[tJ hL hk,Jc,ab (by simp),tJ hL hk,Jc,ao (by simp),Dc hL hk,Jc]
theorem It {b:Int}(hb:0<=b){k:Nat}{m:Bool}:dn.F n (iF L Z b k m)=some (Jd,iF L Z b k m):=by
 unfold dn.F;rw[x8 hb,Jc,ab (by simp),oL hb,Jc,ab (by simp),oL hb,Jc,ab (by simp),s9 hb,Jc]
theorem Dl (H:ef L Z){k:Nat}{m:Bool}(hk:k<=L.length):SimT L Z P E k m qS (dl.F n (sH L Z k m E P)) (dn.F n (iH L Z k m)):=by
 have hL:=H.few;have done:∀K:Int,K≠0->(aR L k).1=K->SimT L Z P E k m qS (some ((aR L k).2.1,sH L Z (k+1) m E P)) (some ((aR L k).2.1,iH L Z (k+1) m)):=by
  intro K hK g;have hlt:=lJ (L:=L) (k:=k) (by rw[g];exact hK);exact .inl ⟨_,k+1,m,rfl,rfl,by omega,by omega,id,H.txt _ (eH hlt)⟩
 have j0:dn.j0 n (iH L Z k m) (aR L k)=some ((aR L k).2.1,iH L Z (k+1) m):=by
  unfold dn.j0;simp only[nk (show k<=1000000000 by omega)]
 unfold dl.F dn.F;rw[tJ hL hk,Jc,pA hL hk,Jc,pC H (by simp[lI]),KJ,Kf]
 by_cases c2:(aR L k).1=2
 ·have w:∀s,mu (aR L k) s=false:=λs=>by unfold mu;simp[c2]
  rw[w,ab rfl,tJ hL hk,Jc,pC H (by simp[lI]),w,ao (by simp),rZ hL hk (by decide),ab c2,Jc,ao (by simp[c2]),j0];exact done 2 (by decide) c2
 ·rw[ab (by simp[c2]) (c:=(!decide ((aR L k).1=2))=true),nP hL hk,Jc]
  cases w1:mu (aR L k) ⟨#[110,117,109,98,101,114]⟩with
  |true=>
   have g:(aR L k).1=1:=by unfold mu at w1;simp only[Jm,db]at w1;exact w1.1
   rw[ao (by simp),ao (by simp),rZ hL hk (by decide),ab g,Jc,j0];exact done 1 (by decide) g
  |false=>
   rw[ab rfl,ab (by simp),tJ hL hk,Jc,pC H (by simp[lI]),KJ,Kf,nP hL hk,Jc];cases w2:mu (aR L k) ⟨#[115,121,109,98,111,108]⟩with
   |true=>
    have g:(aR L k).1=1:=by unfold mu at w2;simp only[Jm,db]at w2;exact w2.1
    rw[ab (by simp),ao (by simp),rZ hL hk (by decide),ab g,Jc,j0];exact done 1 (by decide) g
   |false=>
    rw[ao (by simp),ab (by simp),rZ hL hk (by decide),ao c2,Jc,x9 hL hk,Jc];exact .inr ⟨_,_,gr L Z k,k,m,k,m,rfl,rfl,eh H _,hk,hk⟩
def IM (n:Nat)(r:RR)(o:List ByteArray):Option (List ByteArray×RR):=
 (bo.F n r ⟨#[41]⟩).bind λr9=>(aW.F n r9 (Je o:Int) 6).bind λr10=>some (o,r10)
def IN (p:lY)(o:List ByteArray):Option (List ByteArray×lY):=
 if p.2.2.2.2=false then
 some (o,(p.1,(p.2.1,(p.2.2.1,(p.2.2.2.1,decide ((Je o:Int)>6))))))
 else
 some (o,(p.1,(p.2.1,(p.2.2.1,(p.2.2.2.1,true)))))
def me (n:Nat)(x:Option (List ByteArray×lY)):Option (List ByteArray×lY):=x.bind λr=>(aA.F n r.2 ⟨#[41]⟩).bind λw=>some (r.1,w)
theorem zh {b:Int}{k:Nat}{m:Bool}{o:List ByteArray}:IN (iF L Z b k m) o=some (o,iF L Z b k (m||decide ((Je o:Int)>6))):=by
 unfold IN;cases m<;>simp
theorem Dm (hL:L.length<=3000){b:Int}{k:Nat}{m:Bool}(hk:k<=L.length){o:List ByteArray}:IM n (sF L Z b k m E P) o=some (o,sF L Z b k (m||decide ((Je o:Int)>6)) E P):=by
 unfold IM;rw[rY hL hk,Jc,lZ,Jc]
theorem Gv {b:Int}(hb:0<=b){k:Nat}{m:Bool}{o:List ByteArray}:me n (IN (iF L Z b k m) o)=some (o,iF L Z b k (m||decide ((Je o:Int)>6))):=by
 rw[zh];unfold me;rw[Jc,ku hb,Jc]
theorem HA (hL:L.length<=3000){b:Int}{k:Nat}{m:Bool}(hk:k<=L.length){K}(f:Nat)(o:List ByteArray):bq.l0 n K (f+1) (sF L Z b k m E P) o=K (sF L Z b k m E P) o:=by
 unfold bq.l0;rw[kt hL hk,Jc,ao (by simp)]
theorem HB {b:Int}(hb:0<=b){k:Nat}{m:Bool}{K}(f:Nat)(o:List ByteArray):bN.l0 n K (f+1) (iF L Z b k m) o=K (iF L Z b k m) o:=by
 unfold bN.l0;rw[gu hb,Jc,ao (by simp)]
theorem xd {m c:Bool}(h:(m||c)=false):m=false:=by cases m<;>simp_all
theorem sd (H:ef L Z):∀f k m o,k<=L.length->L.length - k<f->o.length+(L.length - k)<=10000->(∀t∈o,t.size<=30)->
  SimT L Z P E k m Ja (bq.l0 n (λr o=>IM n r o) f (sH L Z k m E P) o) (me n (bN.l0 n IN f (iH L Z k m) o))
 |0,k,m,o,hk,hf,ho,hs=>by omega
 |f+1,k,m,o,hk,hf,ho,hs=>by
  have hL:=H.few;unfold bq.l0 bN.l0;rw[q8 hL hk,jt hL hk,Jc,Jc,eI H (by simp[dx])]
  by_cases c:ib (aR L k) ⟨#[44]⟩=true
  ·obtain⟨hlt,_,_⟩:=eJ c
   simp only[c,if_true];rcases Dl (n:=n) (P:=P) (E:=E) H (show k+1<=L.length by omega) (m:=m)with⟨a,k',m',e1,e2,h3,h4,h5,h6⟩|⟨a,a',p,k1,m1,k2,m2,e1,e2,h3,h4,h5⟩
   ·rw[e1,e2,Jc,Jc,ab (by simp only[Jj,Jo,aU];omega),ab (by simp only[Jj,Jo,aU];omega)]
    refine(sd H f k' m' _ h4 (by omega) (by simp;omega) ?_).up (by omega) h5;intro t ht;rcases KC.1 ht with ht|ht
    ·exact hs t ht
    ·rw[JQ.1 ht];exact h6
   ·rw[e1,e2,Jc,Jc,ab (by simp only[Jj,Jo,aU];omega),ab (by simp only[Jj,Jo,aU];omega)]
    obtain⟨g,rfl⟩:∃g,f=g+1:=⟨f - 1,by omega⟩
    exact .inr ⟨o++[a],o++[a'],p,k1,_,k2,_,(HA hL h4 g _).trans (Dm hL h4),(congrArg (me n) (HB h3 g _)).trans (Gv h3),h3,h4,h5⟩
  ·simp only[JK.2 c,Jt,if_false]
   rw[zh];unfold IM me;rw[x6 hL hk,Jc,Jc,mU hL hk,eI H (by simp[dx])]
   by_cases cq:ib (aR L k) ⟨#[41]⟩=true
   ·obtain⟨hlt,_,_⟩:=eJ cq
    simp only[cq,if_true];rw[lZ];exact .inl ⟨o,k+1,_,rfl,rfl,by omega,by omega,xd,λh=>⟨Gu (α:=ByteArray) (m:=m) h,hs⟩⟩
   ·simp only[JK.2 cq,Jt,if_false]
    rw[lZ];exact .inr ⟨o,o,gr L Z k,k,_,k,_,rfl,rfl,eh H _,hk,hk⟩
theorem xe (H:ef L Z)(hn:4000<=n){k:Nat}{m:Bool}(hk:k<=L.length):SimT L Z P E k m Ja (bq.F n (sH L Z k m E P)) (me n (bN.F n (iH L Z k m))):=by
 have hL:=H.few;unfold bq.F bN.F;rcases Dl (n:=n) (P:=P) (E:=E) H hk (m:=m)with⟨a,k',m',e1,e2,h3,h4,h5,h6⟩|⟨a,a',p,k1,m1,k2,m2,e1,e2,h3,h4,h5⟩
 ·rw[e1,e2,Jc,Jc]
  exact(sd H n k' m' [a] h4 (by omega) (by simp;omega) (by intro t ht;rw[JQ.1 ht];exact h6)).up h3 h5
 ·rw[e1,e2,Jc,Jc]
  obtain⟨g,rfl⟩:∃g,n=g+1:=⟨n - 1,by omega⟩
  exact .inr ⟨[a],[a'],p,k1,_,k2,_,(HA hL h4 g _).trans (Dm hL h4),(congrArg (me _) (HB h3 g _)).trans (Gv h3),h3,h4,h5⟩
theorem Fh (hL:L.length<=3000)(hn:4000<=n){b:Int}{k:Nat}{m:Bool}(hk:k<=L.length):∃o m',bq.F n (sF L Z b k m E P)=some (o,sF L Z b k m' E P):=by
 obtain⟨g,rfl⟩:∃g,n=g+1:=⟨n - 1,by omega⟩
 unfold bq.F;rw[Ir hL hk,Jc];exact⟨_,_,(HA hL hk g _).trans (Dm hL hk)⟩
theorem Fi (hn:4000<=n){b:Int}(hb:0<=b){k:Nat}{m:Bool}:∃o m',bN.F n (iF L Z b k m)=some (o,iF L Z b k m'):=by
 obtain⟨g,rfl⟩:∃g,n=g+1:=⟨n - 1,by omega⟩
 unfold bN.F;rw[It hb,Jc];exact⟨_,_,(HB hb g _).trans zh⟩
theorem Gw (hL:L.length<=3000){b:Int}{k:Nat}{m:Bool}(hk:k<=L.length):dm.F n (sF L Z b k m E P)=some ((Jd,[]),sF L Z b k m E P):=by
 unfold dm.F;rw[Dc hL hk,Jc,kt hL hk,Jc,ao (by simp)]
theorem Gx {b:Int}(hb:0<=b){k:Nat}{m:Bool}:ea.F n (iF L Z b k m)=some ((Jd,[]),iF L Z b k m):=by
 unfold ea.F;rw[Hv hb (by decide),Jc,gu hb,Jc,ao (by simp)]
theorem lh {x:Option (List ByteArray×lY)}{a:List ByteArray}{p:lY}(h:me n x=some (a,p)):∃r,x=some (a,r)/\aA.F n r ⟨#[41]⟩=some p:=by
 unfold me at h;obtain⟨r,h1,h2⟩:=LC.1 h;obtain⟨w,h3,h4⟩:=LC.1 h2;simp only[Jq,JH]at h4;obtain⟨q1,q2⟩:=h4;subst q2;exact⟨r.2,by rw[h1,← q1],h3⟩
theorem Dn (H:ef L Z)(hn:4000<=n){k:Nat}{m:Bool}(hk:k<=L.length):SimT L Z P E k m qC (dm.F n (sH L Z k m E P)) (ea.F n (iH L Z k m)):=by
 have hL:=H.few;unfold dm.F ea.F;rw[rZ hL hk (by decide),xa hL hk (by decide),Jc,Jc]
 by_cases c2:(aR L k).1=2
 ·have hlt:=lJ (L:=L) (k:=k) (by rw[c2];decide)
  simp only[c2,if_true];rw[q8 hL (show k+1<=L.length by omega),jt hL (show k+1<=L.length by omega),Jc,Jc,eI H (by simp[dx])]
  by_cases c:ib (aR L (k+1)) ⟨#[40]⟩=true
  ·obtain⟨hlt2,_,_⟩:=eJ c
   simp only[c,if_true];rcases xe (P:=P) (E:=E) H hn (show k+1+1<=L.length by omega) (m:=m)with⟨a,k',m',e1,e2,h3,h4,h5,h6⟩|⟨a,a',p,k1,m1,k2,m2,e1,e2,h3,h4,h5⟩
   ·obtain⟨r,i1,i2⟩:=lh e2
    rw[e1,i1,Jc,Jc,i2,Jc];exact .inl ⟨_,k',m',rfl,rfl,by omega,h4,h5,λh=>⟨H.txt _ (eH hlt),h6 h⟩⟩
   ·obtain⟨r,i1,i2⟩:=lh e2
    rw[e1,i1,Jc,Jc,i2,Jc];exact .inr ⟨_,_,p,k1,m1,k2,m2,rfl,rfl,h3,h4,h5⟩
  ·simp only[JK.2 c,Jt,if_false]
   exact .inl ⟨_,k+1,m,rfl,rfl,by omega,by omega,id,λh=>⟨H.txt _ (eH hlt),by simp[zg]⟩⟩
 ·simp only[c2,if_false]
  rw[kt hL hk,gu (eh H _),Jc,Jc,ao (by simp),ao (by simp)];exact .inr ⟨_,_,gr L Z k,k,m,k,m,rfl,rfl,eh H _,hk,hk⟩
end
def zi (e:Xp):Prop:=e.2.1.size<=30/\e.2.2.length<=6
abbrev qX:Bool->Xp->Prop:=λm e=>m=false->zi e
def IY (L:List Tk)(Z:Int)(P:PP)(K:Int)(k:Nat)(m:Bool)(E:List Xp)(x:Option (Xp×RR))(y:Option (Xp×lY×List Xp)):Prop:=
 (∃c k' m' E',x=some ((K,c),sH L Z k' m' E' P)/\y=some ((1,c),iH L Z k' m',E')/\k<k'/\k'<=L.length/\E'.length+k<=k'+E.length/\(∀B,OkE B m E->OkE B m' E'/\(m'=false->zi (K,c))))\/
 (∃a a' b k1 m1 E1 k2 m2 E2,x=some (a,sF L Z b k1 m1 E1 P)/\y=some (a',iF L Z b k2 m2,E2)/\0<=b/\k1<=L.length/\k2<=L.length/\E1.length+k<=k1+E.length/\E2.length+k<=k2+E.length)
section
variable {L:List Tk} {Z:Int} {n:Nat}
theorem Do (hL:L.length<=3000)(hn:10<=n){b:Int}{k:Nat}{m:Bool}{E:List Xp}{P:PP}(hk:k<=L.length):∃o m',ae.F n (sF L Z b k m E P)=some (o,sF L Z b k m' E P):=by
 obtain⟨g,rfl⟩:∃g,n=g+4:=⟨n - 4,by omega⟩
 refine⟨[0],m||decide ((Je [(0:Int)]:Int)>6),?_⟩;show ae.G (g+3) (ae.F (g+3)) (af.F (g+3)) (ak.F (g+3)) (aj.F (g+3)) (sF L Z b k m E P)=_;unfold ae.G;rw[Io hL hk,Jc];exact(zb hL hk _ _).trans (Dj hL hk)
theorem Dp (hn:10<=n){b:Int}(hb:0<=b){k:Nat}{m:Bool}{E:List Xp}:∃o m',ac.F n (iF L Z b k m) E=some (o,iF L Z b k m',E):=by
 obtain⟨g,rfl⟩:∃g,n=g+4:=⟨n - 4,by omega⟩
 refine⟨[0],m||decide ((Je [(0:Int)]:Int)>6),?_⟩;show ac.G (g+3) (ac.F (g+3)) (aa.F (g+3)) (ai.F (g+3)) (ag.F (g+3)) (iF L Z b k m) E=_;unfold ac.G;rw[Ip hb,Jc];exact(ze hb _ _).trans zf
theorem v6 (H:ef L Z)(hn:200000<=n)(K:Int){k:Nat}{m:Bool}{E:List Xp}{P:PP}(hk:k<=L.length)(hE:E.length<=k):
  IY L Z P K k m E (cO.F n (sH L Z k m E P) K) (cT.F n (iH L Z k m) E):=by
 have hL:=H.few;unfold cO.F cT.F;rw[Gq hL hk (by decide),xa hL hk (by decide),Jc,Jc]
 by_cases c1:(aR L k).1=1
 ·have hlt:=lJ (L:=L) (k:=k) (by rw[c1];decide)
  have hk1:k+1<=L.length:=by omega
  simp only[c1,if_true];rw[Ag hL hk1,mU hL hk1,Jc,Jc,eI H (by simp[dx])]
  by_cases cp:ib (aR L (k+1)) ⟨#[40]⟩=true
  ·obtain⟨hlt2,_,_⟩:=eJ cp
   have hk2:k+1+1<=L.length:=by omega
   simp only[cp,if_true];rw[mS hL hk2,Hu hL hk2,Jc,Jc,eI H (by simp[dx])]
   by_cases cq:ib (aR L (k+1+1)) ⟨#[41]⟩=true
   ·obtain⟨hlt3,_,_⟩:=eJ cq
    simp only[cq,if_true];rw[ao (by simp),ao (by simp),mU hL hk2,Jc];simp only[cq,if_true];exact .inl ⟨_,k+1+1+1,m,E,rfl,rfl,by omega,by omega,by omega,λB h=>⟨h,λ_=>⟨H.txt _ (eH hlt),by simp⟩⟩⟩
   ·simp only[JK.2 cq,Jt,if_false]
    rw[ab (by simp),ab (by simp)];rcases Ff (n:=n) H (k+1+1) m E P hk2 (by omega) hn with⟨a,k',m',E',e1,e2,h3,h4,h5,h8⟩|⟨a,a',b,k1,m1,E1,k2,m2,E2,e1,e2,h3,h4,h5,h6,h7⟩
    ·obtain⟨r,i1,i2⟩:=m9 e2
     rw[e1,i1,Jc,Jc,i2,Jc];exact .inl ⟨_,k',m',E',rfl,rfl,by omega,h4,by omega,λB h=>⟨(h8 B h).1,λhm=>⟨H.txt _ (eH hlt),(h8 B h).2 hm⟩⟩⟩
    ·obtain⟨r,i1,i2⟩:=m9 e2
     rw[e1,i1,Jc,Jc,i2,Jc];exact .inr ⟨_,_,b,k1,m1,E1,k2,m2,E2,rfl,rfl,h3,h4,h5,by omega,by omega⟩
  ·simp only[JK.2 cp,Jt,if_false]
   have hb:=eh H (k+1);obtain⟨o1,m1,l1⟩:=Do (n:=n) (Z:=Z) (b:=gr L Z (k+1)) (m:=m) (E:=E) (P:=P) hL (by omega) hk1;obtain⟨o2,m2,l2⟩:=Dp (n:=n) (L:=L) (Z:=Z) (k:=k+1) (m:=m) (E:=E) (by omega) hb;rw[mT hL hk1,BG hb,Jc,Jc,ab (by simp),ab (by simp),l1,l2,Jc,Jc,ku hb,Jc];exact .inr ⟨_,_,_,k+1,m1,E,k+1,m2,E,rfl,rfl,hb,hk1,hk1,by omega,by omega⟩
 ·simp only[c1,if_false]
  have hb:=eh H k;obtain⟨o1,m1,l1⟩:=Do (n:=n) (Z:=Z) (b:=gr L Z k) (m:=m) (E:=E) (P:=P) hL (by omega) hk;obtain⟨o2,m2,l2⟩:=Dp (n:=n) (L:=L) (Z:=Z) (k:=k) (m:=m) (E:=E) (by omega) hb;rw[uZ hL hk,ku hb,Jc,Jc,mT hL hk,BG hb,Jc,Jc,ab (by simp),ab (by simp),l1,l2,Jc,Jc,ku hb,Jc];exact .inr ⟨_,_,_,k,m1,E,k,m2,E,rfl,rfl,hb,hk,hk,by omega,by omega⟩
abbrev opsL:List ByteArray:=[⟨#[61]⟩,⟨#[33,61]⟩,⟨#[60]⟩,⟨#[60,61]⟩]
theorem xf {a:Int}{st:RR}{l:Xp}{K}{f:Nat}{x:Xp}(i:Nat)(hi:i<4):
  bg.l1 n a opsL (Je opsL:Int) st l K (f+1) (i:Int) x=(bQ.F n st (opsL.getD i Jd)).bind λr=>if r=true then bg.l1 n a opsL (Je opsL:Int) st l K f ((i+1:Nat):Int) (x.1,(opsL.getD i Jd,x.2.2))else bg.l1 n a opsL (Je opsL:Int) st l K f ((i+1:Nat):Int) x:=by
 rw[bg.l1];rw[ab (by simp;omega),ab (by simp;omega),nk (by omega)]
 rfl
theorem nl {a:Int}{st:RR}{l:Xp}{K}{f:Nat}{x:Xp}:bg.l1 n a opsL (Je opsL:Int) st l K (f+1) 4 x=K x:=by
 rw[bg.l1];rw[ao (by simp)]
theorem xg {a:Int}{E:List Xp}{l:Xp}{K}{f:Nat}{p:lY}(i:Nat)(hi:i<4):
  aI.l2 n a opsL (Je opsL:Int) E l K (f+1) (i:Int) p=(aD.F n p (opsL.getD i Jd)).bind λr=>if r.1=true then(aa.F n r.2 E).bind λq=>some ((3,(opsL.getD i Jd,[a,q.1])),q.2.1,q.2.2)else aI.l2 n a opsL (Je opsL:Int) E l K f ((i+1:Nat):Int) r.2:=by
 rw[aI.l2];rw[ab (by simp;omega),ab (by simp;omega),nk (by omega)]
 rfl
theorem Ak {a:Int}{E:List Xp}{l:Xp}{K}{f:Nat}{p:lY}:aI.l2 n a opsL (Je opsL:Int) E l K (f+1) 4 p=K p:=by
 rw[aI.l2];rw[ao (by simp)]
def zj (t:Tk):Option ByteArray:=opsL.find? λs=>ib t s
theorem pD {t:Tk}{s u:ByteArray}(h:ib t s=true)(hu:s≠u):ib t u=false:=by
 unfold ib at h⊢;simp only[Jm,db]at h;rw[h.2,dp hu,Bool.and_false]
theorem Fj (H:ef L Z){a:Int}{k:Nat}{m:Bool}{E:List Xp}{P:PP}(hk:k<=L.length){l:Xp}{K}{f:Nat}(hf:5<=f):
  bg.l1 n a opsL (Je opsL:Int) (sH L Z k m E P) l K f 0 (3,(Jd,[]))=K (3,((zj (aR L k)).getD Jd,[])):=by
 have hL:=H.few;obtain⟨g,rfl⟩:∃g,f=g+5:=⟨f - 5,by omega⟩
 have st:=λ(x:Xp) (i:Nat) (hi:i<4) (f:Nat)=>xf (n:=n) (a:=a) (st:=sH L Z k m E P) (l:=l) (K:=K) (f:=f) (x:=x) i hi
 have is:∀i,i<4->bQ.F n (sH L Z k m E P) (opsL.getD i Jd)=some (ib (aR L k) (opsL.getD i Jd)):=by
  intro i hi;rw[tJ hL hk,KJ,Kf,eI H];rcases i with _|_|_|_|i
  ·simp[dx]
  ·simp[dx]
  ·simp[dx]
  ·simp[dx]
  ·omega
 refine(st _ 0 (by omega) _).trans ?_;rw[is 0 (by omega),Jc];unfold zj;simp only[List.find?];show(if ib (aR L k) ⟨#[61]⟩=true then _ else _)=_;cases c0:ib (aR L k) ⟨#[61]⟩with
 |true=>
  rw[ab rfl,st _ 1 (by omega),is 1 (by omega),Jc,show ib (aR L k) (opsL.getD 1 Jd)=false from pD c0 (by decide),ao (by simp),
   st _ 2 (by omega),is 2 (by omega),Jc,show ib (aR L k) (opsL.getD 2 Jd)=false from pD c0 (by decide),ao (by simp),
   st _ 3 (by omega),is 3 (by omega),Jc,show ib (aR L k) (opsL.getD 3 Jd)=false from pD c0 (by decide),ao (by simp)]
  exact nl
 |false=>
  rw[ao (by simp),st _ 1 (by omega),is 1 (by omega),Jc];show(if ib (aR L k) ⟨#[33,61]⟩=true then _ else _)=_;cases c1:ib (aR L k) ⟨#[33,61]⟩with
  |true=>
   rw[ab rfl,st _ 2 (by omega),is 2 (by omega),Jc,show ib (aR L k) (opsL.getD 2 Jd)=false from pD c1 (by decide),ao (by simp),
    st _ 3 (by omega),is 3 (by omega),Jc,show ib (aR L k) (opsL.getD 3 Jd)=false from pD c1 (by decide),ao (by simp)]
   exact nl
  |false=>
   rw[ao (by simp),st _ 2 (by omega),is 2 (by omega),Jc];show(if ib (aR L k) ⟨#[60]⟩=true then _ else _)=_;cases c2:ib (aR L k) ⟨#[60]⟩with
   |true=>
    rw[ab rfl,st _ 3 (by omega),is 3 (by omega),Jc,show ib (aR L k) (opsL.getD 3 Jd)=false from pD c2 (by decide),ao (by simp)];exact nl
   |false=>
    rw[ao (by simp),st _ 3 (by omega),is 3 (by omega),Jc];show(if ib (aR L k) ⟨#[60,61]⟩=true then _ else _)=_;cases c3:ib (aR L k) ⟨#[60,61]⟩with
    |true=>rw[ab rfl];exact nl
    |false=>rw[ao (by simp)];exact nl
theorem Iu (hL:L.length<=3000){a b:Int}{k:Nat}{m:Bool}{E:List Xp}{P:PP}(hk:k<=L.length){l:Xp}{K}{f:Nat}(hf:5<=f){x:Xp}:
  bg.l1 n a opsL (Je opsL:Int) (sF L Z b k m E P) l K f 0 x=K x:=by
 obtain⟨g,rfl⟩:∃g,f=g+5:=⟨f - 5,by omega⟩
 have st:=λ(i:Nat) (hi:i<4) (f:Nat)=>xf (n:=n) (a:=a) (st:=sF L Z b k m E P) (l:=l) (K:=K) (f:=f) (x:=x) i hi
 refine(st 0 (by omega) _).trans ?_;rw[tJ hL hk,Jc,ao (by simp),st 1 (by omega),tJ hL hk,Jc,ao (by simp),st 2 (by omega),tJ hL hk,Jc,ao (by simp),st 3 (by omega),tJ hL hk,Jc,ao (by simp)];exact nl
theorem Fk (H:ef L Z){a:Int}{k:Nat}{m:Bool}{E:List Xp}(hk:k<=L.length){l:Xp}{K}{f:Nat}(hf:5<=f):
  aI.l2 n a opsL (Je opsL:Int) E l K f 0 (iH L Z k m)=match zj (aR L k)with|some s=>(aa.F n (iH L Z (k+1) m) E).bind λq=>some ((3,(s,[a,q.1])),q.2.1,q.2.2)|none=>K (iH L Z k m):=by
 have hL:=H.few;obtain⟨g,rfl⟩:∃g,f=g+5:=⟨f - 5,by omega⟩
 have st:=λ(i:Nat) (hi:i<4) (f:Nat)=>xg (n:=n) (a:=a) (E:=E) (l:=l) (K:=K) (f:=f) (p:=iH L Z k m) i hi
 refine(st 0 (by omega) _).trans ?_;rw[jt hL hk,Jc];unfold zj;simp only[List.find?];show(if ib (aR L k) ⟨#[61]⟩=true then(aa.F n (iH L Z (if ib (aR L k) ⟨#[61]⟩=true then k+1 else k) m) E).bind _ else aI.l2 n a opsL (Je opsL:Int) E l K _ _ (iH L Z (if ib (aR L k) ⟨#[61]⟩=true then k+1 else k) m))=_;cases c0:ib (aR L k) ⟨#[61]⟩with
 |true=>rfl
 |false=>
  rw[ao (by simp),ao (by simp),st 1 (by omega),jt hL hk,Jc];show(if ib (aR L k) ⟨#[33,61]⟩=true then(aa.F n (iH L Z (if ib (aR L k) ⟨#[33,61]⟩=true then k+1 else k) m) E).bind _ else aI.l2 n a opsL (Je opsL:Int) E l K _ _ (iH L Z (if ib (aR L k) ⟨#[33,61]⟩=true then k+1 else k) m))=_;cases c1:ib (aR L k) ⟨#[33,61]⟩with
  |true=>rfl
  |false=>
   rw[ao (by simp),ao (by simp),st 2 (by omega),jt hL hk,Jc];show(if ib (aR L k) ⟨#[60]⟩=true then(aa.F n (iH L Z (if ib (aR L k) ⟨#[60]⟩=true then k+1 else k) m) E).bind _ else aI.l2 n a opsL (Je opsL:Int) E l K _ _ (iH L Z (if ib (aR L k) ⟨#[60]⟩=true then k+1 else k) m))=_;cases c2:ib (aR L k) ⟨#[60]⟩with
   |true=>rfl
   |false=>
    rw[ao (by simp),ao (by simp),st 3 (by omega),jt hL hk,Jc];show(if ib (aR L k) ⟨#[60,61]⟩=true then(aa.F n (iH L Z (if ib (aR L k) ⟨#[60,61]⟩=true then k+1 else k) m) E).bind _ else aI.l2 n a opsL (Je opsL:Int) E l K _ _ (iH L Z (if ib (aR L k) ⟨#[60,61]⟩=true then k+1 else k) m))=_;cases c3:ib (aR L k) ⟨#[60,61]⟩with
    |true=>rfl
    |false=>
     rw[ao (by simp),ao (by simp)];exact Ak
theorem Iv {a b:Int}(hb:0<=b){k:Nat}{m:Bool}{E:List Xp}{l:Xp}{K}{f:Nat}(hf:5<=f):
  aI.l2 n a opsL (Je opsL:Int) E l K f 0 (iF L Z b k m)=K (iF L Z b k m):=by
 obtain⟨g,rfl⟩:∃g,f=g+5:=⟨f - 5,by omega⟩
 have st:=λ(i:Nat) (hi:i<4) (f:Nat)=>xg (n:=n) (a:=a) (E:=E) (l:=l) (K:=K) (f:=f) (p:=iF L Z b k m) i hi
 refine(st 0 (by omega) _).trans ?_;rw[gu hb,Jc,ao (by simp),st 1 (by omega),gu hb,Jc,ao (by simp),st 2 (by omega),gu hb,Jc,ao (by simp),st 3 (by omega),gu hb,Jc,ao (by simp)];exact Ak
theorem BK {t:Tk}{s:ByteArray}(h:zj t=some s):ib t s=true/\s∈opsL:=by
 unfold zj at h;exact⟨List.find?_some h,List.mem_of_find?_eq_some h⟩
theorem HC (H:ef L Z)(hn:200000<=n){k:Nat}{m:Bool}{E:List Xp}{P:PP}(hk:k<=L.length)(hE:E.length<=k):
  SimX L Z P k m E qX (bg.j0 n (sH L Z k m E P) (0,(Jd,[]))) (aI.j1 n (iH L Z k m) E (0,(Jd,[]))):=by
 have hL:=H.few;unfold bg.j0 aI.j1;rcases Dk (n:=n) H k m E P hk hE hn with⟨a,k',m',E',e1,e2,h3,h4,h5,h8⟩|⟨a,a',b,k1,m1,E1,k2,m2,E2,e1,e2,h3,h4,h5,h6,h7⟩
 ·rw[e1,e2,Jc,Jc]
  show SimX L Z P k m E qX (bg.l1 n a opsL (Je opsL:Int) (sH L Z k' m' E' P) _ _ n 0 _) (aI.l2 n a opsL (Je opsL:Int) E' _ _ n 0 (iH L Z k' m'));rw[Fj H h4 (by omega),Fk H h4 (by omega)];cases ho:zj (aR L k')with
  |none=>
   show SimX L Z P k m E qX (if JL Jd Jd=true then _ else _) ((aZ.F n (iH L Z k' m')).bind _);rw[ab (by rw[py];decide)];show SimX L Z P k m E qX ((bf.F n (sH L Z k' m' E' P)).bind _) ((aZ.F n (iH L Z k' m')).bind _);rw[x7 hL h4,x9 hL h4,Jc,Jc];exact .inr ⟨_,_,gr L Z k',k',m',E',k',m',E',rfl,rfl,eh H _,h4,h4,by omega,by omega⟩
  |some s=>
   obtain⟨o1,o2⟩:=BK ho;obtain⟨hlt,_,gt⟩:=eJ o1;have hs:JL s Jd=false:=by
    simp only[opsL,List.mem_cons,List.not_mem_nil,or_false]at o2;rw[py];rcases o2 with rfl|rfl|rfl|rfl<;>decide
   show SimX L Z P k m E qX (if JL s Jd=true then _ else(af.F n (L,Jh.wrap ((k':Int)+1),(sH L Z k' m' E' P).2.2)).bind λr21=>some ((3,(s,[a,r21.1])),r21.2)) ((aa.F n (iH L Z (k'+1) m') E').bind _);rw[hs,ao (by simp),nk (by omega)];show SimX L Z P k m E qX ((af.F n (sH L Z (k'+1) m' E' P)).bind _) _;rcases Dk (n:=n) H (k'+1) m' E' P (by omega) (by omega) hn with⟨a2,k'',m'',E'',f1,f2,g3,g4,g5,g8⟩|⟨a2,a2',b2,k1,m1,E1,k2,m2,E2,f1,f2,g3,g4,g5,g6,g7⟩
   ·rw[f1,f2,Jc,Jc]
    exact .inl ⟨_,k'',m'',E'',rfl,rfl,by omega,g4,by omega,λB h=>⟨(g8 B (h8 B h).1).1,λ_=>⟨by rw[← gt];exact H.txt _ (eH hlt),by simp⟩⟩⟩
   ·rw[f1,f2,Jc,Jc]
    exact .inr ⟨_,_,b2,k1,m1,E1,k2,m2,E2,rfl,rfl,g3,g4,g5,by omega,by omega⟩
 ·rw[e1,e2,Jc,Jc]
  show SimX L Z P k m E qX (bg.l1 n a opsL (Je opsL:Int) (sF L Z b k1 m1 E1 P) _ _ n 0 _) (aI.l2 n a' opsL (Je opsL:Int) E2 _ _ n 0 (iF L Z b k2 m2));rw[Iu hL h4 (by omega),Iv h3 (by omega)];show SimX L Z P k m E qX (if JL Jd Jd=true then _ else _) ((aZ.F n (iF L Z b k2 m2)).bind _);rw[ab (by rw[py];decide)];show SimX L Z P k m E qX ((bf.F n (sF L Z b k1 m1 E1 P)).bind _) ((aZ.F n (iF L Z b k2 m2)).bind _);rw[Ht,s9 h3,Jc,Jc];exact .inr ⟨_,_,b,k1,m1,E1,k2,m2,E2,rfl,rfl,h3,h4,h5,h6,h7⟩
theorem Dq (H:ef L Z)(hn:200000<=n){k:Nat}{m:Bool}{E:List Xp}{P:PP}(hk:k<=L.length)(hE:E.length<=k):
  SimX L Z P k m E qX (bg.F n (sH L Z k m E P)) (aI.F n (iH L Z k m) E):=by
 have hL:=H.few;unfold bg.F aI.F;rw[mS hL hk,jt hL hk,Jc,Jc,eI H (by simp[dx])]
 by_cases c:ib (aR L k) ⟨#[33]⟩=true
 ·obtain⟨hlt,_,_⟩:=eJ c
  simp only[c,if_true];rcases v6 (n:=n) H hn 2 (P:=P) (E:=E) (m:=m) (show k+1<=L.length by omega) (by omega)with⟨a,k',m',E',e1,e2,h3,h4,h5,h8⟩|⟨a,a',b,k1,m1,E1,k2,m2,E2,e1,e2,h3,h4,h5,h6,h7⟩
  ·rw[e1,e2,Jc,Jc]
   exact .inl ⟨_,k',m',E',rfl,rfl,by omega,h4,by omega,h8⟩
  ·rw[e1,e2,Jc,Jc]
   exact .inr ⟨_,_,b,k1,m1,E1,k2,m2,E2,rfl,rfl,h3,h4,h5,by omega,by omega⟩
 ·simp only[JK.2 c,Jt,if_false]
  have t0:∃r:Tk,bh.F n (sH L Z k m E P) 0=some r/\r.1=(aR L k).1:=by
   rw[oJ hL hk];refine⟨_,rfl,?_⟩
   split
   ·rfl
   ·rw[iU ‹_›]
  have t1:∃r:Tk,bh.F n (sH L Z k m E P) 1=some r/\r.1=(aR L (k+1)).1/\r.2.1=(aR L (k+1)).2.1:=by
   have:=In (n:=n) (Z:=Z) (b:=0) (f:=false) (m:=m) (E:=E) (P:=P) (j:=1) hL hk (by omega);refine⟨_,this,?_⟩
   split
   ·exact⟨rfl,rfl⟩
   ·rw[iU ‹_›];exact⟨rfl,rfl⟩
  obtain⟨r0,q0,q1⟩:=t0;obtain⟨r1,p0,p1,p2⟩:=t1;have pk:=Gr (n:=n) (Z:=Z) (m:=m) (j:=1) hL hk (by omega);have pk':aY.F n (iH L Z k m) 1=some (aR L (k+1)):=pk;show SimX L Z P k m E qX ((bh.F n (sH L Z k m E P) 0).bind _) ((aY.F n (iH L Z k m) 1).bind _);rw[q0,pk',Jc,Jc];show SimX L Z P k m E qX _ ((aY.F n (iH L Z k m) 0).bind _);rw[pA hL hk,Jc,q1];have cmp:=HC (n:=n) H hn (P:=P) (E:=E) (m:=m) hk hE
  by_cases c1:(aR L k).1=1
  ·rw[ab (by simp[c1]),ab (by simp[c1]),show bh.F n (L,(k:Int),Z,0,false,m,E,P) 1=some r1 from p0,Jc,p1]
   by_cases c5:(aR L (k+1)).1=5
   ·rw[ab (by simp[c5]),ab (by simp[c5]),Jc,p2]
    unfold aI.j0;cases cs:JL (aR L (k+1)).2.1 ⟨#[40]⟩with
    |true=>
     rw[ab rfl,ab rfl];rcases v6 (n:=n) H hn 1 (P:=P) (E:=E) (m:=m) hk hE with⟨a,k',m',E',e1,e2,h3,h4,h5,h8⟩|⟨a,a',b,k1,m1,E1,k2,m2,E2,e1,e2,h3,h4,h5,h6,h7⟩
     ·rw[e1,e2,Jc,Jc]
      exact .inl ⟨_,k',m',E',rfl,rfl,by omega,h4,by omega,h8⟩
     ·rw[e1,e2,Jc,Jc]
      exact .inr ⟨_,_,b,k1,m1,E1,k2,m2,E2,rfl,rfl,h3,h4,h5,by omega,by omega⟩
    |false=>
     rw[ao (by simp),ao (by simp)];exact cmp
   ·rw[ao (by simp[c5]),ao (by simp[c5])]
    unfold aI.j0;rw[ao (by simp)];exact cmp
  ·rw[ao (by simp[c1]),ao (by simp[c1])]
   unfold aI.j0;rw[ao (by simp)];exact cmp
end
def Iw (r:Rl):Prop:=r.1.length<=60/\r.2.2.length<=12/\(∀e∈r.1,zi e)/\zi r.2.1/\∀l∈r.2.2,zi l
def SimR (L:List Tk)(Z:Int)(P:PP)(m0:Bool)(k:Nat)(x:Option RR)(y:Option (Rl×lY)):Prop:=
 (∃r k' m',x=some (sH L Z k' m' r.1 (P.1,P.2.1,P.2.2++[r]))/\y=some (r,iH L Z k' m')/\k<=k'/\k'<=L.length/\(m'=false->m0=false/\Iw r))\/
 (∃r b k1 m1 E1 P1 k2 m2,x=some (sF L Z b k1 m1 E1 P1)/\y=some (r,iF L Z b k2 m2)/\0<=b/\k1<=L.length/\k2<=L.length)
theorem SimR.up {L:List Tk}{Z:Int}{P:PP}{m0:Bool}{k k0:Nat}{x:Option RR}{y:Option (Rl×lY)}(h:SimR L Z P m0 k x y)(hk:k0<=k):SimR L Z P m0 k0 x y:=by
 rcases h with⟨a,k',m',h1,h2,h3,h⟩|h
 ·exact .inl ⟨a,k',m',h1,h2,by omega,h⟩
 ·exact .inr h
section
variable {L:List Tk} {Z:Int} {n:Nat}
theorem cI {α:Type}{l:List α}{x:α}(h:l.length<=100000):l.length+[x].length<=aU:=by simp only[Jj,Jo,aU];omega
theorem IZ {b:Int}{k:Nat}{m:Bool}{E:List Xp}{hd:Xp}{body:List Xp}{t:Rl}{p:lY}(h:aA.F n p ⟨#[46]⟩=some (iF L Z b k m)):
  bY.j1 n p t (E,(hd,body))=some ((E,(hd,body)),iF L Z b k (m||decide ((body.length:Int)>12)||decide ((E.length:Int)>60))):=by
 unfold bY.j1;rw[h,Jc];cases m with
 |true=>rw[ao (by simp)];rfl
 |false=>
  rw[ab rfl]
  by_cases c:(body.length:Int)>12
  ·rw[ao (by simp;omega),iN c];rfl
  ·rw[ab (by simp;omega),dp c];rfl
theorem J0 {b:Int}{f:Bool}{k:Nat}{m:Bool}{E:List Xp}{P:PP}{hd:Xp}{body:List Xp}{p:RR}{r0:List Xp}(h:bl.F n p ⟨#[46]⟩=some (L,(k:Int),Z,b,f,m,E,P))(hP:P.2.2.length<=100000):
  av.j4 n p (r0,(hd,body)) (λt=>some t)=some (L,(k:Int),Z,b,f,(m||decide ((body.length:Int)>12)||decide ((E.length:Int)>60)),E,(P.1,P.2.1,P.2.2++[(E,(hd,body))])):=by
 unfold av.j4;rw[h,Jc,lZ,Jc,lZ,Jc];rw[ab (cI hP)]
theorem xh (H:ef L Z){m0:Bool}{k:Nat}{m:Bool}{E:List Xp}{P:PP}{hd:Xp}{body:List Xp}{r0:List Xp}{t:Rl}(hk:k<=L.length)(hP:P.2.2.length<=100000)
  (ho:OkE (m0=false/\zi hd/\∀l∈body,zi l) m E):
  SimR L Z P m0 k (av.j4 n (sH L Z k m E P) (r0,(hd,body)) (λt=>some t)) (bY.j1 n (iH L Z k m) t (E,(hd,body))):=by
 have hL:=H.few;have w1:=Ag (n:=n) (Z:=Z) (m:=m) (E:=E) (P:=P) hL hk ⟨#[46]⟩;have w2:=mU (n:=n) (Z:=Z) (m:=m) hL hk ⟨#[46]⟩;rw[eI H (by simp[dx])]at w1
 by_cases c:ib (aR L k) ⟨#[46]⟩=true
 ·obtain⟨hlt,_,_⟩:=eJ c
  rw[ab c]at w1 w2;rw[J0 w1 hP,IZ w2];refine .inl ⟨(E,(hd,body)),k+1,_,rfl,rfl,by omega,by omega,λh=>?_⟩;simp only[K8,vk]at h;obtain⟨h1,h2⟩:=ho h.1.1;exact⟨h1.1,by simp only;omega,by simp only;omega,h2,h1.2.1,h1.2.2⟩
 ·rw[ao c]at w1 w2
  rw[J0 w1 hP,IZ w2];exact .inr ⟨_,gr L Z k,k,_,_,_,k,_,rfl,rfl,eh H _,hk,hk⟩
theorem pE (H:ef L Z){m0:Bool}{b:Int}{k k1 k2:Nat}{m1 m2:Bool}{E1 E2:List Xp}{P:PP}{hd hd2:Xp}{body body2:List Xp}{r0:List Xp}{t:Rl}(hb:0<=b)(hk1:k1<=L.length)(hk2:k2<=L.length)(hP:P.2.2.length<=100000):
  SimR L Z P m0 k (av.j4 n (sF L Z b k1 m1 E1 P) (r0,(hd,body)) (λt=>some t)) (bY.j1 n (iF L Z b k2 m2) t (E2,(hd2,body2))):=by
 rw[J0 (uZ H.few hk1 _) hP,IZ (ku hb _)];exact .inr ⟨_,b,k1,_,_,_,k2,_,rfl,rfl,hb,hk1,hk2⟩
theorem tM (H:ef L Z)(hn:200000<=n){m0:Bool}{P:PP}(hP:P.2.2.length<=100000){hd:Xp}{t:Rl}:∀f k m E body,k<=L.length->E.length<=k->L.length - k<f->body.length+(L.length - k)<=10000->
  OkE (m0=false/\zi hd/\∀l∈body,zi l) m E->
  SimR L Z P m0 k (av.l3 n (λt39 t40=>av.j4 n t39 t40 (λt=>some t)) f (sH L Z k m E P) ([],(hd,body))) (bY.l0 n t (λp10 r11=>bY.j1 n p10 t r11) f (iH L Z k m) (E,(hd,body)))
 |0,k,m,E,body,hk,hE,hf,hB,ho=>by omega
 |f+1,k,m,E,body,hk,hE,hf,hB,ho=>by
  have hL:=H.few;unfold av.l3 bY.l0;rw[mS hL hk,jt hL hk,Jc,Jc,eI H (by simp[dx])]
  by_cases c:ib (aR L k) ⟨#[44]⟩=true
  ·obtain⟨hlt,_,_⟩:=eJ c
   simp only[c,if_true];rcases Dq (n:=n) H hn (P:=P) (E:=E) (m:=m) (show k+1<=L.length by omega) (by omega)with⟨a,k',m',E',e1,e2,h3,h4,h5,h8⟩|⟨a,a',b,k1,m1,E1,k2,m2,E2,e1,e2,h3,h4,h5,h6,h7⟩
   ·rw[e1,e2,Jc,Jc,ab (cI (by omega)),ab (cI (by omega))]
    refine(tM H hn hP f k' m' E' _ h4 (by omega) (by omega) (by simp;omega) ?_).up (by omega);obtain⟨g1,g2⟩:=h8 _ ho;intro hm;obtain⟨⟨q1,q2,q3⟩,q4⟩:=g1 hm;refine⟨⟨q1,q2,λl hl=>?_⟩,q4⟩;rcases KC.1 hl with hl|hl
    ·exact q3 l hl
    ·rw[JQ.1 hl];exact g2 hm
   ·rw[e1,e2,Jc,Jc,ab (cI (by omega)),ab (cI (by omega))]
    obtain⟨g,rfl⟩:∃g,f=g+1:=⟨f - 1,by omega⟩
    unfold av.l3 bY.l0;rw[mT hL h4,gu h3,Jc,Jc,ao (by simp),ao (by simp)];exact pE H h3 h4 h5 hP
  ·simp only[JK.2 c,Jt,if_false]
   exact xh H hk hP ho
def Dr (n:Nat)(t:RR):Option RR:=
 (cO.F n t 1).bind λr32=>
 (aB.F n r32.2 ⟨#[58,45]⟩).bind λr33=>
 if r33.1=true then
 (bg.F n r33.2).bind λr34=>
 if Je ([]:List (Xp))+Je [r34.1]<=aU then
 av.l3 n (λt39 t40=>
 av.j4 n t39 t40 (λt46=>
 some t46)) n r34.2 ([],(r32.1,[]++[r34.1]))
 else
 none
 else
 av.j4 n r33.2 ([],(r32.1,[])) (λt47=>
 some t47)
theorem Fl (H:ef L Z)(hn:200000<=n){k:Nat}{m:Bool}{P:PP}(hk:k<=L.length)(hP:P.2.2.length<=100000):
  SimR L Z P m (k+1) (Dr n (sH L Z k m [] P)) (bY.F n (iH L Z k m)):=by
 have hL:=H.few;unfold Dr bY.F;rcases v6 (n:=n) H hn 1 (P:=P) (E:=[]) (m:=m) hk (by simp)with⟨a,k',m',E',e1,e2,h3,h4,h5,h8⟩|⟨a,a',b,k1,m1,E1,k2,m2,E2,e1,e2,h3,h4,h5,h6,h7⟩
 ·rw[e1,e2,Jc,Jc,mS hL h4,jt hL h4,Jc,Jc,eI H (by simp[dx])]
  have hlen:E'.length<=k':=by simp at h5;omega
  obtain⟨g1,g2⟩:=h8 (m=false) (λh=>⟨h,by simp⟩)
  by_cases c:ib (aR L k') ⟨#[58,45]⟩=true
  ·obtain⟨hlt,_,_⟩:=eJ c
   simp only[c,if_true];rcases Dq (n:=n) H hn (P:=P) (E:=E') (m:=m') (show k'+1<=L.length by omega) (by omega)with⟨l,k'',m'',E'',f1,f2,i3,i4,i5,i8⟩|⟨a2,a2',b2,k1,m1,E1,k2,m2,E2,f1,f2,i3,i4,i5,i6,i7⟩
   ·rw[f1,f2,Jc,Jc,ab (cI (by simp)),ab (cI (by simp))]
    refine(tM H hn hP n k'' m'' E'' _ i4 (by omega) (by omega) (by simp;omega) ?_).up (by omega);obtain⟨q1,q2⟩:=i8 (m=false/\zi (1,a)) (λh=>⟨⟨(g1 h).1,g2 h⟩,(g1 h).2⟩);intro hm;obtain⟨⟨p1,p2⟩,p3⟩:=q1 hm;refine⟨⟨p1,p2,λx hx=>?_⟩,p3⟩;rw[Kg,JQ]at hx;rw[hx];exact q2 hm
   ·rw[f1,f2,Jc,Jc,ab (cI (by simp)),ab (cI (by simp))]
    obtain⟨g,rfl⟩:∃g,n=g+1:=⟨n - 1,by omega⟩
    unfold av.l3 bY.l0;rw[mT hL i4,gu i3,Jc,Jc,ao (by simp),ao (by simp)];exact pE H i3 i4 i5 hP
  ·simp only[JK.2 c,Jt,if_false]
   exact(xh H h4 hP λhm=>⟨⟨(g1 hm).1,g2 hm,by simp⟩,(g1 hm).2⟩).up (by omega)
 ·rw[e1,e2,Jc,Jc,mT hL h4,gu h3,Jc,Jc,ao (by simp),ao (by simp)]
  exact pE H h3 h4 h5 hP
end
abbrev TD:Type:=ByteArray×List (ByteArray×List ByteArray)
abbrev RD:Type:=ByteArray×(List ByteArray)×Int
def Ix (t:TD):Prop:=t.1.size<=30/\t.2.length<=12/\∀c∈t.2,Iq c
def Iy (r:RD):Prop:=r.1.size<=30/\zg r.2.1
def Fm (P:PP):Prop:=(∀t∈P.1,Ix t)/\(∀r∈P.2.1,Iy r)/\∀r∈P.2.2,Iw r
def se (P:PP):Nat:=P.1.length+P.2.1.length+P.2.2.length
def SimS (L:List Tk)(Z:Int)(P:PP)(m0:Bool)(k:Nat)(x:Option RR)(y:Option (lY×PP)):Prop:=
 (∃E' P' k' m',x=some (sH L Z k' m' E' P')/\y=some (iH L Z k' m',P')/\k<=k'/\k'<=L.length/\se P'=se P+1/\(m'=false->m0=false/\(Fm P->Fm P')))\/
 (∃b k1 m1 E1 P1 k2 m2 P2,x=some (sF L Z b k1 m1 E1 P1)/\y=some (iF L Z b k2 m2,P2)/\0<=b/\k1<=L.length/\k2<=L.length)
theorem SimS.up {L:List Tk}{Z:Int}{P:PP}{m0:Bool}{k k0:Nat}{x:Option RR}{y:Option (lY×PP)}(h:SimS L Z P m0 k x y)(hk:k0<=k):SimS L Z P m0 k0 x y:=by
 rcases h with⟨E',P',k',m',h1,h2,h3,h⟩|h
 ·exact .inl ⟨E',P',k',m',h1,h2,by omega,h⟩
 ·exact .inr h
section
variable {L:List Tk} {Z:Int} {n:Nat} {E:List Xp} {P:PP}
def Iz (n:Nat)(t10:RR)(t11:TD):Option RR:=
 (bo.F n t10 ⟨#[46]⟩).bind λr12=>
 (aW.F n r12 (Je t11.2:Int) 12).bind λr13=>
 if Je r13.2.2.2.2.2.2.2.1+Je [t11]<=aU then
 some (r13.1,(r13.2.1,(r13.2.2.1,(r13.2.2.2.1,(r13.2.2.2.2.1,(r13.2.2.2.2.2.1,(r13.2.2.2.2.2.2.1,(r13.2.2.2.2.2.2.2.1++[t11],r13.2.2.2.2.2.2.2.2))))))))
 else
 none
def IA (n:Nat)(t2:PP)(t12:lY)(t13:TD):Option (lY×PP):=
 (aA.F n t12 ⟨#[46]⟩).bind λr14=>
 if r14.2.2.2.2=false then
 if Je t2.1+Je [t13]<=aU then
 some ((r14.1,(r14.2.1,(r14.2.2.1,(r14.2.2.2.1,decide ((Je t13.2:Int)>12))))),(t2.1++[t13],t2.2))
 else
 none
 else
 if Je t2.1+Je [t13]<=aU then
 some ((r14.1,(r14.2.1,(r14.2.2.1,(r14.2.2.2.1,true)))),(t2.1++[t13],t2.2))
 else
 none
theorem zk {b:Int}{f:Bool}{k:Nat}{m:Bool}{p:RR}{t:TD}(hP:P.1.length<=100000)(h:bo.F n p ⟨#[46]⟩=some (L,(k:Int),Z,b,f,m,E,P)):
  Iz n p t=some (L,(k:Int),Z,b,f,(m||decide ((t.2.length:Int)>12)),E,(P.1++[t],P.2)):=by
 unfold Iz;rw[h,Jc,lZ,Jc,ab (cI hP)]
theorem zl {b:Int}{k:Nat}{m:Bool}{p:lY}{t:TD}(hP:P.1.length<=100000)(h:aA.F n p ⟨#[46]⟩=some (iF L Z b k m)):
  IA n P p t=some (iF L Z b k (m||decide ((t.2.length:Int)>12)),(P.1++[t],P.2)):=by
 unfold IA;rw[h,Jc];cases m with
 |true=>rw[ao (by simp),ab (cI hP)];rfl
 |false=>rw[ab rfl,ab (cI hP)];rfl
theorem HD (H:ef L Z){m0:Bool}{k:Nat}{m:Bool}{t:TD}(hk:k<=L.length)(hP:P.1.length<=100000)(ho:m=false->m0=false/\t.1.size<=30/\∀c∈t.2,Iq c):
  SimS L Z P m0 k (Iz n (sH L Z k m E P) t) (IA n P (iH L Z k m) t):=by
 have hL:=H.few;have w1:=x6 (n:=n) (Z:=Z) (m:=m) (E:=E) (P:=P) hL hk ⟨#[46]⟩;have w2:=mU (n:=n) (Z:=Z) (m:=m) hL hk ⟨#[46]⟩;rw[eI H (by simp[dx])]at w1
 by_cases c:ib (aR L k) ⟨#[46]⟩=true
 ·obtain⟨hlt,_,_⟩:=eJ c
  rw[ab c]at w1 w2;rw[zk hP w1,zl hP w2];refine .inl ⟨E,_,k+1,_,rfl,rfl,by omega,by omega,by simp[se];omega,λh=>?_⟩;simp only[K8,vk]at h;obtain⟨h1,h2,h3⟩:=ho h.1;refine⟨h1,λq=>⟨λx hx=>?_,q.2⟩⟩;rcases KC.1 hx with hx|hx
  ·exact q.1 x hx
  ·rw[JQ.1 hx];exact⟨h2,by omega,h3⟩
 ·rw[ao c]at w1 w2
  rw[zk hP w1,zl hP w2];exact .inr ⟨gr L Z k,k,_,_,_,k,_,_,rfl,rfl,eh H _,hk,hk⟩
theorem qG (H:ef L Z){m0:Bool}{b:Int}{k k1 k2:Nat}{m1 m2:Bool}{t1 t2:TD}{P2:PP}(hb:0<=b)(hk1:k1<=L.length)(hk2:k2<=L.length)(hP:P.1.length<=100000):
  SimS L Z P m0 k (Iz n (sF L Z b k1 m1 E P) t1) (IA n P (iF L Z b k2 m2) t2):=by
 rw[zk hP (rY H.few hk1 _),zl hP (ku hb _)];exact .inr ⟨b,k1,_,_,_,k2,_,_,rfl,rfl,hb,hk1,hk2⟩
theorem Al (H:ef L Z)(hn:200000<=n){m0:Bool}(hP:P.1.length<=100000):∀f k m (t:TD),k<=L.length->L.length - k<f->t.2.length+(L.length - k)<=10000->(m=false->m0=false/\t.1.size<=30/\∀c∈t.2,Iq c)->
  SimS L Z P m0 k (av.l0 n (Iz n) f (sH L Z k m E P) t) (aE.l0 n P (IA n P) f (iH L Z k m) t)
 |0,k,m,t,hk,hf,hB,ho=>by omega
 |f+1,k,m,t,hk,hf,hB,ho=>by
  have hL:=H.few;unfold av.l0 aE.l0;rw[q8 hL hk,jt hL hk,Jc,Jc,eI H (by simp[dx])]
  by_cases c:ib (aR L k) ⟨#[124]⟩=true
  ·obtain⟨hlt,_,_⟩:=eJ c
   simp only[c,if_true];rcases Dn (n:=n) (P:=P) (E:=E) H (by omega) (show k+1<=L.length by omega) (m:=m)with⟨a,k',m',e1,e2,h3,h4,h5,h6⟩|⟨a,a',p,k1,m1,k2,m2,e1,e2,h3,h4,h5⟩
   ·rw[e1,e2,Jc,Jc,ab (cI (by omega)),ab (cI (by omega))]
    refine(Al H hn hP f k' m' _ h4 (by omega) (by simp;omega) ?_).up (by omega);intro hm;obtain⟨q1,q2,q3⟩:=ho (h5 hm);refine⟨q1,q2,λx hx=>?_⟩;rcases KC.1 hx with hx|hx
    ·exact q3 x hx
    ·rw[JQ.1 hx];exact h6 hm
   ·rw[e1,e2,Jc,Jc,ab (cI (by omega)),ab (cI (by omega))]
    obtain⟨g,rfl⟩:∃g,f=g+1:=⟨f - 1,by omega⟩
    unfold av.l0 aE.l0;rw[kt hL h4,gu h3,Jc,Jc,ao (by simp),ao (by simp)];exact qG (P2:=P) H h3 h4 h5 hP
  ·simp only[JK.2 c,Jt,if_false]
   exact HD H hk hP ho
abbrev modL:List ByteArray:=[⟨#[105,110,112,117,116]⟩,⟨#[111,117,116,112,117,116]⟩,⟨#[105,110,108,105,110,101]⟩]
abbrev modI:List ByteArray:=[Jd,⟨#[105,110,112,117,116]⟩,⟨#[111,117,116,112,117,116]⟩,⟨#[105,110,108,105,110,101]⟩]
def nB (t:Tk):Nat:=if mu t ⟨#[105,110,112,117,116]⟩=true then 1 else if mu t ⟨#[111,117,116,112,117,116]⟩=true then 2 else if mu t ⟨#[105,110,108,105,110,101]⟩=true then 3 else 0
theorem v7 {K}{f:Nat}{st:RR}{d:RD}(i:Nat)(hi:i<3):
  av.l2 n modL (Je modL:Int) K (f+1) (i:Int) st d=if(decide (d.2.2=0))=true then
   (aT.F n st (modL.getD i Jd)).bind λr=>if r.1=true then av.l2 n modL (Je modL:Int) K f ((i+1:Nat):Int) r.2 (d.1,(d.2.1,((i+1:Nat):Int)))else av.l2 n modL (Je modL:Int) K f ((i+1:Nat):Int) r.2 d
   else av.l2 n modL (Je modL:Int) K f ((i+1:Nat):Int) st d:=by
 rw[av.l2];rw[ab (by simp;omega),ab (by simp;omega),nk (by omega)]
 rfl
theorem pF {K}{f:Nat}{st:RR}{d:RD}:av.l2 n modL (Je modL:Int) K (f+1) 3 st d=K st d:=by
 rw[av.l2];rw[ao (by simp)]
theorem v8 {K}{f:Nat}{st:RR}{d:RD}(hd:d.2.2≠0):∀i:Nat,i<=3->5<=f->av.l2 n modL (Je modL:Int) K f (i:Int) st d=K st d:=by
 intro i hi hf;obtain⟨g,rfl⟩:∃g,f=g+5:=⟨f - 5,by omega⟩
 have st':=λ(i:Nat) (hi:i<3) (f:Nat)=>(v7 (n:=n) (K:=K) (f:=f) (st:=st) (d:=d) i hi).trans (ao (by simp[hd]))
 rcases i with _|_|_|_|i
 ·rw[st' 0 (by omega),st' 1 (by omega),st' 2 (by omega)];exact pF
 ·rw[st' 1 (by omega),st' 2 (by omega)];exact pF
 ·rw[st' 2 (by omega)];exact pF
 ·exact pF
 ·omega
theorem HE (H:ef L Z){K}{f:Nat}{k:Nat}{m:Bool}{nm:ByteArray}{ts:List ByteArray}(hk:k<=L.length)(hf:20<=f):
  av.l2 n modL (Je modL:Int) K f 0 (sH L Z k m E P) (nm,(ts,0))=K (sH L Z (if nB (aR L k)=0 then k else k+1) m E P) (nm,(ts,(nB (aR L k):Int))):=by
 have hL:=H.few;obtain⟨g,rfl⟩:∃g,f=g+8:=⟨f - 8,by omega⟩
 have st':=λ(i:Nat) (hi:i<3) (f:Nat)=>(v7 (n:=n) (K:=K) (f:=f) (st:=sH L Z k m E P) (d:=(nm,(ts,0))) i hi).trans (ab (by simp))
 have tk:∀i,i<3->aT.F n (sH L Z k m E P) (modL.getD i Jd)=some (mu (aR L k) (modL.getD i Jd),sH L Z (if mu (aR L k) (modL.getD i Jd)=true then k+1 else k) m E P):=by
  intro i hi;rw[q8 hL hk,pC H];rcases i with _|_|_|i
  ·simp[lI]
  ·simp[lI]
  ·simp[lI]
  ·omega
 refine(st' 0 (by omega) _).trans ?_;rw[tk 0 (by omega),Jc];unfold nB;show(if mu (aR L k) ⟨#[105,110,112,117,116]⟩=true then av.l2 n modL (Je modL:Int) K _ _ (sH L Z (if mu (aR L k) ⟨#[105,110,112,117,116]⟩=true then k+1 else k) m E P) _ else av.l2 n modL (Je modL:Int) K _ _ (sH L Z (if mu (aR L k) ⟨#[105,110,112,117,116]⟩=true then k+1 else k) m E P) _)=_;cases c0:mu (aR L k) ⟨#[105,110,112,117,116]⟩with
 |true=>
  simp only[if_true];exact v8 (by simp) 1 (by omega) (by omega)
 |false=>
  simp only[Jt,if_false];refine(st' 1 (by omega) _).trans ?_;rw[tk 1 (by omega),Jc];show(if mu (aR L k) ⟨#[111,117,116,112,117,116]⟩=true then av.l2 n modL (Je modL:Int) K _ _ (sH L Z (if mu (aR L k) ⟨#[111,117,116,112,117,116]⟩=true then k+1 else k) m E P) _ else av.l2 n modL (Je modL:Int) K _ _ (sH L Z (if mu (aR L k) ⟨#[111,117,116,112,117,116]⟩=true then k+1 else k) m E P) _)=_;cases c1:mu (aR L k) ⟨#[111,117,116,112,117,116]⟩with
  |true=>
   simp only[if_true];exact v8 (by simp) 2 (by omega) (by omega)
  |false=>
   simp only[Jt,if_false];refine(st' 2 (by omega) _).trans ?_;rw[tk 2 (by omega),Jc];show(if mu (aR L k) ⟨#[105,110,108,105,110,101]⟩=true then av.l2 n modL (Je modL:Int) K _ _ (sH L Z (if mu (aR L k) ⟨#[105,110,108,105,110,101]⟩=true then k+1 else k) m E P) _ else av.l2 n modL (Je modL:Int) K _ _ (sH L Z (if mu (aR L k) ⟨#[105,110,108,105,110,101]⟩=true then k+1 else k) m E P) _)=_;cases c2:mu (aR L k) ⟨#[105,110,108,105,110,101]⟩with
   |true=>
    simp only[if_true];exact v8 (by simp) 3 (by omega) (by omega)
   |false=>
    simp only[Jt,if_false];exact pF
theorem J1 (hL:L.length<=3000){K}{f:Nat}{b:Int}{k:Nat}{m:Bool}{nm:ByteArray}{ts:List ByteArray}(hk:k<=L.length)(hf:20<=f):
  av.l2 n modL (Je modL:Int) K f 0 (sF L Z b k m E P) (nm,(ts,0))=K (sF L Z b k m E P) (nm,(ts,0)):=by
 obtain⟨g,rfl⟩:∃g,f=g+8:=⟨f - 8,by omega⟩
 have st':=λ(i:Nat) (hi:i<3) (f:Nat)=>(v7 (n:=n) (K:=K) (f:=f) (st:=sF L Z b k m E P) (d:=(nm,(ts,0))) i hi).trans (ab (by simp))
 refine(st' 0 (by omega) _).trans ?_;rw[kt hL hk,Jc,ao (by simp),st' 1 (by omega),kt hL hk,Jc,ao (by simp),st' 2 (by omega),kt hL hk,Jc,ao (by simp)];exact pF
theorem Am {K}{f:Nat}{st:lY}{d:RD}{P:PP}(i:Nat)(hi:i<4)(h0:i≠0):
  aE.l2 n modI (Je modI:Int) st P d K (f+1) (i:Int)=
   (bL.F n st (modI.getD i Jd)).bind λr=>if r=true then K (st.1,(Jh.wrap (st.2.1+1),st.2.2)) (d.1,(d.2.1,(i:Int)))else aE.l2 n modI (Je modI:Int) st P d K f ((i+1:Nat):Int):=by
 rw[aE.l2];rw[ab (by simp;omega),ab (by simp;omega),ab (by simp;omega),nk (by omega)]
 rfl
theorem im_0 {K}{f:Nat}{st:lY}{d:RD}{P:PP}:
  aE.l2 n modI (Je modI:Int) st P d K (f+1) 0=aE.l2 n modI (Je modI:Int) st P d K f 1:=by
 rw[aE.l2];rw[ab (by simp),ab (by simp),ao (by simp)]
 rfl
theorem Ds {K}{f:Nat}{st:lY}{d:RD}{P:PP}:aE.l2 n modI (Je modI:Int) st P d K (f+1) 4=K st d:=by
 rw[aE.l2];rw[ao (by simp)]
theorem HF (H:ef L Z){K}{f:Nat}{k:Nat}{m:Bool}{nm:ByteArray}{ts:List ByteArray}{P:PP}(hk:k<=L.length)(hf:20<=f):
  aE.l2 n modI (Je modI:Int) (iH L Z k m) P (nm,(ts,0)) K f 0=K (iH L Z (if nB (aR L k)=0 then k else k+1) m) (nm,(ts,(nB (aR L k):Int))):=by
 have hL:=H.few;obtain⟨g,rfl⟩:∃g,f=g+8:=⟨f - 8,by omega⟩
 have st':=λ(i:Nat) (hi:i<4) (h0:i≠0) (f:Nat)=>Am (n:=n) (K:=K) (f:=f) (st:=iH L Z k m) (d:=(nm,(ts,0))) (P:=P) i hi h0
 refine im_0.trans ?_;refine(st' 1 (by omega) (by omega) _).trans ?_;rw[nP hL hk,Jc];unfold nB;simp only[nk (show k<=1000000000 by omega)];show(if mu (aR L k) ⟨#[105,110,112,117,116]⟩=true then _ else _)=_;cases c0:mu (aR L k) ⟨#[105,110,112,117,116]⟩with
 |true=>rfl
 |false=>
  simp only[Jt,if_false];refine(st' 2 (by omega) (by omega) _).trans ?_;rw[nP hL hk,Jc];simp only[nk (show k<=1000000000 by omega)];show(if mu (aR L k) ⟨#[111,117,116,112,117,116]⟩=true then _ else _)=_;cases c1:mu (aR L k) ⟨#[111,117,116,112,117,116]⟩with
  |true=>rfl
  |false=>
   simp only[Jt,if_false];refine(st' 3 (by omega) (by omega) _).trans ?_;rw[nP hL hk,Jc];simp only[nk (show k<=1000000000 by omega)];show(if mu (aR L k) ⟨#[105,110,108,105,110,101]⟩=true then _ else _)=_;cases c2:mu (aR L k) ⟨#[105,110,108,105,110,101]⟩with
   |true=>rfl
   |false=>
    simp only[Jt,if_false];exact Ds
theorem J2 {K}{f:Nat}{b:Int}(hb:0<=b){k:Nat}{m:Bool}{nm:ByteArray}{ts:List ByteArray}{P:PP}(hf:20<=f):
  aE.l2 n modI (Je modI:Int) (iF L Z b k m) P (nm,(ts,0)) K f 0=K (iF L Z b k m) (nm,(ts,0)):=by
 obtain⟨g,rfl⟩:∃g,f=g+8:=⟨f - 8,by omega⟩
 have st':=λ(i:Nat) (hi:i<4) (h0:i≠0) (f:Nat)=>Am (n:=n) (K:=K) (f:=f) (st:=iF L Z b k m) (d:=(nm,(ts,0))) (P:=P) i hi h0
 refine im_0.trans ((st' 1 (by omega) (by omega) _).trans ?_);rw[oL hb,Jc,ao (by simp),st' 2 (by omega) (by omega),oL hb,Jc,ao (by simp),st' 3 (by omega) (by omega),oL hb,Jc,ao (by simp)];exact Ds
theorem Dt {k:Nat}(hk:k<=L.length):(if nB (aR L k)=0 then k else k+1)<=L.length:=by
 split
 ·exact hk
 ·rename_i h
  rcases Nat.lt_or_ge k L.length with h1|h1
  ·omega
  ·refine bJ ?_ h
   rw[iU (by omega)];unfold nB mu
   simp
abbrev Fo (n:Nat)(st:RR)(d:RD):Option RR:=av.j1 n st d (λt=>some t)
def Du (n:Nat)(P:PP)(st:lY)(d:RD):Option (lY×PP):=
 aE.l2 n modI (Je modI:Int) st P d (λt32 t33=>(aA.F n t32 ⟨#[46]⟩).bind λr34=>if Je P.2.1+Je [t33]<=aU then some (r34,(P.1,(P.2.1++[t33],P.2.2)))else none) n 0
theorem Dv (H:ef L Z)(hn:200000<=n){m0:Bool}{k:Nat}{m:Bool}{nm:ByteArray}{ts:List ByteArray}(hk:k<=L.length)(hP:P.2.1.length<=100000)(ho:m=false->m0=false/\nm.size<=30/\zg ts):
  SimS L Z P m0 k (Fo n (sH L Z k m E P) (nm,(ts,0))) (Du n P (iH L Z k m) (nm,(ts,0))):=by
 have hL:=H.few;unfold Fo av.j1 Du;rw[HE H hk (by omega),HF H hk (by omega)];have hk':=Dt hk;have hkk:k<=(if nB (aR L k)=0 then k else k+1):=by split<;>omega
 generalize hk2:(if nB (aR L k)=0 then k else k+1)=k2 at hk' hkk;rw[x6 hL hk',mU hL hk',Jc,Jc,eI H (by simp[dx])]
 by_cases c:ib (aR L k2) ⟨#[46]⟩=true
 ·obtain⟨hlt,_,_⟩:=eJ c
  simp only[c,if_true];rw[ab (cI hP),ab (cI hP)];refine .inl ⟨E,_,k2+1,m,rfl,rfl,by omega,by omega,by simp[se];omega,λh=>?_⟩;obtain⟨h1,h2,h3⟩:=ho h;refine⟨h1,λq=>⟨q.1,λx hx=>?_,q.2.2⟩⟩;rcases KC.1 hx with hx|hx
  ·exact q.2.1 x hx
  ·rw[JQ.1 hx];exact⟨h2,h3⟩
 ·simp only[JK.2 c,Jt,if_false]
  rw[ab (cI hP),ab (cI hP)];exact .inr ⟨gr L Z k2,k2,_,_,_,k2,_,_,rfl,rfl,eh H _,hk',hk'⟩
theorem Ao (H:ef L Z)(hn:200000<=n){m0:Bool}{b:Int}{k k1 k2:Nat}{m1 m2:Bool}{nm1 nm2:ByteArray}{ts1 ts2:List ByteArray}(hb:0<=b)(hk1:k1<=L.length)(hk2:k2<=L.length)(hP:P.2.1.length<=100000):
  SimS L Z P m0 k (Fo n (sF L Z b k1 m1 E P) (nm1,(ts1,0))) (Du n P (iF L Z b k2 m2) (nm2,(ts2,0))):=by
 have hL:=H.few;unfold Fo av.j1 Du;rw[J1 hL hk1 (by omega),J2 hb (by omega),rY hL hk1,ku hb,Jc,Jc,ab (cI hP),ab (cI hP)];exact .inr ⟨b,k1,_,_,_,k2,_,_,rfl,rfl,hb,hk1,hk2⟩
abbrev HG (n:Nat)(P:PP)(st:lY)(d:RD):Option (lY×PP):=aE.j1 n st P d (λa b=>some (a,b))
theorem va {P:PP}{st st':lY}{d:RD}(h:aA.F n st ⟨#[41]⟩=some st'):HG n P st d=Du n P st' d:=by
 unfold HG aE.j1;rw[h,Jc];unfold fk.F;rw[Jc]
 rfl
theorem Fp (H:ef L Z)(hn:200000<=n){k:Nat}{m:Bool}(hk:k<L.length)(hP:se P<=10000):
  SimS L Z P m (k+1) (av.F n (sH L Z k m E P)) (aE.F n (iH L Z k m) P):=by
 have hL:=H.few;have hk0:k<=L.length:=by omega
 have hk1:k+1<=L.length:=by omega
 have p1:P.1.length<=100000:=by unfold se at hP;omega
 have p2:P.2.1.length<=100000:=by unfold se at hP;omega
 have p3:P.2.2.length<=100000:=by unfold se at hP;omega
 unfold av.F aE.F;rw[q8 hL hk0,nP hL hk0,Jc,Jc,pC H (by simp[lI])]
 by_cases ct:mu (aR L k) ⟨#[116,121,112,101]⟩=true
 ·-- a type
  simp only[ct,if_true];simp only[nk (show k<=1000000000 by omega)];rw[rZ hL hk1 (by decide),xa hL hk1 (by decide),Jc,Jc]
  by_cases c2:(aR L (k+1)).1=2
  ·have hlt:=lJ (L:=L) (k:=k+1) (by rw[c2];decide)
   have hk2:k+1+1<=L.length:=by omega
   simp only[c2,if_true];rw[x6 hL hk2,mU hL hk2,Jc,Jc,eI H (by simp[dx])]
   by_cases ce:ib (aR L (k+1+1)) ⟨#[61]⟩=true
   ·obtain⟨hlt2,_,_⟩:=eJ ce
    simp only[ce,if_true];rcases Dn (n:=n) (P:=P) (E:=E) H (by omega) (show k+1+1+1<=L.length by omega) (m:=m)with⟨a,k',m',e1,e2,h3,h4,h5,h6⟩|⟨a,a',p,k1,m1,k2,m2,e1,e2,h3,h4,h5⟩
    ·rw[e1,e2,Jc,Jc,ab (cI (by simp)),ab (cI (by simp))]
     refine(Al (E:=E) H hn p1 n k' m' _ h4 (by omega) (by simp;omega) ?_).up (by omega);intro hm;refine⟨h5 hm,H.txt _ (eH hlt),λx hx=>?_⟩;rw[Kg,JQ]at hx;rw[hx];exact h6 hm
    ·rw[e1,e2,Jc,Jc,ab (cI (by simp)),ab (cI (by simp))]
     obtain⟨g,rfl⟩:∃g,n=g+1:=⟨n - 1,by omega⟩
     unfold av.l0 aE.l0;rw[kt hL h4,gu h3,Jc,Jc,ao (by simp),ao (by simp)];exact qG (P2:=P) H h3 h4 h5 p1
   ·simp only[JK.2 ce,Jt,if_false]
    have hb:=eh H (k+1+1);rw[Gw hL hk2,Gx hb,Jc,Jc,ab (cI (by simp)),ab (cI (by simp))];obtain⟨g,rfl⟩:∃g,n=g+1:=⟨n - 1,by omega⟩
    unfold av.l0 aE.l0;rw[kt hL hk2,gu hb,Jc,Jc,ao (by simp),ao (by simp)];exact qG (P2:=P) H hb hk2 hk2 p1
  ·simp only[c2,if_false]
   have hb:=eh H (k+1);rw[rY hL hk1,ku hb,Jc,Jc,Gw hL hk1,Gx hb,Jc,Jc,ab (cI (by simp)),ab (cI (by simp))];obtain⟨g,rfl⟩:∃g,n=g+1:=⟨n - 1,by omega⟩
   unfold av.l0 aE.l0;rw[kt hL hk1,gu hb,Jc,Jc,ao (by simp),ao (by simp)];exact qG (P2:=P) H hb hk1 hk1 p1
 simp only[JK.2 ct,Jt,if_false];rw[q8 hL hk0,nP hL hk0,Jc,Jc,pC H (by simp[lI])]
 by_cases cr:mu (aR L k) ⟨#[114,101,108]⟩=true
 ·-- a relation
  simp only[cr,if_true];simp only[nk (show k<=1000000000 by omega)];have fault:∀(b:Int) (k0:Nat) (nm nm2:ByteArray),0<=b->k0<=L.length->SimS L Z P m (k+1)
    ((aT.F n (sF L Z b k0 m E P) ⟨#[41]⟩).bind λr17=>if(!r17.1)=true then(bq.F n r17.2).bind λr18=>Fo n r18.2 (nm,(r18.1,0))else Fo n r17.2 (nm,([],0)))
    ((bU.F n (iF L Z b k0 m) ⟨#[41]⟩).bind λr18=>if(!r18)=true then(bN.F n (iF L Z b k0 m)).bind λr19=>HG n P r19.2 (nm2,(r19.1,0))else HG n P (iF L Z b k0 m) (nm2,([],0))):=by
   intro b k0 nm nm2 hb hk0;obtain⟨o1,m1,l1⟩:=Fh (n:=n) (Z:=Z) (E:=E) (P:=P) (b:=b) (m:=m) hL (by omega) hk0;obtain⟨o2,m2,l2⟩:=Fi (n:=n) (L:=L) (Z:=Z) (k:=k0) (m:=m) (by omega) hb;rw[kt hL hk0,BG hb,Jc,Jc,ab (by simp),ab (by simp),l1,l2,Jc,Jc,va (ku hb _)];exact Ao H hn hb hk0 hk0 p2
  rw[rZ hL hk1 (by decide),xa hL hk1 (by decide),Jc,Jc]
  by_cases c1:(aR L (k+1)).1=1
  ·have hlt:=lJ (L:=L) (k:=k+1) (by rw[c1];decide)
   have hk2:k+1+1<=L.length:=by omega
   simp only[c1,if_true];rw[x6 hL hk2,mU hL hk2,Jc,Jc,eI H (by simp[dx])]
   by_cases cp:ib (aR L (k+1+1)) ⟨#[40]⟩=true
   ·obtain⟨hlt2,_,_⟩:=eJ cp
    have hk3:k+1+1+1<=L.length:=by omega
    simp only[cp,if_true];rw[q8 hL hk3,Hu hL hk3,Jc,Jc,eI H (by simp[dx])]
    by_cases cq:ib (aR L (k+1+1+1)) ⟨#[41]⟩=true
    ·obtain⟨hlt3,_,_⟩:=eJ cq
     simp only[cq,if_true];rw[ao (by simp),ao (by simp)];have w:=mU (n:=n) (Z:=Z) (m:=m) hL hk3 ⟨#[41]⟩;rw[cq,ab rfl]at w;show SimS L Z P m (k+1) (Fo n _ _) (HG n P _ _);rw[va w];exact(Dv H hn (by omega) p2 λhm=>⟨hm,H.txt _ (eH hlt),by simp[zg]⟩).up (by omega)
    ·simp only[JK.2 cq,Jt,if_false]
     rw[ab (by simp),ab (by simp)];rcases xe (n:=n) (P:=P) (E:=E) H (by omega) hk3 (m:=m)with⟨a,k',m',e1,e2,h3,h4,h5,h6⟩|⟨a,a',p,k1,m1,k2,m2,e1,e2,h3,h4,h5⟩
     ·obtain⟨r,i1,i2⟩:=lh e2
      rw[e1,i1,Jc,Jc];show SimS L Z P m (k+1) (Fo n _ _) (HG n P _ _);rw[va i2];exact(Dv H hn h4 p2 λhm=>⟨h5 hm,H.txt _ (eH hlt),h6 hm⟩).up (by omega)
     ·obtain⟨r,i1,i2⟩:=lh e2
      rw[e1,i1,Jc,Jc];show SimS L Z P m (k+1) (Fo n _ _) (HG n P _ _);rw[va i2];exact Ao H hn h3 h4 h5 p2
   ·simp only[JK.2 cp,Jt,if_false]
    exact fault _ _ _ _ (eh H _) hk2
  ·simp only[c1,if_false]
   have hb:=eh H (k+1);rw[rY hL hk1,ku hb,Jc,Jc];exact fault _ _ _ _ hb hk1
 ·-- a rule
  simp only[JK.2 cr,Jt,if_false];show SimS L Z P m (k+1) (Dr n (sH L Z k m [] P)) _;rcases Fl H hn hk0 p3 (m:=m)with⟨r,k',m',e1,e2,h3,h4,h5⟩|⟨r,b,k1,m1,E1,P1,k2,m2,e1,e2,h3,h4,h5⟩
  ·rw[e1,e2,Jc,ab (cI p3)]
   refine .inl ⟨_,_,k',m',rfl,rfl,h3,h4,by simp[se];omega,λhm=>?_⟩;obtain⟨q1,q2⟩:=h5 hm;refine⟨q1,λq=>⟨q.1,q.2.1,λx hx=>?_⟩⟩;rcases KC.1 hx with hx|hx
   ·exact q.2.2 x hx
   ·rw[JQ.1 hx];exact q2
  ·rw[e1,e2,Jc,ab (cI p3)]
   exact .inr ⟨b,k1,m1,E1,P1,k2,m2,_,rfl,rfl,h3,h4,h5⟩
end
section
variable {L:List Tk} {Z:Int} {n:Nat}
abbrev P0:PP:=([],([],[]))
abbrev Fq:Type:=PP×Int×Int
def Ap (R:Fq):Prop:=(R.2.2=0/\Fm R.1/\R.1.1.length<=20/\R.1.2.1.length<=20/\R.1.2.2.length<=40)\/(R.2.2≠0/\R.1=P0)
def pS (n:Nat)(t7:RR):Option Fq:=
 if t7.2.2.2.2.1=true then
 some (([],([],[])),t7.2.2.2.1,5)
 else
 (aW.F n t7 (Je t7.2.2.2.2.2.2.2.1:Int) 20).bind λr8=>
 (aW.F n r8 (Je r8.2.2.2.2.2.2.2.2.1:Int) 20).bind λr9=>
 (aW.F n r9 (Je r9.2.2.2.2.2.2.2.2.2:Int) 40).bind λr10=>
 if r10.2.2.2.2.2.1=true then
 some (([],([],[])),0,6)
 else
 some (r10.2.2.2.2.2.2.2,0,0)
def pI (n:Nat)(t8:lY)(t9:PP):Option Fq:=
 if decide (t8.2.2.2.1>=0)=true then
 some (([],([],[])),t8.2.2.2.1,5)
 else
 if t8.2.2.2.2=false then
 if(decide ((Je t9.1:Int)>20))=false then
 if(decide ((Je t9.2.1:Int)>20))=false then
 dv.j1 n (decide ((Je t9.2.2:Int)>40)) ([],([],[])) t9 (λ_=>
 some (t9,0,0))
 else
 dv.j1 n true ([],([],[])) t9 (λ_=>
 some (t9,0,0))
 else
 dv.j1 n true ([],([],[])) t9 (λ_=>
 some (t9,0,0))
 else
 dv.j1 n true ([],([],[])) t9 (λ_=>
 some (t9,0,0))
def Dw (m:Bool)(P:PP):Fq:=if(m||decide ((P.1.length:Int)>20)||decide ((P.2.1.length:Int)>20)||decide ((P.2.2.length:Int)>40))=true then(P0,0,6)else(P,0,0)
theorem Gy {k:Nat}{m:Bool}{E:List Xp}{P:PP}:pS n (sH L Z k m E P)=some (Dw m P):=by
 unfold pS;rw[ao (by simp),lZ,Jc,lZ,Jc,lZ,Jc];unfold Dw;show(if(m||_||_||_)=true then _ else _)=some (if _ then _ else _)
 split<;>rfl
theorem IB {k:Nat}{m:Bool}{P:PP}:pI n (iH L Z k m) P=some (Dw m P):=by
 unfold pI;rw[ao (by simp)];unfold Dw;cases m with
 |true=>rw[ao (by simp)];rfl
 |false=>
  rw[ab rfl]
  by_cases c1:(P.1.length:Int)>20
  ·rw[ao (by simp;omega),iN c1];rfl
  ·rw[ab (by simp;omega),dp c1]
   by_cases c2:(P.2.1.length:Int)>20
   ·rw[ao (by simp;omega),iN c2];rfl
   ·rw[ab (by simp;omega),dp c2]
    unfold dv.j1
    by_cases c3:(P.2.2.length:Int)>40
    ·rw[iN c3];rfl
    ·rw[dp c3];rfl
theorem sf (H:ef L Z)(hn:200000<=n):∀f k m E P,k<=L.length->se P<=k->L.length - k<f->(m=false->Fm P)->
  ∃R,dV.l0 n L P0 (pS n) f (sH L Z k m E P)=some R/\dv.l0 n L P0 (pI n) f (iH L Z k m) P=some R/\Ap R
 |0,k,m,E,P,hk,hP,hf,ho=>by omega
 |f+1,k,m,E,P,hk,hP,hf,ho=>by
  have hL:=H.few;unfold dV.l0 dv.l0;rw[ab (show(!false)=true from rfl)]
  by_cases c:k<L.length
  ·have c':decide ((k:Int)<(L.length:Int))=true:=by simp;omega
   rw[ab c',ab (show decide ((-1:Int)<0)=true by decide),ab c'];rcases Fp (n:=n) (E:=E) (P:=P) (m:=m) H hn c (by omega)with⟨E',P',k',m',e1,e2,h3,h4,h5,h6⟩|⟨b,k1,m1,E1,P1,k2,m2,P2,e1,e2,h3,h4,h5⟩
   ·rw[e1,e2,Jc,Jc]
    exact sf H hn f k' m' E' P' h4 (by omega) (by omega) λhm=>(h6 hm).2 (ho (h6 hm).1)
   ·rw[e1,e2,Jc,Jc]
    obtain⟨g,rfl⟩:∃g,f=g+1:=⟨f - 1,by omega⟩
    refine⟨(P0,b,5),?_,?_,.inr ⟨by simp,rfl⟩⟩
    ·unfold dV.l0
     rw[ao (by simp)]
     rfl
    ·unfold dv.l0
     rw[ao (by simp;omega)];unfold pI;rw[ab (by simp;omega)]
  ·have c':¬decide ((k:Int)<(L.length:Int))=true:=by simp;omega
   rw[ao c',ab (show decide ((-1:Int)<0)=true by decide),ao c',Gy,IB];refine⟨_,rfl,rfl,?_⟩;unfold Dw
   split
   ·exact .inr ⟨by simp,rfl⟩
   ·rename_i h
    simp only[Bool.or_eq_true,db,not_or,Bool.not_eq_true]at h;obtain⟨⟨⟨h1,h2⟩,h3⟩,h4⟩:=h;exact .inl ⟨rfl,ho h1,by simp only;omega,by simp only;omega,by simp only;omega⟩
theorem Dx {s:ByteArray}(H:ef L (s.size:Int))(hn:200000<=n)(h1:az.F n s=some (L,0,0))(h2:cZ.F n s=some (L,0,0)):
  ∃R,dV.F n s=some R/\dv.F n s=some R/\Ap R:=by
 have hL:=H.few;obtain⟨R,e1,e2,e3⟩:=sf (n:=n) H hn n 0 false [] P0 (by omega) (by simp[se]) (by omega) (λ_=>⟨by simp,by simp,by simp⟩);refine⟨R,?_,?_,e3⟩
 ·unfold dV.F
  rw[h1,Jc,ao (by simp)];exact e1
 ·unfold dv.F
  rw[h2,Jc,ao (by simp)];exact e2
theorem BL {s:ByteArray}{L1 L2:List Tk}{p c:Int}(hc:c≠0)(h1:az.F n s=some (L1,p,c))(h2:cZ.F n s=some (L2,p,c)):
  ∃R,dV.F n s=some R/\dv.F n s=some R/\Ap R:=by
 refine⟨(P0,p,c),?_,?_,.inr ⟨hc,rfl⟩⟩
 ·unfold dV.F
  rw[h1,Jc,ab (by simp[hc])]
 ·unfold dv.F
  rw[h2,Jc,ab (by simp[hc])]
end
end Go.Abs
