/- The parsers' programs. Conditions: none. -/
import Derived.Test.YtkelpajcfmghiaaGreatDoorF4
import Derived.Test.YtkelpajcfmghiaaGreatDoorT7
open Bool renaming and_eq_true → Jx,eq_false_iff → JT,false_eq_true → JG,not_false → KY,or_eq_false_iff → Ln,true_and → KB
open ByteArray renaming empty → Jo
open Go.Abs renaming seq → Kk
open Go.IntKind renaming i64 → Js
open List renaming getD_eq_getElem?_getD → Lk,length → Jp,length_cons → Ju,length_nil → Jz,mem_append → KM,mem_singleton → JZ,nil_append → Kv
open Option renaming bind_eq_some_iff → LO,bind_some → Jn
open Option.some renaming injEq → JB
open Prod.mk renaming injEq → JU
namespace Go.Abs
abbrev Tk:Type:=Int×ByteArray×Int
abbrev Xp:Type:=Int×ByteArray×List Int
abbrev Rl:Type:=List Xp×Xp×List Xp
abbrev PP:Type:=List (ByteArray×List (ByteArray×List ByteArray))×List (ByteArray×(List ByteArray)×Int)×List Rl
abbrev RR:Type:=List Tk×Int×Int×Int×Bool×Bool×List Xp×PP
abbrev mg:Type:=List Tk×Int×Int×Int×Bool
def aR (L:List Tk)(k:Nat):Tk:=L.getD k (0,(Jo,0))
def gy (L:List Tk)(Z:Int)(k:Nat):Int:=if k<L.length then(aR L k).2.2 else Z
abbrev sH (L:List Tk)(Z:Int)(k:Nat)(m:Bool)(E:List Xp)(P:PP):RR:=(L,(k:Int),Z,0,false,m,E,P)
abbrev sF (L:List Tk)(Z:Int)(b:Int)(k:Nat)(m:Bool)(E:List Xp)(P:PP):RR:=(L,(k:Int),Z,b,true,m,E,P)
abbrev iH (L:List Tk)(Z:Int)(k:Nat)(m:Bool):mg:=(L,(k:Int),Z,-1,m)
abbrev iF (L:List Tk)(Z:Int)(b:Int)(k:Nat)(m:Bool):mg:=(L,(k:Int),Z,b,m)
def yl (t:Tk)(s:ByteArray):Bool:=(decide (t.1=5)||decide (t.1=1))&&decide (t.2.1=s)
def ig (t:Tk)(s:ByteArray):Bool:=decide (t.1=5)&&decide (t.2.1=s)
def mB (t:Tk)(s:ByteArray):Bool:=decide (t.1=1)&&decide (t.2.1=s)
theorem pH (a b:ByteArray):Kk a b=decide (a=b):=by
 rw[jl a,jl b,ge]
 by_cases h:a.data.toList=b.data.toList
 ·rw[h];simp
 ·have:¬bt a.data.toList=bt b.data.toList:=λe=>h (by have:=congrArg (λx=>x.data.toList) e;simpa[ek]using this)
  rw[dq this,beq_eq_false_iff_ne];exact h
theorem nx {k:Nat}(h:k<=1000000000):IntKind.wrap .i64 ((k:Int)+1)=((k+1:Nat):Int):=by
 rw[aK _ (by omega) (by omega)];omega
theorem Jj {k j:Nat}(h:k<=1000000000)(hj:j<=10):IntKind.wrap .i64 ((k:Int)+(j:Int))=((k+j:Nat):Int):=by
 rw[aK _ (by omega) (by omega)];omega
theorem iZ {L:List Tk}{k:Nat}(h:¬k<L.length):aR L k=(0,(Jo,0)):=by
 unfold aR;rw[Lk,List.getElem?_eq_none (by omega)]
 rfl
section
variable {n:Nat} {L:List Tk} {Z:Int} (hL:L.length<=3000)
include hL in
theorem Ix {b:Int}{f m:Bool}{E:List Xp}{P:PP}{k j:Nat}(hk:k<=L.length)(hj:j<=10):
  bj.F n (L,(k:Int),Z,b,f,m,E,P) (j:Int)=some (if k+j<L.length then aR L (k+j)else(0,(Jo,Z))):=by
 unfold bj.F;simp only[Jj (show k<=1000000000 by omega) hj]
 by_cases h:k+j<L.length
 ·rw[ab (by simp;omega),ab (by omega),ab h]
  rfl
 ·rw[ao (by simp;omega),ao h]
include hL in
theorem oO {b:Int}{f m:Bool}{E:List Xp}{P:PP}{k:Nat}(hk:k<=L.length):
  bj.F n (L,(k:Int),Z,b,f,m,E,P) 0=some (if k<L.length then aR L k else(0,(Jo,Z))):=Ix (j:=0) hL hk (by omega)
include hL in
theorem ug {b:Int}{f m:Bool}{E:List Xp}{P:PP}{k:Nat}(hk:k<=L.length)(s:ByteArray):
  bT.F n (L,(k:Int),Z,b,f,m,E,P) s=some (!f&&yl (aR L k) s):=by
 unfold bT.F;rw[oO hL hk,Jn];cases f with
 |true=>rw[ao (by simp)];rfl
 |false=>
  rw[ab (by simp)];unfold yl
  by_cases h:k<L.length
  ·rw[ab h]
   simp only[pH]
   by_cases c1:(aR L k).1=5
   ·rw[ao (by simp[c1])];simp[c1]
   ·rw[ab (by simp[c1])]
    by_cases c2:(aR L k).1=1
    ·rw[ab (by simp[c2])];simp[c1,c2]
    ·rw[ao (by simp[c2])];simp[c1,c2]
  ·rw[ao h,iZ h]
   rfl
include hL in
theorem DD {m:Bool}{E:List Xp}{P:PP}{k:Nat}(hk:k<=L.length):dd.F n (sH L Z k m E P)=some (sF L Z (gy L Z k) k m E P):=by
 unfold dd.F gy;simp only[KY,if_true];rw[oO hL hk,Jn]
 by_cases h:k<L.length
 ·rw[ab h,ab h]
 ·rw[ao h,ao h]
include hL in
theorem qi {m:Bool}{E:List Xp}{P:PP}{k:Nat}(hk:k<=L.length)(s:ByteArray):aU.F n (sH L Z k m E P) s=some (yl (aR L k) s,sH L Z (if yl (aR L k) s=true then k+1 else k) m E P):=by
 unfold aU.F;rw[ug hL hk,Jn,KY,KB];cases h:yl (aR L k) s with
 |true=>rw[ab rfl,ab rfl];simp only[nx (show k<=1000000000 by omega)]
 |false=>rw[ao (by simp),ao (by simp)]
include hL in
theorem kz {b:Int}{m:Bool}{E:List Xp}{P:PP}{k:Nat}(hk:k<=L.length)(s:ByteArray):aU.F n (sF L Z b k m E P) s=some (false,sF L Z b k m E P):=by
 unfold aU.F;rw[ug hL hk,Jn]
 rfl
include hL in
theorem xw {m:Bool}{E:List Xp}{P:PP}{k:Nat}(hk:k<=L.length)(s:ByteArray):bp.F n (sH L Z k m E P) s=some (if yl (aR L k) s=true then sH L Z (k+1) m E P else sF L Z (gy L Z k) k m E P):=by
 unfold bp.F;rw[qi hL hk,Jn];cases h:yl (aR L k) s with
 |true=>rw[ao (by simp),ab rfl,ab rfl]
 |false=>
  rw[ab (by simp),ao (by simp)];simp only[JG,if_false];rw[DD hL hk,Jn]
include hL in
theorem su {b:Int}{m:Bool}{E:List Xp}{P:PP}{k:Nat}(hk:k<=L.length)(s:ByteArray):bp.F n (sF L Z b k m E P) s=some (sF L Z b k m E P):=by
 unfold bp.F;rw[kz hL hk,Jn]
 rfl
include hL in
theorem sv {m:Bool}{E:List Xp}{P:PP}{k:Nat}(hk:k<=L.length){K:Int}(hK:K≠0):bE.F n (sH L Z k m E P) K=some (if(aR L k).1=K then((aR L k).2.1,sH L Z (k+1) m E P)else(Jo,sF L Z (gy L Z k) k m E P)):=by
 unfold bE.F;rw[oO hL hk,Jn];simp only[if_true]
 by_cases h:k<L.length
 ·simp only[ab h]
  by_cases c:(aR L k).1=K
  ·rw[ao (by simp[c]),ab c]
   simp only[nx (show k<=1000000000 by omega)]
  ·rw[ab (by simp[c]),ao c,DD hL hk,Jn]
 ·simp only[ao h]
  rw[ab (by simp;omega),ao (by rw[iZ h];exact λh=>hK h.symm),DD hL hk,Jn]
include hL in
theorem DE {b:Int}{m:Bool}{E:List Xp}{P:PP}{k:Nat}(hk:k<=L.length){K:Int}:bE.F n (sF L Z b k m E P) K=some (Jo,sF L Z b k m E P):=by
 unfold bE.F;rw[oO hL hk,Jn]
 rfl
theorem mh {b:Int}{f m:Bool}{E:List Xp}{P:PP}{k:Int}{t most:Int}:aW.F n (L,k,Z,b,f,m,E,P) t most=some (L,k,Z,b,f,m||decide (t>most),E,P):=by
 unfold aW.F;cases m with
 |true=>rw[ao (by simp)];rfl
 |false=>rw[ab (by simp)];simp
include hL in
theorem xx {m:Bool}{E:List Xp}{P:PP}{k:Nat}(hk:k<=L.length):bg.F n (sH L Z k m E P)=some (sF L Z (gy L Z k) k m E P):=by
 unfold bg.F gy;simp only[KY,if_true];rw[oO hL hk,Jn]
 by_cases h:k<L.length
 ·rw[ab h,ab h]
 ·rw[ao h,ao h]
theorem HG {b:Int}{m:Bool}{E:List Xp}{P:PP}{k:Nat}:bg.F n (sF L Z b k m E P)=some (sF L Z b k m E P):=rfl
include hL in
theorem mY {m:Bool}{E:List Xp}{P:PP}{k:Nat}(hk:k<=L.length)(s:ByteArray):aB.F n (sH L Z k m E P) s=some (yl (aR L k) s,sH L Z (if yl (aR L k) s=true then k+1 else k) m E P):=by
 unfold aB.F;rw[ug hL hk,Jn,KY,KB];cases h:yl (aR L k) s with
 |true=>rw[ab rfl,ab rfl];simp only[nx (show k<=1000000000 by omega)]
 |false=>rw[ao (by simp),ao (by simp)]
include hL in
theorem mZ {b:Int}{m:Bool}{E:List Xp}{P:PP}{k:Nat}(hk:k<=L.length)(s:ByteArray):aB.F n (sF L Z b k m E P) s=some (false,sF L Z b k m E P):=by
 unfold aB.F;rw[ug hL hk,Jn]
 rfl
include hL in
theorem AE {m:Bool}{E:List Xp}{P:PP}{k:Nat}(hk:k<=L.length)(s:ByteArray):bm.F n (sH L Z k m E P) s=some (if yl (aR L k) s=true then sH L Z (k+1) m E P else sF L Z (gy L Z k) k m E P):=by
 unfold bm.F;rw[mY hL hk,Jn];cases h:yl (aR L k) s with
 |true=>rw[ao (by simp),ab rfl,ab rfl]
 |false=>
  rw[ab (by simp),ao (by simp)];simp only[JG,if_false];rw[xx hL hk,Jn]
include hL in
theorem vv {b:Int}{m:Bool}{E:List Xp}{P:PP}{k:Nat}(hk:k<=L.length)(s:ByteArray):bm.F n (sF L Z b k m E P) s=some (sF L Z b k m E P):=by
 unfold bm.F;rw[mZ hL hk,Jn]
 rfl
include hL in
theorem GG {m:Bool}{E:List Xp}{P:PP}{k:Nat}(hk:k<=L.length){K:Int}(hK:K≠0):de.F n (sH L Z k m E P) K=some (if(aR L k).1=K then((aR L k).2.1,sH L Z (k+1) m E P)else(Jo,sF L Z (gy L Z k) k m E P)):=by
 unfold de.F;rw[oO hL hk,Jn];simp only[if_true]
 by_cases h:k<L.length
 ·simp only[ab h]
  by_cases c:(aR L k).1=K
  ·rw[ao (by simp[c]),ab c]
   simp only[nx (show k<=1000000000 by omega)]
  ·rw[ab (by simp[c]),ao c,xx hL hk,Jn]
 ·simp only[ao h]
  rw[ab (by simp;omega),ao (by rw[iZ h];exact λh=>hK h.symm),xx hL hk,Jn]
theorem zw {b:Int}{f m:Bool}{E:List Xp}{P:PP}{k:Int}{t most:Int}:dl.F n (L,k,Z,b,f,m,E,P) t most=some (L,k,Z,b,f,m||decide (t>most),E,P):=by
 unfold dl.F;cases m with
 |true=>rw[ao (by simp)];rfl
 |false=>rw[ab (by simp)];simp
theorem pJ {b:Int}{f m:Bool}{E:List Xp}{P:PP}{k:Int}{K:Int}{t:ByteArray}{l:List Int}(h:E.length<=100000):bn.F n (L,k,Z,b,f,m,E,P) K t l=some ((E.length:Int),(L,k,Z,b,f,m,E++[(K,(t,l))],P)):=by
 unfold bn.F;simp only[];rw[ab (by simp only[Ju,Jz,aT];omega),aK _ (by omega) (by simp;omega)]
 simp
include hL in
theorem GH {m:Bool}{k j:Nat}(hk:k<=L.length)(hj:j<=10):aY.F n (iH L Z k m) (j:Int)=some (aR L (k+j)):=by
 unfold aY.F;simp only[Jj (show k<=1000000000 by omega) hj];rw[ab (by simp)]
 by_cases h:k+j<L.length
 ·rw[ao (by simp;omega),ab (by omega)]
  rfl
 ·rw[ab (by simp;omega),iZ h]
include hL in
theorem pK {m:Bool}{k:Nat}(hk:k<=L.length):aY.F n (iH L Z k m) 0=some (aR L k):=GH (j:=0) hL hk (by omega)
theorem xy {b:Int}(hb:0<=b){m:Bool}{k:Nat}(j:Int):aY.F n (iF L Z b k m) j=some (0,(Jo,0)):=by
 unfold aY.F;rw[ao (by simp;omega)]
include hL in
theorem HH {m:Bool}{k:Nat}(hk:k<=L.length)(s:ByteArray):bV.F n (iH L Z k m) s=some (ig (aR L k) s):=by
 unfold bV.F ig;rw[pK hL hk,Jn]
 by_cases c:(aR L k).1=5
 ·rw[ab (by simp[c]),pH];simp[c]
 ·rw[ao (by simp[c])];simp[c]
theorem C7 {b:Int}(hb:0<=b){m:Bool}{k:Nat}(s:ByteArray):bV.F n (iF L Z b k m) s=some false:=by
 unfold bV.F;rw[xy hb,Jn]
 rfl
include hL in
theorem nZ {m:Bool}{k:Nat}(hk:k<=L.length)(s:ByteArray):bP.F n (iH L Z k m) s=some (mB (aR L k) s):=by
 unfold bP.F mB;rw[pK hL hk,Jn]
 by_cases c:(aR L k).1=1
 ·rw[ab (by simp[c]),pH];simp[c]
 ·rw[ao (by simp[c])];simp[c]
theorem oP {b:Int}(hb:0<=b){m:Bool}{k:Nat}(s:ByteArray):bP.F n (iF L Z b k m) s=some false:=by
 unfold bP.F;rw[xy hb,Jn]
 rfl
include hL in
theorem xz {m:Bool}{k:Nat}(hk:k<=L.length):aZ.F n (iH L Z k m)=some (iF L Z (gy L Z k) k m):=by
 unfold aZ.F gy;rw[ao (by simp)]
 by_cases h:k<L.length
 ·rw[ab (by simp;omega),ab (show(0:Int)<=(k:Int)/\(k:Int)<(L.length:Int)by omega),ab h]
  rfl
 ·rw[ao (by simp;omega),ao h]
theorem sw {b:Int}(hb:0<=b){m:Bool}{k:Nat}:aZ.F n (iF L Z b k m)=some (iF L Z b k m):=by
 unfold aZ.F;rw[ab (by simp;omega)]
include hL in
theorem jB {m:Bool}{k:Nat}(hk:k<=L.length)(s:ByteArray):aD.F n (iH L Z k m) s=some (ig (aR L k) s,iH L Z (if ig (aR L k) s=true then k+1 else k) m):=by
 unfold aD.F;rw[HH hL hk,Jn];cases h:ig (aR L k) s with
 |true=>rw[ab rfl,ab rfl];simp only[nx (show k<=1000000000 by omega)]
 |false=>rw[ao (by simp),ao (by simp)]
theorem gz {b:Int}(hb:0<=b){m:Bool}{k:Nat}(s:ByteArray):aD.F n (iF L Z b k m) s=some (false,iF L Z b k m):=by
 unfold aD.F;rw[C7 hb,Jn]
 rfl
include hL in
theorem n6 {m:Bool}{k:Nat}(hk:k<=L.length)(s:ByteArray):aA.F n (iH L Z k m) s=some (if ig (aR L k) s=true then iH L Z (k+1) m else iF L Z (gy L Z k) k m):=by
 unfold aA.F;rw[jB hL hk,Jn];cases h:ig (aR L k) s with
 |true=>rw[ao (by simp),ab rfl,ab rfl]
 |false=>
  rw[ab (by simp),ao (by simp)];simp only[JG,if_false];rw[xz hL hk,Jn]
theorem kA {b:Int}(hb:0<=b){m:Bool}{k:Nat}(s:ByteArray):aA.F n (iF L Z b k m) s=some (iF L Z b k m):=by
 unfold aA.F;rw[gz hb,Jn,ab (by simp),sw hb,Jn]
include hL in
theorem xA {m:Bool}{k:Nat}(hk:k<=L.length){K:Int}(hK:K≠0):bR.F n (iH L Z k m) K=some (if(aR L k).1=K then((aR L k).2.1,iH L Z (k+1) m)else(Jo,iF L Z (gy L Z k) k m)):=by
 unfold bR.F;rw[pK hL hk,Jn]
 by_cases c:(aR L k).1=K
 ·rw[ao (by simp[c]),ab c]
  simp only[nx (show k<=1000000000 by omega)]
 ·rw[ab (by simp[c]),ao c,xz hL hk,Jn]
theorem HI {b:Int}(hb:0<=b){m:Bool}{k:Nat}{K:Int}(hK:K≠0):bR.F n (iF L Z b k m) K=some (Jo,iF L Z b k m):=by
 unfold bR.F;rw[xy hb,Jn,ab (by simp;omega),sw hb,Jn]
theorem pL {E:List Xp}{e:Xp}(h:E.length<=100000):br.F n E e=some ((E.length:Int),E++[e]):=by
 unfold br.F;rw[ab (by simp only[Ju,Jz,aT];omega),aK _ (by omega) (by simp;omega)]
 simp
end
def dA:List ByteArray:=[⟨#[58,45]⟩,⟨#[33,61]⟩,⟨#[60,61]⟩,⟨#[40]⟩,⟨#[41]⟩,⟨#[44]⟩,⟨#[46]⟩,⟨#[33]⟩,⟨#[61]⟩,⟨#[60]⟩,⟨#[43]⟩,⟨#[45]⟩,⟨#[42]⟩,⟨#[124]⟩,⟨#[95]⟩]
def lO:List ByteArray:=[⟨#[116,121,112,101]⟩,⟨#[114,101,108]⟩,⟨#[110,117,109,98,101,114]⟩,⟨#[115,121,109,98,111,108]⟩,⟨#[105,110,112,117,116]⟩,⟨#[111,117,116,112,117,116]⟩,⟨#[105,110,108,105,110,101]⟩]
structure er (L:List Tk) (Z:Int):Prop where
 few:L.length<=3000
 zp:0<=Z
 pos:∀t∈L,0<=t.2.2
 txt:∀t∈L,t.2.1.size<=30
 sg:∀t∈L,t.1=1->t.2.1∉dA
 wd:∀t∈L,t.1=5->t.2.1∉lO
 num:∀n,100000<=n->∀s,(s=Jo\/∃t∈L,t.1=3/\t.2.1=s)->∃a b u,bo.F n s=some a/\bO.F n (Js.wrap (0 - a.1))=some u/\iL.F n s=some b/\cJ.F n (Js.wrap (0 - b))=some u/\u.size<=30
section
variable {L:List Tk} {Z:Int} {n:Nat}
theorem eK {k:Nat}(h:k<L.length):aR L k∈L:=by
 unfold aR;rw[Lk,List.getElem?_eq_getElem h,Option.getD_some];exact List.getElem_mem h
theorem lP {k:Nat}(h:(aR L k).1≠0):k<L.length:=by
 rcases Nat.lt_or_ge k L.length with h1|h1
 ·exact h1
 ·exact bH (by rw[iZ (by omega)]) h
theorem eL (H:er L Z){s:ByteArray}(hs:s∈dA)(k:Nat):yl (aR L k) s=ig (aR L k) s:=by
 unfold yl ig
 by_cases c:(aR L k).1=1
 ·have hk:=lP (L:=L) (k:=k) (by rw[c];decide)
  have:=H.sg _ (eK hk) c;have hne:¬(aR L k).2.1=s:=λe=>this (e▸hs)
  simp[hne]
 ·simp[c]
theorem pM (H:er L Z){s:ByteArray}(hs:s∈lO)(k:Nat):yl (aR L k) s=mB (aR L k) s:=by
 unfold yl mB
 by_cases c:(aR L k).1=5
 ·have hk:=lP (L:=L) (k:=k) (by rw[c];decide)
  have:=H.wd _ (eK hk) c;have hne:¬(aR L k).2.1=s:=λe=>this (e▸hs)
  simp[hne]
 ·simp[c]
theorem eM {k:Nat}{s:ByteArray}(h:ig (aR L k) s=true):k<L.length/\(aR L k).1=5/\(aR L k).2.1=s:=by
 unfold ig at h;simp only[Jx,dg]at h;exact⟨lP (by rw[h.1];decide),h.1,h.2⟩
theorem xB {t:Tk}{s:ByteArray}(h:t.2.1≠s):ig t s=false:=by
 unfold ig
 simp[h]
theorem eu (H:er L Z)(k:Nat):0<=gy L Z k:=by
 unfold gy
 split
 ·exact H.pos _ (eK ‹_›)
 ·exact H.zp
def OkE (B:Prop)(m:Bool)(E:List Xp):Prop:=m=false->B/\∀e∈E,e.2.1.size<=30/\e.2.2.length<=6
theorem OkE.app {B:Prop}{m:Bool}{E:List Xp}{e:Xp}(h:OkE B m E)(h1:m=false->e.2.1.size<=30/\e.2.2.length<=6):OkE B m (E++[e]):=by
 intro hm;refine⟨(h hm).1,λx hx=>?_⟩;rcases KM.1 hx with hx|hx
 ·exact(h hm).2 x hx
 ·rw[JZ.1 hx];exact h1 hm
theorem OkE.or {B:Prop}{m c:Bool}{E:List Xp}(h:OkE B m E):OkE B (m||c) E:=by
 intro hm;have:m=false:=by cases m<;>simp_all
 exact h this
def SimX {α:Type}(L:List Tk)(Z:Int)(P:PP)(k:Nat)(m:Bool)(E:List Xp)(Q:Bool->α->Prop)(x:Option (α×RR))(y:Option (α×mg×List Xp)):Prop:=
 (∃a k' m' E',x=some (a,sH L Z k' m' E' P)/\y=some (a,iH L Z k' m',E')/\k<=k'/\k'<=L.length/\E'.length+k<=k'+E.length/\(∀B,OkE B m E->OkE B m' E'/\Q m' a))\/
 (∃a a' b k1 m1 E1 k2 m2 E2,x=some (a,sF L Z b k1 m1 E1 P)/\y=some (a',iF L Z b k2 m2,E2)/\0<=b/\k1<=L.length/\k2<=L.length/\E1.length+k<=k1+E.length/\E2.length+k<=k2+E.length)
theorem SimX.up {α:Type}{P:PP}{k k0:Nat}{m m0:Bool}{E E0:List Xp}{Q:Bool->α->Prop}{x:Option (α×RR)}{y:Option (α×mg×List Xp)}(h:SimX L Z P k m E Q x y)(hk:k0<=k)(he:E.length+k0<=k+E0.length)(ho:∀B,OkE B m0 E0->OkE B m E):SimX L Z P k0 m0 E0 Q x y:=by
 rcases h with⟨a,k',m',E',h1,h2,h3,h4,h5,h6⟩|⟨a,a',b,k1,m1,E1,k2,m2,E2,e1,e2,h3,h4,h5,h6,h7⟩
 ·exact .inl ⟨a,k',m',E',h1,h2,by omega,h4,by omega,λB h=>h6 B (ho B h)⟩
 ·exact .inr ⟨a,a',b,k1,m1,E1,k2,m2,E2,e1,e2,h3,h4,h5,by omega,by omega⟩
abbrev qT:Bool->Int->Prop:=λ_ _=>True
def qL {α:Type}:Bool->List α->Prop:=λm o=>m=false->o.length<=6
abbrev FG (n:Nat):=ak.l0 n (ae.F n) (af.F n) (ak.F n) (aj.F n)
abbrev FH (n:Nat):=ai.l0 n (ac.F n) (aa.F n) (ai.F n) (ag.F n)
abbrev DF (n:Nat):=af.l0 n (ae.F n) (af.F n) (ak.F n) (aj.F n)
abbrev DG (n:Nat):=aa.l0 n (ac.F n) (aa.F n) (ai.F n) (ag.F n)
abbrev FI (n:Nat):=ae.l0 n (ae.F n) (af.F n) (ak.F n) (aj.F n)
abbrev FJ (n:Nat):=ac.l0 n (ac.F n) (aa.F n) (ai.F n) (ag.F n)
theorem HJ (hL:L.length<=3000){b:Int}{k:Nat}{m:Bool}{E:List Xp}{P:PP}(hk:k<=L.length):aj.F (n+1) (sF L Z b k m E P)=some (0,sF L Z b k m E P):=by
 show aj.G n (ae.F n) (af.F n) (ak.F n) (aj.F n) (sF L Z b k m E P)=_;unfold aj.G;rw[oO hL hk,Jn,ab rfl]
theorem zx (hL:L.length<=3000){b:Int}{k:Nat}{m:Bool}{E:List Xp}{P:PP}(hk:k<=L.length){K}(f:Nat)(a:Int):FG n K (f+1) a (sF L Z b k m E P)=K a (sF L Z b k m E P):=by
 unfold FG ak.l0;rw[mZ hL hk,Jn,ao (by simp)]
theorem HK (hL:L.length<=3000){b:Int}{k:Nat}{m:Bool}{E:List Xp}{P:PP}(hk:k<=L.length):ak.F (n+2) (sF L Z b k m E P)=some (0,sF L Z b k m E P):=by
 show ak.G (n+1) (ae.F (n+1)) (af.F (n+1)) (ak.F (n+1)) (aj.F (n+1)) (sF L Z b k m E P)=_;unfold ak.G;rw[HJ hL hk,Jn];exact zx hL hk _ _
theorem DH (hL:L.length<=3000){b:Int}{k:Nat}{m:Bool}{E:List Xp}{P:PP}(hk:k<=L.length){K}(f:Nat)(a:Int):DF n K (f+1) a (sF L Z b k m E P)=K a (sF L Z b k m E P):=by
 unfold DF af.l0;rw[ug hL hk,Jn,ug hL hk,Jn]
 rfl
theorem Iy (hL:L.length<=3000){b:Int}{k:Nat}{m:Bool}{E:List Xp}{P:PP}(hk:k<=L.length):af.F (n+3) (sF L Z b k m E P)=some (0,sF L Z b k m E P):=by
 show af.G (n+2) (ae.F (n+2)) (af.F (n+2)) (ak.F (n+2)) (aj.F (n+2)) (sF L Z b k m E P)=_;unfold af.G;rw[HK hL hk,Jn];exact DH hL hk _ _
theorem zy (hL:L.length<=3000){b:Int}{k:Nat}{m:Bool}{E:List Xp}{P:PP}(hk:k<=L.length){K}(f:Nat)(o:List Int):FI n K (f+1) (sF L Z b k m E P) o=K (sF L Z b k m E P) o:=by
 unfold FI ae.l0;rw[mZ hL hk,Jn,ao (by simp)]
theorem HL {b:Int}(hb:0<=b){k:Nat}{m:Bool}{E:List Xp}:ag.F (n+1) (iF L Z b k m) E=some (0,iF L Z b k m,E):=by
 show ag.G n (ac.F n) (aa.F n) (ai.F n) (ag.F n) (iF L Z b k m) E=_;unfold ag.G;rw[xy hb,Jn,ab (by simp)];unfold ag.j0;rw[ao (by simp),ao (by simp),gz hb,Jn,ao (by simp),gz hb,Jn,ao (by simp),ao (by simp),gz hb,Jn,ao (by simp)];show(aZ.F n (iF L Z b k m)).bind _=_;rw[sw hb,Jn]
theorem zz {b:Int}(hb:0<=b){k:Nat}{m:Bool}{E:List Xp}{K}(f:Nat)(a:Int):FH n K (f+1) a (iF L Z b k m) E=K a (iF L Z b k m) E:=by
 unfold FH ai.l0;rw[gz hb,Jn,ao (by simp)]
theorem HM {b:Int}(hb:0<=b){k:Nat}{m:Bool}{E:List Xp}:ai.F (n+2) (iF L Z b k m) E=some (0,iF L Z b k m,E):=by
 show ai.G (n+1) (ac.F (n+1)) (aa.F (n+1)) (ai.F (n+1)) (ag.F (n+1)) (iF L Z b k m) E=_;unfold ai.G;rw[HL hb,Jn];exact zz hb _ _
theorem DI {b:Int}(hb:0<=b){k:Nat}{m:Bool}{E:List Xp}{K}(f:Nat)(a:Int):DG n K (f+1) a (iF L Z b k m) E=K a (iF L Z b k m) E:=by
 unfold DG aa.l0;rw[C7 hb,Jn,C7 hb,Jn]
 rfl
theorem Iz {b:Int}(hb:0<=b){k:Nat}{m:Bool}{E:List Xp}:aa.F (n+3) (iF L Z b k m) E=some (0,iF L Z b k m,E):=by
 show aa.G (n+2) (ac.F (n+2)) (aa.F (n+2)) (ai.F (n+2)) (ag.F (n+2)) (iF L Z b k m) E=_;unfold aa.G;rw[HM hb,Jn];exact DI hb _ _
theorem zA {b:Int}(hb:0<=b){k:Nat}{m:Bool}{E:List Xp}{K}(f:Nat)(o:List Int):FJ n K (f+1) (iF L Z b k m) E o=K (iF L Z b k m) E o:=by
 unfold FJ ac.l0;rw[gz hb,Jn,ao (by simp)]
def AF (L:List Tk)(Z:Int)(n:Nat):Prop:=∀k m E P,k<=L.length->E.length<=k->4*(L.length - k)+100002<=n->SimX L Z P k m E qT (aj.F n (sH L Z k m E P)) (ag.F n (iH L Z k m) E)
def AG (L:List Tk)(Z:Int)(n:Nat):Prop:=∀k m E P,k<=L.length->E.length<=k->4*(L.length - k)+100003<=n->SimX L Z P k m E qT (ak.F n (sH L Z k m E P)) (ai.F n (iH L Z k m) E)
def DJ (L:List Tk)(Z:Int)(n:Nat):Prop:=∀k m E P,k<=L.length->E.length<=k->4*(L.length - k)+100004<=n->SimX L Z P k m E qT (af.F n (sH L Z k m E P)) (aa.F n (iH L Z k m) E)
def AH (n:Nat)(p:mg)(E:List Xp):Option (List Int×mg×List Xp):=(ac.F n p E).bind λr=>(aA.F n r.2.1 ⟨#[41]⟩).bind λw=>some (r.1,w,r.2.2)
def GI (L:List Tk)(Z:Int)(n:Nat):Prop:=∀k m E P,k<=L.length->E.length<=k->4*(L.length - k)+100005<=n->
 SimX L Z P k m E qL (ae.F n (sH L Z k m E P)) (AH n (iH L Z k m) E)
theorem mi {p p':mg}{E E':List Xp}{a:List Int}(h:AH n p E=some (a,p',E')):∃r,ac.F n p E=some (a,r,E')/\aA.F n r ⟨#[41]⟩=some p':=by
 unfold AH at h;obtain⟨r,h1,h2⟩:=LO.1 h;obtain⟨w,h3,h4⟩:=LO.1 h2;simp only[JB,JU]at h4;obtain⟨q1,q2,q3⟩:=h4;subst q2;refine⟨r.2.1,?_,h3⟩;rw[h1,← q1,← q3]
theorem C8 (H:er L Z)(hl:GI L Z n)(he:DJ L Z n):AF L Z (n+1):=by
 intro k m E P hk hE hn;have hL:=H.few;have hn0:100001<=n:=by omega
 show SimX L Z P k m E qT (aj.G n (ae.F n) (af.F n) (ak.F n) (aj.F n) (sH L Z k m E P))
  (ag.G n (ac.F n) (aa.F n) (ai.F n) (ag.F n) (iH L Z k m) E)
 unfold aj.G ag.G;rw[oO hL hk,pK hL hk,Jn,Jn,ao (by simp)];obtain⟨r,hr⟩:∃r:Tk,r=if k<L.length then aR L k else(0,(Jo,Z)):=⟨_,rfl⟩
 have r1:r.1=(aR L k).1:=by rw[hr];split;·rfl
                   ·rw[iZ ‹_›]
 have r2:r.2.1=(aR L k).2.1:=by rw[hr];split;·rfl
                     ·rw[iZ ‹_›]
 rw[← hr];have bG:=λ(s:ByteArray) (hs:s∈dA)=>eL H hs k
 by_cases c3:(aR L k).1=3\/(aR L k).1=4
 ·-- a number,a text
  have hlt:=lP (L:=L) (k:=k) (by rcases c3 with h|h<;>rw[h]<;>decide);refine .inl ⟨(E.length:Int),k+1,m,E++[(3,((aR L k).2.1,[]))],?_,?_,by omega,by omega,by simp;omega,λB h=>⟨h.app λ_=>⟨H.txt _ (eK hlt),by simp⟩,trivial⟩⟩
  ·rcases c3 with h|h
   ·rw[ao (by simp[r1,h])]
    unfold aj.j0;rw[ab rfl,r2];simp only[nx (show k<=1000000000 by omega)];rw[pJ (by omega),Jn]
   ·rw[ab (by simp[r1,h])]
    unfold aj.j0;rw[ab (by simp[r1,h]),r2];simp only[nx (show k<=1000000000 by omega)];rw[pJ (by omega),Jn]
  ·rcases c3 with h|h
   ·rw[ao (by simp[h])]
    unfold ag.j0;rw[ab rfl,pL (by omega),Jn];simp only[nx (show k<=1000000000 by omega)]
   ·rw[ab (by simp[h])]
    unfold ag.j0;rw[ab (by simp[h]),pL (by omega),Jn];simp only[nx (show k<=1000000000 by omega)]
 have c3':¬(aR L k).1=3:=λh=>c3 (.inl h)
 have c4':¬(aR L k).1=4:=λh=>c3 (.inr h)
 rw[ab (by simp[r1,c3']),ab (by simp[c3'])];unfold aj.j0 ag.j0;rw[ao (by simp[r1,c4']),ao (by simp[c4']),mY hL hk,Jn,bG _ (by simp[dA]),r1,r2]
 by_cases cm:ig (aR L k) ⟨#[45]⟩=true
 ·-- a minus sign
  obtain⟨hlt,g5,gt⟩:=eM cm;have hu:ig (aR L k) ⟨#[95]⟩=false:=xB (by rw[gt];decide);simp only[cm,if_true];rw[ao (by simp[g5]),jB hL hk,Jn,hu,ao (by simp)];simp only[JG,if_false];rw[jB hL hk,Jn,cm,ab rfl];simp only[if_true];rw[GG hL (show k+1<=L.length by omega) (by decide),xA hL (show k+1<=L.length by omega) (by decide),Jn,Jn]
  by_cases cw:(aR L (k+1)).1=3
  ·have hlt2:=lP (L:=L) (k:=k+1) (by rw[cw];decide)
   obtain⟨a,b,u,n1,n2,n3,n4,n5⟩:=H.num n (by omega) (aR L (k+1)).2.1 (.inr ⟨_,eK hlt2,cw,rfl⟩);simp only[cw,if_true];refine .inl ⟨(E.length:Int),k+1+1,m,E++[(3,(u,[]))],?_,?_,by omega,by omega,by simp;omega,λB h=>⟨h.app λ_=>⟨n5,by simp⟩,trivial⟩⟩
   ·rw[n1,Jn,n2,Jn,pJ (by omega),Jn]
   ·rw[n3,Jn,n4,Jn,pL (by omega),Jn]
  ·obtain⟨a,b,u,n1,n2,n3,n4,n5⟩:=H.num n (by omega) Jo (.inl rfl)
   simp only[cw,if_false];refine .inr ⟨(E.length:Int),(E.length:Int),gy L Z (k+1),k+1,m,E++[(3,(u,[]))],k+1,m,E++[(3,(u,[]))],?_,?_,eu H _,by omega,by omega,by simp;omega,by simp;omega⟩
   ·rw[n1,Jn,n2,Jn,pJ (by omega),Jn]
   ·rw[n3,Jn,n4,Jn,pL (by omega),Jn]
 rw[JT.2 cm,ao (by simp)];simp only[JG,if_false]
 by_cases c1:(aR L k).1=1
 ·-- a variable
  have hlt:=lP (L:=L) (k:=k) (by rw[c1];decide);rw[ab (by simp[c1]),ab (by simp[c1])];refine .inl ⟨(E.length:Int),k+1,m,E++[(1,((aR L k).2.1,[]))],?_,?_,by omega,by omega,by simp;omega,λB h=>⟨h.app λ_=>⟨H.txt _ (eK hlt),by simp⟩,trivial⟩⟩
  ·simp only[nx (show k<=1000000000 by omega)]
   rw[pJ (by omega),Jn]
  ·rw[pL (by omega),Jn]
   simp only[nx (show k<=1000000000 by omega)]
 rw[ao (by simp[c1]),ao (by simp[c1]),mY hL hk,Jn,jB hL hk,Jn,bG _ (by simp[dA])]
 by_cases cu:ig (aR L k) ⟨#[95]⟩=true
 ·-- an underscore
  obtain⟨hlt,g5,gt⟩:=eM cu;simp only[cu,if_true];refine .inl ⟨(E.length:Int),k+1,m,E++[(2,(Jo,[]))],?_,?_,by omega,by omega,by simp;omega,λB h=>⟨h.app λ_=>⟨by simp,by simp⟩,trivial⟩⟩
  ·rw[pJ (by omega),Jn]
  ·rw[pL (by omega),Jn]
 simp only[JT.2 cu,JG,if_false];rw[jB hL hk,Jn];simp only[JT.2 cm,JG,if_false]
 by_cases c2:(aR L k).1=2
 ·-- a constructor
  have hlt:=lP (L:=L) (k:=k) (by rw[c2];decide);rw[ab (by simp[c2]),ab (by simp[c2])];simp only[nx (show k<=1000000000 by omega)];rw[mY hL (show k+1<=L.length by omega),jB hL (show k+1<=L.length by omega),Jn,Jn,eL H (by simp[dA]) (k+1)]
  by_cases cp:ig (aR L (k+1)) ⟨#[40]⟩=true
  ·obtain⟨hlt2,_,_⟩:=eM cp
   simp only[cp,if_true];rcases hl (k+1+1) m E P (by omega) (by omega) (by omega)with⟨a,k',m',E',e1,e2,h3,h4,h5,h8⟩|⟨a,a',b,k1,m1,E1,k2,m2,E2,e1,e2,h3,h4,h5,h6,h7⟩
   ·obtain⟨r,i1,i2⟩:=mi e2
    refine .inl ⟨(E'.length:Int),k',m',E'++[(4,((aR L k).2.1,a))],?_,?_,by omega,h4,by simp;omega,λB h=>⟨(h8 B h).1.app λhm=>⟨H.txt _ (eK hlt),(h8 B h).2 hm⟩,trivial⟩⟩
    ·rw[e1,Jn,pJ (by omega),Jn]
    ·rw[i1,Jn,i2,Jn,pL (E:=E') (by omega),Jn]
   ·obtain⟨r,i1,i2⟩:=mi e2
    refine .inr ⟨(E1.length:Int),(E2.length:Int),b,k1,m1,E1++[(4,((aR L k).2.1,a))],k2,m2,E2++[(4,((aR L k).2.1,a'))],?_,?_,h3,h4,h5,by simp;omega,by simp;omega⟩
    ·rw[e1,Jn,pJ (by omega),Jn]
    ·rw[i1,Jn,i2,Jn,pL (E:=E2) (by omega),Jn]
  ·simp only[JT.2 cp,JG,if_false]
   refine .inl ⟨(E.length:Int),k+1,m,E++[(4,((aR L k).2.1,[]))],?_,?_,by omega,by omega,by simp;omega,λB h=>⟨h.app λ_=>⟨H.txt _ (eK hlt),by simp⟩,trivial⟩⟩
   ·rw[pJ (by omega),Jn]
   ·rw[pL (by omega),Jn]
 rw[ao (by simp[c2]),ao (by simp[c2]),mY hL hk,jB hL hk,Jn,Jn,bG _ (by simp[dA])]
 by_cases cp:ig (aR L k) ⟨#[40]⟩=true
 ·obtain⟨hlt,_,_⟩:=eM cp
  simp only[cp,if_true];rcases he (k+1) m E P (by omega) (by omega) (by omega)with⟨a,k',m',E',e1,e2,h3,h4,h5,h8⟩|⟨a,a',b,k1,m1,E1,k2,m2,E2,e1,e2,h3,h4,h5,h6,h7⟩
  ·rw[e1,e2,Jn,Jn,AE hL h4,n6 hL h4,Jn,Jn,eL H (by simp[dA])]
   by_cases cq:ig (aR L k') ⟨#[41]⟩=true
   ·obtain⟨hlt2,_,_⟩:=eM cq
    simp only[cq,if_true];exact .inl ⟨a,k'+1,m',E',rfl,rfl,by omega,by omega,by omega,h8⟩
   ·simp only[JT.2 cq,JG,if_false]
    exact .inr ⟨a,a,gy L Z k',k',m',E',k',m',E',rfl,rfl,eu H _,h4,h4,by omega,by omega⟩
  ·rw[e1,e2,Jn,Jn,vv hL h4,kA h3,Jn,Jn]
   exact .inr ⟨a,a',b,k1,m1,E1,k2,m2,E2,rfl,rfl,h3,h4,h5,by omega,by omega⟩
 ·simp only[JT.2 cp,JG,if_false]
  refine .inr ⟨0,0,gy L Z k,k,m,E,k,m,E,?_,?_,eu H _,hk,hk,by omega,by omega⟩
  ·show(bg.F n (sH L Z k m E P)).bind _=_
   rw[xx hL hk,Jn]
  ·show(aZ.F n (iH L Z k m)).bind _=_
   rw[xz hL hk,Jn]
end
section
variable {L:List Tk} {Z:Int} {n:Nat}
theorem uh (H:er L Z)(hp:AF L Z n)(P:PP):∀f k m E a,k<=L.length->E.length<=k->4*(L.length - k)+100002<=n->L.length - k<f->
  SimX L Z P k m E qT (FG n (λt r=>some (t,r)) f a (sH L Z k m E P)) (FH n (λt p r=>some (t,p,r)) f a (iH L Z k m) E)
 |0,k,m,E,a,hk,hE,hn,hf=>by omega
 |f+1,k,m,E,a,hk,hE,hn,hf=>by
  have hL:=H.few;unfold FG FH ak.l0 ai.l0;rw[mY hL hk,jB hL hk,Jn,Jn,eL H (by simp[dA])]
  by_cases c:ig (aR L k) ⟨#[42]⟩=true
  ·obtain⟨hlt,_,_⟩:=eM c
   simp only[c,if_true];rcases hp (k+1) m E P (by omega) (by omega) (by omega)with⟨b,k',m',E',e1,e2,h3,h4,h5,h8⟩|⟨b,b',p,k1,m1,E1,k2,m2,E2,e1,e2,h3,h4,h5,h6,h7⟩
   ·rw[e1,e2,Jn,Jn]
    rw[pJ (by omega),pL (E:=E') (by omega),Jn,Jn];exact(uh H hp P f k' m' _ _ h4 (by simp;omega) (by omega) (by omega)).up (by omega) (by simp;omega) λB h=>(h8 B h).1.app λ_=>⟨by simp,by simp⟩
   ·rw[e1,e2,Jn,Jn]
    rw[pJ (by omega),pL (E:=E2) (by omega),Jn,Jn];obtain⟨g,rfl⟩:∃g,f=g+1:=⟨f - 1,by omega⟩
    refine .inr ⟨_,_,p,k1,m1,_,k2,m2,_,zx hL h4 g _,zz h3 g _,h3,h4,h5,by simp;omega,by simp;omega⟩
  ·simp only[JT.2 c,JG,if_false]
   exact .inl ⟨a,k,m,E,rfl,rfl,by omega,hk,by omega,λB h=>⟨h,trivial⟩⟩
theorem C9 (H:er L Z)(hp:AF L Z n):AG L Z (n+1):=by
 intro k m E P hk hE hn;have hL:=H.few;show SimX L Z P k m E qT (ak.G n (ae.F n) (af.F n) (ak.F n) (aj.F n) (sH L Z k m E P))
  (ai.G n (ac.F n) (aa.F n) (ai.F n) (ag.F n) (iH L Z k m) E)
 unfold ak.G ai.G;rcases hp k m E P hk hE (by omega)with⟨b,k',m',E',e1,e2,h3,h4,h5,h8⟩|⟨b,b',p,k1,m1,E1,k2,m2,E2,e1,e2,h3,h4,h5,h6,h7⟩
 ·rw[e1,e2,Jn,Jn]
  exact(uh H hp P n k' m' E' b h4 (by omega) (by omega) (by omega)).up (by omega) (by omega) λB h=>(h8 B h).1
 ·rw[e1,e2,Jn,Jn]
  obtain⟨g,rfl⟩:∃g,n=g+1:=⟨n - 1,by omega⟩
  exact .inr ⟨_,_,p,k1,m1,_,k2,m2,_,zx hL h4 g _,zz h3 g _,h3,h4,h5,by omega,by omega⟩
theorem xC (H:er L Z)(hp:AG L Z n)(P:PP):∀f k m E a,k<=L.length->E.length<=k->4*(L.length - k)+100003<=n->L.length - k<f->
  SimX L Z P k m E qT (DF n (λt r=>some (t,r)) f a (sH L Z k m E P)) (DG n (λt p r=>some (t,p,r)) f a (iH L Z k m) E)
 |0,k,m,E,a,hk,hE,hn,hf=>by omega
 |f+1,k,m,E,a,hk,hE,hn,hf=>by
  have hL:=H.few;unfold DF DG af.l0 aa.l0;rw[ug hL hk,HH hL hk,Jn,Jn,eL H (by simp[dA])];have main:∀K:Int,(aR L k).1=5->SimX L Z P k m E qT
    (af.j2 n (ae.F n) (af.F n) (ak.F n) (aj.F n) a K (sH L Z k m E P) (λt r=>DF n (λt r=>some (t,r)) f t r))
    (aa.j2 n (ac.F n) (aa.F n) (ai.F n) (ag.F n) a K (iH L Z k m) E (λt p r=>DG n (λt p r=>some (t,p,r)) f t p r)):=by
   intro K g5;have hlt:=lP (L:=L) (k:=k) (by rw[g5];decide);unfold af.j2 aa.j2;simp only[nx (show k<=1000000000 by omega)];rcases hp (k+1) m E P (by omega) (by omega) (by omega)with⟨b,k',m',E',e1,e2,h3,h4,h5,h8⟩|⟨b,b',p,k1,m1,E1,k2,m2,E2,e1,e2,h3,h4,h5,h6,h7⟩
   ·rw[e1,e2,Jn,Jn]
    rw[pJ (by omega),pL (E:=E') (by omega),Jn,Jn];exact(xC H hp P f k' m' _ _ h4 (by simp;omega) (by omega) (by omega)).up (by omega) (by simp;omega) λB h=>(h8 B h).1.app λ_=>⟨by simp,by simp⟩
   ·rw[e1,e2,Jn,Jn]
    rw[pJ (by omega),pL (E:=E2) (by omega),Jn,Jn];obtain⟨g,rfl⟩:∃g,f=g+1:=⟨f - 1,by omega⟩
    refine .inr ⟨_,_,p,k1,m1,_,k2,m2,_,DH hL h4 g _,DI h3 g _,h3,h4,h5,by simp;omega,by simp;omega⟩
  by_cases c:ig (aR L k) ⟨#[43]⟩=true
  ·obtain⟨hlt,g5,gt⟩:=eM c
   have c2:ig (aR L k) ⟨#[45]⟩=false:=xB (by rw[gt];decide);rw[c,ao (by simp),ao (by simp)];unfold af.j1 aa.j1;rw[ug hL hk,HH hL hk,Jn,Jn,eL H (by simp[dA]),c2,ao (by simp),ao (by simp)];exact main 5 g5
  ·rw[JT.2 c,ab (by simp),ab rfl,ug hL hk,HH hL hk,Jn,Jn,eL H (by simp[dA])]
   by_cases c2:ig (aR L k) ⟨#[45]⟩=true
   ·obtain⟨hlt,g5,gt⟩:=eM c2
    rw[c2,ab (by simp),ab (by simp)];unfold af.j1 aa.j1;rw[ug hL hk,HH hL hk,Jn,Jn,eL H (by simp[dA]),c2,ab (by simp),ab (by simp)];exact main 6 g5
   ·rw[JT.2 c2,ao (by simp),ao (by simp)]
    exact .inl ⟨a,k,m,E,rfl,rfl,by omega,hk,by omega,λB h=>⟨h,trivial⟩⟩
theorem DK (H:er L Z)(hp:AG L Z n):DJ L Z (n+1):=by
 intro k m E P hk hE hn;have hL:=H.few;show SimX L Z P k m E qT (af.G n (ae.F n) (af.F n) (ak.F n) (aj.F n) (sH L Z k m E P))
  (aa.G n (ac.F n) (aa.F n) (ai.F n) (ag.F n) (iH L Z k m) E)
 unfold af.G aa.G;rcases hp k m E P hk hE (by omega)with⟨b,k',m',E',e1,e2,h3,h4,h5,h8⟩|⟨b,b',p,k1,m1,E1,k2,m2,E2,e1,e2,h3,h4,h5,h6,h7⟩
 ·rw[e1,e2,Jn,Jn]
  exact(xC H hp P n k' m' E' b h4 (by omega) (by omega) (by omega)).up (by omega) (by omega) λB h=>(h8 B h).1
 ·rw[e1,e2,Jn,Jn]
  obtain⟨g,rfl⟩:∃g,n=g+1:=⟨n - 1,by omega⟩
  exact .inr ⟨_,_,p,k1,m1,_,k2,m2,_,DH hL h4 g _,DI h3 g _,h3,h4,h5,by omega,by omega⟩
def IS (r:RR)(o:List Int)(n:Nat):Option (List Int×RR):=
 (bm.F n r ⟨#[41]⟩).bind λr9=>(dl.F n r9 (Jp o:Int) 6).bind λr10=>some (o,r10)
def IT (p:mg)(r:List Xp)(o:List Int):Option (List Int×mg×List Xp):=
 if p.2.2.2.2=false then
 some (o,(p.1,(p.2.1,(p.2.2.1,(p.2.2.2.1,decide ((Jp o:Int)>6))))),r)
 else
 some (o,(p.1,(p.2.1,(p.2.2.1,(p.2.2.2.1,true)))),r)
theorem zB {b:Int}{k:Nat}{m:Bool}{r:List Xp}{o:List Int}:IT (iF L Z b k m) r o=some (o,iF L Z b k (m||decide ((Jp o:Int)>6)),r):=by
 unfold IT;cases m<;>simp
theorem DL (hL:L.length<=3000){b:Int}{k:Nat}{m:Bool}{E:List Xp}{P:PP}(hk:k<=L.length){o:List Int}:IS (sF L Z b k m E P) o n=some (o,sF L Z b k (m||decide ((Jp o:Int)>6)) E P):=by
 unfold IS;rw[vv hL hk,Jn,zw,Jn]
def n7 (n:Nat)(x:Option (List Int×mg×List Xp)):Option (List Int×mg×List Xp):=x.bind λr=>(aA.F n r.2.1 ⟨#[41]⟩).bind λw=>some (r.1,w,r.2.2)
theorem GJ {n0:Nat}{b:Int}(hb:0<=b){k:Nat}{m:Bool}{r:List Xp}{o:List Int}:n7 n0 (IT (iF L Z b k m) r o)=some (o,iF L Z b k (m||decide ((Jp o:Int)>6)),r):=by
 rw[zB];unfold n7;rw[Jn,kA hb,Jn]
theorem GK {α:Type}{m:Bool}{o:List α}:qL (m||decide ((Jp o:Int)>6)) o:=by
 intro h;simp only[Ln,vJ]at h;omega
theorem ui {n0:Nat}(H:er L Z)(hp:DJ L Z n)(P:PP):∀f k m E o,k<=L.length->E.length<=k->4*(L.length - k)+100004<=n->L.length - k<f->o.length+(L.length - k)<=10000->
  SimX L Z P k m E qL (FI n (λr o=>IS r o n) f (sH L Z k m E P) o) (n7 n0 (FJ n IT f (iH L Z k m) E o))
 |0,k,m,E,o,hk,hE,hn,hf,ho=>by omega
 |f+1,k,m,E,o,hk,hE,hn,hf,ho=>by
  have hL:=H.few;unfold FI FJ ae.l0 ac.l0;rw[mY hL hk,jB hL hk,Jn,Jn,eL H (by simp[dA])]
  by_cases c:ig (aR L k) ⟨#[44]⟩=true
  ·obtain⟨hlt,_,_⟩:=eM c
   simp only[c,if_true];rcases hp (k+1) m E P (by omega) (by omega) (by omega)with⟨b,k',m',E',e1,e2,h3,h4,h5,h8⟩|⟨b,b',p,k1,m1,E1,k2,m2,E2,e1,e2,h3,h4,h5,h6,h7⟩
   ·rw[e1,e2,Jn,Jn,ab (by simp only[Ju,Jz,aT];omega),ab (by simp only[Ju,Jz,aT];omega)]
    exact(ui H hp P f k' m' E' _ h4 (by omega) (by omega) (by omega) (by simp;omega)).up (by omega) (by omega) λB h=>(h8 B h).1
   ·rw[e1,e2,Jn,Jn,ab (by simp only[Ju,Jz,aT];omega),ab (by simp only[Ju,Jz,aT];omega)]
    obtain⟨g,rfl⟩:∃g,f=g+1:=⟨f - 1,by omega⟩
    exact .inr ⟨o++[b],o++[b'],p,k1,_,E1,k2,_,E2,(zy hL h4 g _).trans (DL hL h4),(congrArg (n7 n0) (zA h3 g _)).trans (GJ h3),h3,h4,h5,by omega,by omega⟩
  ·simp only[JT.2 c,JG,if_false]
   rw[zB];unfold IS n7;rw[AE hL hk,Jn,Jn,n6 hL hk,eL H (by simp[dA])]
   by_cases cq:ig (aR L k) ⟨#[41]⟩=true
   ·obtain⟨hlt,_,_⟩:=eM cq
    simp only[cq,if_true];rw[zw];exact .inl ⟨o,k+1,_,E,rfl,rfl,by omega,by omega,by omega,λB h=>⟨h.or,GK⟩⟩
   ·simp only[JT.2 cq,JG,if_false]
    rw[zw];exact .inr ⟨o,o,gy L Z k,k,_,E,k,_,E,rfl,rfl,eu H _,hk,hk,by omega,by omega⟩
theorem Ca {n0:Nat}(H:er L Z)(hp:DJ L Z n)(k m E P)(hk:k<=L.length)(hE:E.length<=k)(hn:4*(L.length - k)+100004<=n):
  SimX L Z P k m E qL (ae.F (n+1) (sH L Z k m E P)) (n7 n0 (ac.F (n+1) (iH L Z k m) E)):=by
 have hL:=H.few;show SimX L Z P k m E qL (ae.G n (ae.F n) (af.F n) (ak.F n) (aj.F n) (sH L Z k m E P))
  (n7 n0 (ac.G n (ac.F n) (aa.F n) (ai.F n) (ag.F n) (iH L Z k m) E))
 unfold ae.G ac.G;rcases hp k m E P hk hE (by omega)with⟨b,k',m',E',e1,e2,h3,h4,h5,h8⟩|⟨b,b',p,k1,m1,E1,k2,m2,E2,e1,e2,h3,h4,h5,h6,h7⟩
 ·rw[e1,e2,Jn,Jn]
  exact(ui H hp P n k' m' E' [b] h4 (by omega) (by omega) (by omega) (by simp;omega)).up (by omega) (by omega) λB h=>(h8 B h).1
 ·rw[e1,e2,Jn,Jn]
  obtain⟨g,rfl⟩:∃g,n=g+1:=⟨n - 1,by omega⟩
  exact .inr ⟨[b],[b'],p,k1,_,E1,k2,_,E2,(zy hL h4 g _).trans (DL hL h4),(congrArg (n7 n0) (zA h3 g _)).trans (GJ h3),h3,h4,h5,by omega,by omega⟩
theorem sx (H:er L Z):∀n,AF L Z n/\AG L Z n/\DJ L Z n/\GI L Z n
 |0=>⟨λk m E P _ _ h=>by omega,λk m E P _ _ h=>by omega,λk m E P _ _ h=>by omega,λk m E P _ _ h=>by omega⟩
 |n+1=>by
  obtain⟨h1,h2,h3,h4⟩:=sx H n;exact⟨C8 H h4 h3,C9 H h1,DK H h2,λk m E P hk hE hn=>Ca (n0:=n+1) H h3 k m E P hk hE (by omega)⟩
theorem DM (H:er L Z)(k m E P)(hk:k<=L.length)(hE:E.length<=k)(hn:200000<=n):SimX L Z P k m E qT (af.F n (sH L Z k m E P)) (aa.F n (iH L Z k m) E):=
 (sx H n).2.2.1 k m E P hk hE (by have:=H.few;omega)
theorem FK (H:er L Z)(k m E P)(hk:k<=L.length)(hE:E.length<=k)(hn:200000<=n):SimX L Z P k m E qL (ae.F n (sH L Z k m E P)) (AH n (iH L Z k m) E):=
 (sx H n).2.2.2 k m E P hk hE (by have:=H.few;omega)
end
def SimT {α:Type}(L:List Tk)(Z:Int)(P:PP)(E:List Xp)(k:Nat)(m:Bool)(Q:Bool->α->Prop)(x:Option (α×RR))(y:Option (α×mg)):Prop:=
 (∃a k' m',x=some (a,sH L Z k' m' E P)/\y=some (a,iH L Z k' m')/\k<=k'/\k'<=L.length/\(m'=false->m=false)/\Q m' a)\/
 (∃a a' b k1 m1 k2 m2,x=some (a,sF L Z b k1 m1 E P)/\y=some (a',iF L Z b k2 m2)/\0<=b/\k1<=L.length/\k2<=L.length)
theorem SimT.up {α:Type}{L:List Tk}{Z:Int}{P:PP}{E:List Xp}{k k0:Nat}{m m0:Bool}{Q:Bool->α->Prop}{x:Option (α×RR)}{y:Option (α×mg)}(h:SimT L Z P E k m Q x y)(hk:k0<=k)(hm:m=false->m0=false):SimT L Z P E k0 m0 Q x y:=by
 rcases h with⟨a,k',m',h1,h2,h3,h4,h5,h6⟩|h
 ·exact .inl ⟨a,k',m',h1,h2,by omega,h4,λh=>hm (h5 h),h6⟩
 ·exact .inr h
abbrev qS:Bool->ByteArray->Prop:=λ_ a=>a.size<=30
def Cb (l:List ByteArray):Prop:=l.length<=6/\∀t∈l,t.size<=30
abbrev Jk:Bool->List ByteArray->Prop:=λm l=>m=false->Cb l
def IU (c:ByteArray×List ByteArray):Prop:=c.1.size<=30/\Cb c.2
abbrev qC:Bool->(ByteArray×List ByteArray)->Prop:=λm c=>m=false->IU c
section
variable {L:List Tk} {Z:Int} {n:Nat} {P:PP} {E:List Xp}
theorem IA (hL:L.length<=3000){b:Int}{k:Nat}{m:Bool}(hk:k<=L.length):dn.F n (sF L Z b k m E P)=some (Jo,sF L Z b k m E P):=by
 unfold dn.F;rw[ug hL hk,Jn,ab (by simp),ug hL hk,Jn,ao (by simp),DE hL hk,Jn]
theorem IB {b:Int}(hb:0<=b){k:Nat}{m:Bool}:dp.F n (iF L Z b k m)=some (Jo,iF L Z b k m):=by
 unfold dp.F;rw[xy hb,Jn,ab (by simp),oP hb,Jn,ab (by simp),oP hb,Jn,ab (by simp),sw hb,Jn]
theorem DN (H:er L Z){k:Nat}{m:Bool}(hk:k<=L.length):SimT L Z P E k m qS (dn.F n (sH L Z k m E P)) (dp.F n (iH L Z k m)):=by
 have hL:=H.few;have done:∀K:Int,K≠0->(aR L k).1=K->SimT L Z P E k m qS (some ((aR L k).2.1,sH L Z (k+1) m E P)) (some ((aR L k).2.1,iH L Z (k+1) m)):=by
  intro K hK g;have hlt:=lP (L:=L) (k:=k) (by rw[g];exact hK);exact .inl ⟨_,k+1,m,rfl,rfl,by omega,by omega,id,H.txt _ (eK hlt)⟩
 have j0:dp.j0 n (iH L Z k m) (aR L k)=some ((aR L k).2.1,iH L Z (k+1) m):=by
  unfold dp.j0;simp only[nx (show k<=1000000000 by omega)]
 unfold dn.F dp.F;rw[ug hL hk,Jn,pK hL hk,Jn,pM H (by simp[lO]),KY,KB]
 by_cases c2:(aR L k).1=2
 ·have w:∀s,mB (aR L k) s=false:=λs=>by unfold mB;simp[c2]
  rw[w,ab rfl,ug hL hk,Jn,pM H (by simp[lO]),w,ao (by simp),sv hL hk (by decide),ab c2,Jn,ao (by simp[c2]),j0];exact done 2 (by decide) c2
 ·rw[ab (by simp[c2]) (c:=(!decide ((aR L k).1=2))=true),nZ hL hk,Jn]
  cases w1:mB (aR L k) ⟨#[110,117,109,98,101,114]⟩with
  |true=>
   have g:(aR L k).1=1:=by unfold mB at w1;simp only[Jx,dg]at w1;exact w1.1
   rw[ao (by simp),ao (by simp),sv hL hk (by decide),ab g,Jn,j0];exact done 1 (by decide) g
  |false=>
   rw[ab rfl,ab (by simp),ug hL hk,Jn,pM H (by simp[lO]),KY,KB,nZ hL hk,Jn];cases w2:mB (aR L k) ⟨#[115,121,109,98,111,108]⟩with
   |true=>
    have g:(aR L k).1=1:=by unfold mB at w2;simp only[Jx,dg]at w2;exact w2.1
    rw[ab (by simp),ao (by simp),sv hL hk (by decide),ab g,Jn,j0];exact done 1 (by decide) g
   |false=>
    rw[ao (by simp),ab (by simp),sv hL hk (by decide),ao c2,Jn,xz hL hk,Jn];exact .inr ⟨_,_,gy L Z k,k,m,k,m,rfl,rfl,eu H _,hk,hk⟩
def IV (n:Nat)(r:RR)(o:List ByteArray):Option (List ByteArray×RR):=
 (bp.F n r ⟨#[41]⟩).bind λr9=>(aW.F n r9 (Jp o:Int) 6).bind λr10=>some (o,r10)
def IW (p:mg)(o:List ByteArray):Option (List ByteArray×mg):=
 if p.2.2.2.2=false then
 some (o,(p.1,(p.2.1,(p.2.2.1,(p.2.2.2.1,decide ((Jp o:Int)>6))))))
 else
 some (o,(p.1,(p.2.1,(p.2.2.1,(p.2.2.2.1,true)))))
def mj (n:Nat)(x:Option (List ByteArray×mg)):Option (List ByteArray×mg):=x.bind λr=>(aA.F n r.2 ⟨#[41]⟩).bind λw=>some (r.1,w)
theorem zC {b:Int}{k:Nat}{m:Bool}{o:List ByteArray}:IW (iF L Z b k m) o=some (o,iF L Z b k (m||decide ((Jp o:Int)>6))):=by
 unfold IW;cases m<;>simp
theorem DO (hL:L.length<=3000){b:Int}{k:Nat}{m:Bool}(hk:k<=L.length){o:List ByteArray}:IV n (sF L Z b k m E P) o=some (o,sF L Z b k (m||decide ((Jp o:Int)>6)) E P):=by
 unfold IV;rw[su hL hk,Jn,mh,Jn]
theorem GM {b:Int}(hb:0<=b){k:Nat}{m:Bool}{o:List ByteArray}:mj n (IW (iF L Z b k m) o)=some (o,iF L Z b k (m||decide ((Jp o:Int)>6))):=by
 rw[zC];unfold mj;rw[Jn,kA hb,Jn]
theorem HN (hL:L.length<=3000){b:Int}{k:Nat}{m:Bool}(hk:k<=L.length){K}(f:Nat)(o:List ByteArray):bw.l0 n K (f+1) (sF L Z b k m E P) o=K (sF L Z b k m E P) o:=by
 unfold bw.l0;rw[kz hL hk,Jn,ao (by simp)]
theorem HO {b:Int}(hb:0<=b){k:Nat}{m:Bool}{K}(f:Nat)(o:List ByteArray):bQ.l0 n K (f+1) (iF L Z b k m) o=K (iF L Z b k m) o:=by
 unfold bQ.l0;rw[gz hb,Jn,ao (by simp)]
theorem xD {m c:Bool}(h:(m||c)=false):m=false:=by cases m<;>simp_all
theorem sy (H:er L Z):∀f k m o,k<=L.length->L.length - k<f->o.length+(L.length - k)<=10000->(∀t∈o,t.size<=30)->
  SimT L Z P E k m Jk (bw.l0 n (λr o=>IV n r o) f (sH L Z k m E P) o) (mj n (bQ.l0 n IW f (iH L Z k m) o))
 |0,k,m,o,hk,hf,ho,hs=>by omega
 |f+1,k,m,o,hk,hf,ho,hs=>by
  have hL:=H.few;unfold bw.l0 bQ.l0;rw[qi hL hk,jB hL hk,Jn,Jn,eL H (by simp[dA])]
  by_cases c:ig (aR L k) ⟨#[44]⟩=true
  ·obtain⟨hlt,_,_⟩:=eM c
   simp only[c,if_true];rcases DN (n:=n) (P:=P) (E:=E) H (show k+1<=L.length by omega) (m:=m)with⟨a,k',m',e1,e2,h3,h4,h5,h6⟩|⟨a,a',p,k1,m1,k2,m2,e1,e2,h3,h4,h5⟩
   ·rw[e1,e2,Jn,Jn,ab (by simp only[Ju,Jz,aT];omega),ab (by simp only[Ju,Jz,aT];omega)]
    refine(sy H f k' m' _ h4 (by omega) (by simp;omega) ?_).up (by omega) h5;intro t ht;rcases KM.1 ht with ht|ht
    ·exact hs t ht
    ·rw[JZ.1 ht];exact h6
   ·rw[e1,e2,Jn,Jn,ab (by simp only[Ju,Jz,aT];omega),ab (by simp only[Ju,Jz,aT];omega)]
    obtain⟨g,rfl⟩:∃g,f=g+1:=⟨f - 1,by omega⟩
    exact .inr ⟨o++[a],o++[a'],p,k1,_,k2,_,(HN hL h4 g _).trans (DO hL h4),(congrArg (mj n) (HO h3 g _)).trans (GM h3),h3,h4,h5⟩
  ·simp only[JT.2 c,JG,if_false]
   rw[zC];unfold IV mj;rw[xw hL hk,Jn,Jn,n6 hL hk,eL H (by simp[dA])]
   by_cases cq:ig (aR L k) ⟨#[41]⟩=true
   ·obtain⟨hlt,_,_⟩:=eM cq
    simp only[cq,if_true];rw[mh];exact .inl ⟨o,k+1,_,rfl,rfl,by omega,by omega,xD,λh=>⟨GK (α:=ByteArray) (m:=m) h,hs⟩⟩
   ·simp only[JT.2 cq,JG,if_false]
    rw[mh];exact .inr ⟨o,o,gy L Z k,k,_,k,_,rfl,rfl,eu H _,hk,hk⟩
theorem xE (H:er L Z)(hn:4000<=n){k:Nat}{m:Bool}(hk:k<=L.length):SimT L Z P E k m Jk (bw.F n (sH L Z k m E P)) (mj n (bQ.F n (iH L Z k m))):=by
 have hL:=H.few;unfold bw.F bQ.F;rcases DN (n:=n) (P:=P) (E:=E) H hk (m:=m)with⟨a,k',m',e1,e2,h3,h4,h5,h6⟩|⟨a,a',p,k1,m1,k2,m2,e1,e2,h3,h4,h5⟩
 ·rw[e1,e2,Jn,Jn]
  exact(sy H n k' m' [a] h4 (by omega) (by simp;omega) (by intro t ht;rw[JZ.1 ht];exact h6)).up h3 h5
 ·rw[e1,e2,Jn,Jn]
  obtain⟨g,rfl⟩:∃g,n=g+1:=⟨n - 1,by omega⟩
  exact .inr ⟨[a],[a'],p,k1,_,k2,_,(HN hL h4 g _).trans (DO hL h4),(congrArg (mj _) (HO h3 g _)).trans (GM h3),h3,h4,h5⟩
theorem FL (hL:L.length<=3000)(hn:4000<=n){b:Int}{k:Nat}{m:Bool}(hk:k<=L.length):∃o m',bw.F n (sF L Z b k m E P)=some (o,sF L Z b k m' E P):=by
 obtain⟨g,rfl⟩:∃g,n=g+1:=⟨n - 1,by omega⟩
 unfold bw.F;rw[IA hL hk,Jn];exact⟨_,_,(HN hL hk g _).trans (DO hL hk)⟩
theorem FM (hn:4000<=n){b:Int}(hb:0<=b){k:Nat}{m:Bool}:∃o m',bQ.F n (iF L Z b k m)=some (o,iF L Z b k m'):=by
 obtain⟨g,rfl⟩:∃g,n=g+1:=⟨n - 1,by omega⟩
 unfold bQ.F;rw[IB hb,Jn];exact⟨_,_,(HO hb g _).trans zC⟩
theorem GN (hL:L.length<=3000){b:Int}{k:Nat}{m:Bool}(hk:k<=L.length):dm.F n (sF L Z b k m E P)=some ((Jo,[]),sF L Z b k m E P):=by
 unfold dm.F;rw[DE hL hk,Jn,kz hL hk,Jn,ao (by simp)]
theorem GO {b:Int}(hb:0<=b){k:Nat}{m:Bool}:eh.F n (iF L Z b k m)=some ((Jo,[]),iF L Z b k m):=by
 unfold eh.F;rw[HI hb (by decide),Jn,gz hb,Jn,ao (by simp)]
theorem lw {x:Option (List ByteArray×mg)}{a:List ByteArray}{p:mg}(h:mj n x=some (a,p)):∃r,x=some (a,r)/\aA.F n r ⟨#[41]⟩=some p:=by
 unfold mj at h;obtain⟨r,h1,h2⟩:=LO.1 h;obtain⟨w,h3,h4⟩:=LO.1 h2;simp only[JB,JU]at h4;obtain⟨q1,q2⟩:=h4;subst q2;exact⟨r.2,by rw[h1,← q1],h3⟩
theorem DP (H:er L Z)(hn:4000<=n){k:Nat}{m:Bool}(hk:k<=L.length):SimT L Z P E k m qC (dm.F n (sH L Z k m E P)) (eh.F n (iH L Z k m)):=by
 have hL:=H.few;unfold dm.F eh.F;rw[sv hL hk (by decide),xA hL hk (by decide),Jn,Jn]
 by_cases c2:(aR L k).1=2
 ·have hlt:=lP (L:=L) (k:=k) (by rw[c2];decide)
  simp only[c2,if_true];rw[qi hL (show k+1<=L.length by omega),jB hL (show k+1<=L.length by omega),Jn,Jn,eL H (by simp[dA])]
  by_cases c:ig (aR L (k+1)) ⟨#[40]⟩=true
  ·obtain⟨hlt2,_,_⟩:=eM c
   simp only[c,if_true];rcases xE (P:=P) (E:=E) H hn (show k+1+1<=L.length by omega) (m:=m)with⟨a,k',m',e1,e2,h3,h4,h5,h6⟩|⟨a,a',p,k1,m1,k2,m2,e1,e2,h3,h4,h5⟩
   ·obtain⟨r,i1,i2⟩:=lw e2
    rw[e1,i1,Jn,Jn,i2,Jn];exact .inl ⟨_,k',m',rfl,rfl,by omega,h4,h5,λh=>⟨H.txt _ (eK hlt),h6 h⟩⟩
   ·obtain⟨r,i1,i2⟩:=lw e2
    rw[e1,i1,Jn,Jn,i2,Jn];exact .inr ⟨_,_,p,k1,m1,k2,m2,rfl,rfl,h3,h4,h5⟩
  ·simp only[JT.2 c,JG,if_false]
   exact .inl ⟨_,k+1,m,rfl,rfl,by omega,by omega,id,λh=>⟨H.txt _ (eK hlt),by simp[Cb]⟩⟩
 ·simp only[c2,if_false]
  rw[kz hL hk,gz (eu H _),Jn,Jn,ao (by simp),ao (by simp)];exact .inr ⟨_,_,gy L Z k,k,m,k,m,rfl,rfl,eu H _,hk,hk⟩
end
def ED (e:Xp):Prop:=e.2.1.size<=30/\e.2.2.length<=6
abbrev qX:Bool->Xp->Prop:=λm e=>m=false->ED e
def J6 (L:List Tk)(Z:Int)(P:PP)(K:Int)(k:Nat)(m:Bool)(E:List Xp)(x:Option (Xp×RR))(y:Option (Xp×mg×List Xp)):Prop:=
 (∃c k' m' E',x=some ((K,c),sH L Z k' m' E' P)/\y=some ((1,c),iH L Z k' m',E')/\k<k'/\k'<=L.length/\E'.length+k<=k'+E.length/\(∀B,OkE B m E->OkE B m' E'/\(m'=false->ED (K,c))))\/
 (∃a a' b k1 m1 E1 k2 m2 E2,x=some (a,sF L Z b k1 m1 E1 P)/\y=some (a',iF L Z b k2 m2,E2)/\0<=b/\k1<=L.length/\k2<=L.length/\E1.length+k<=k1+E.length/\E2.length+k<=k2+E.length)
section
variable {L:List Tk} {Z:Int} {n:Nat}
theorem DQ (hL:L.length<=3000)(hn:10<=n){b:Int}{k:Nat}{m:Bool}{E:List Xp}{P:PP}(hk:k<=L.length):∃o m',ae.F n (sF L Z b k m E P)=some (o,sF L Z b k m' E P):=by
 obtain⟨g,rfl⟩:∃g,n=g+4:=⟨n - 4,by omega⟩
 refine⟨[0],m||decide ((Jp [(0:Int)]:Int)>6),?_⟩;show ae.G (g+3) (ae.F (g+3)) (af.F (g+3)) (ak.F (g+3)) (aj.F (g+3)) (sF L Z b k m E P)=_;unfold ae.G;rw[Iy hL hk,Jn];exact(zy hL hk _ _).trans (DL hL hk)
theorem DR (hn:10<=n){b:Int}(hb:0<=b){k:Nat}{m:Bool}{E:List Xp}:∃o m',ac.F n (iF L Z b k m) E=some (o,iF L Z b k m',E):=by
 obtain⟨g,rfl⟩:∃g,n=g+4:=⟨n - 4,by omega⟩
 refine⟨[0],m||decide ((Jp [(0:Int)]:Int)>6),?_⟩;show ac.G (g+3) (ac.F (g+3)) (aa.F (g+3)) (ai.F (g+3)) (ag.F (g+3)) (iF L Z b k m) E=_;unfold ac.G;rw[Iz hb,Jn];exact(zA hb _ _).trans zB
theorem vx (H:er L Z)(hn:200000<=n)(K:Int){k:Nat}{m:Bool}{E:List Xp}{P:PP}(hk:k<=L.length)(hE:E.length<=k):
  J6 L Z P K k m E (cO.F n (sH L Z k m E P) K) (cV.F n (iH L Z k m) E):=by
 have hL:=H.few;unfold cO.F cV.F;rw[GG hL hk (by decide),xA hL hk (by decide),Jn,Jn]
 by_cases c1:(aR L k).1=1
 ·have hlt:=lP (L:=L) (k:=k) (by rw[c1];decide)
  have hk1:k+1<=L.length:=by omega
  simp only[c1,if_true];rw[AE hL hk1,n6 hL hk1,Jn,Jn,eL H (by simp[dA])]
  by_cases cp:ig (aR L (k+1)) ⟨#[40]⟩=true
  ·obtain⟨hlt2,_,_⟩:=eM cp
   have hk2:k+1+1<=L.length:=by omega
   simp only[cp,if_true];rw[mY hL hk2,HH hL hk2,Jn,Jn,eL H (by simp[dA])]
   by_cases cq:ig (aR L (k+1+1)) ⟨#[41]⟩=true
   ·obtain⟨hlt3,_,_⟩:=eM cq
    simp only[cq,if_true];rw[ao (by simp),ao (by simp),n6 hL hk2,Jn];simp only[cq,if_true];exact .inl ⟨_,k+1+1+1,m,E,rfl,rfl,by omega,by omega,by omega,λB h=>⟨h,λ_=>⟨H.txt _ (eK hlt),by simp⟩⟩⟩
   ·simp only[JT.2 cq,JG,if_false]
    rw[ab (by simp),ab (by simp)];rcases FK (n:=n) H (k+1+1) m E P hk2 (by omega) hn with⟨a,k',m',E',e1,e2,h3,h4,h5,h8⟩|⟨a,a',b,k1,m1,E1,k2,m2,E2,e1,e2,h3,h4,h5,h6,h7⟩
    ·obtain⟨r,i1,i2⟩:=mi e2
     rw[e1,i1,Jn,Jn,i2,Jn];exact .inl ⟨_,k',m',E',rfl,rfl,by omega,h4,by omega,λB h=>⟨(h8 B h).1,λhm=>⟨H.txt _ (eK hlt),(h8 B h).2 hm⟩⟩⟩
    ·obtain⟨r,i1,i2⟩:=mi e2
     rw[e1,i1,Jn,Jn,i2,Jn];exact .inr ⟨_,_,b,k1,m1,E1,k2,m2,E2,rfl,rfl,h3,h4,h5,by omega,by omega⟩
  ·simp only[JT.2 cp,JG,if_false]
   have hb:=eu H (k+1);obtain⟨o1,m1,l1⟩:=DQ (n:=n) (Z:=Z) (b:=gy L Z (k+1)) (m:=m) (E:=E) (P:=P) hL (by omega) hk1;obtain⟨o2,m2,l2⟩:=DR (n:=n) (L:=L) (Z:=Z) (k:=k+1) (m:=m) (E:=E) (by omega) hb;rw[mZ hL hk1,C7 hb,Jn,Jn,ab (by simp),ab (by simp),l1,l2,Jn,Jn,kA hb,Jn];exact .inr ⟨_,_,_,k+1,m1,E,k+1,m2,E,rfl,rfl,hb,hk1,hk1,by omega,by omega⟩
 ·simp only[c1,if_false]
  have hb:=eu H k;obtain⟨o1,m1,l1⟩:=DQ (n:=n) (Z:=Z) (b:=gy L Z k) (m:=m) (E:=E) (P:=P) hL (by omega) hk;obtain⟨o2,m2,l2⟩:=DR (n:=n) (L:=L) (Z:=Z) (k:=k) (m:=m) (E:=E) (by omega) hb;rw[vv hL hk,kA hb,Jn,Jn,mZ hL hk,C7 hb,Jn,Jn,ab (by simp),ab (by simp),l1,l2,Jn,Jn,kA hb,Jn];exact .inr ⟨_,_,_,k,m1,E,k,m2,E,rfl,rfl,hb,hk,hk,by omega,by omega⟩
abbrev opsL:List ByteArray:=[⟨#[61]⟩,⟨#[33,61]⟩,⟨#[60]⟩,⟨#[60,61]⟩]
theorem xF {a:Int}{st:RR}{l:Xp}{K}{f:Nat}{x:Xp}(i:Nat)(hi:i<4):
  bh.l1 n a opsL (Jp opsL:Int) st l K (f+1) (i:Int) x=(bT.F n st (opsL.getD i Jo)).bind λr=>if r=true then bh.l1 n a opsL (Jp opsL:Int) st l K f ((i+1:Nat):Int) (x.1,(opsL.getD i Jo,x.2.2))else bh.l1 n a opsL (Jp opsL:Int) st l K f ((i+1:Nat):Int) x:=by
 rw[bh.l1];rw[ab (by simp;omega),ab (by simp;omega),nx (by omega)]
 rfl
theorem ny {a:Int}{st:RR}{l:Xp}{K}{f:Nat}{x:Xp}:bh.l1 n a opsL (Jp opsL:Int) st l K (f+1) 4 x=K x:=by
 rw[bh.l1];rw[ao (by simp)]
theorem xG {a:Int}{E:List Xp}{l:Xp}{K}{f:Nat}{p:mg}(i:Nat)(hi:i<4):
  aJ.l2 n a opsL (Jp opsL:Int) E l K (f+1) (i:Int) p=(aD.F n p (opsL.getD i Jo)).bind λr=>if r.1=true then(aa.F n r.2 E).bind λq=>some ((3,(opsL.getD i Jo,[a,q.1])),q.2.1,q.2.2)else aJ.l2 n a opsL (Jp opsL:Int) E l K f ((i+1:Nat):Int) r.2:=by
 rw[aJ.l2];rw[ab (by simp;omega),ab (by simp;omega),nx (by omega)]
 rfl
theorem AI {a:Int}{E:List Xp}{l:Xp}{K}{f:Nat}{p:mg}:aJ.l2 n a opsL (Jp opsL:Int) E l K (f+1) 4 p=K p:=by
 rw[aJ.l2];rw[ao (by simp)]
def zD (t:Tk):Option ByteArray:=opsL.find? λs=>ig t s
theorem pN {t:Tk}{s u:ByteArray}(h:ig t s=true)(hu:s≠u):ig t u=false:=by
 unfold ig at h⊢;simp only[Jx,dg]at h;rw[h.2,dq hu,Bool.and_false]
theorem FN (H:er L Z){a:Int}{k:Nat}{m:Bool}{E:List Xp}{P:PP}(hk:k<=L.length){l:Xp}{K}{f:Nat}(hf:5<=f):
  bh.l1 n a opsL (Jp opsL:Int) (sH L Z k m E P) l K f 0 (3,(Jo,[]))=K (3,((zD (aR L k)).getD Jo,[])):=by
 have hL:=H.few;obtain⟨g,rfl⟩:∃g,f=g+5:=⟨f - 5,by omega⟩
 have st:=λ(x:Xp) (i:Nat) (hi:i<4) (f:Nat)=>xF (n:=n) (a:=a) (st:=sH L Z k m E P) (l:=l) (K:=K) (f:=f) (x:=x) i hi
 have is:∀i,i<4->bT.F n (sH L Z k m E P) (opsL.getD i Jo)=some (ig (aR L k) (opsL.getD i Jo)):=by
  intro i hi;rw[ug hL hk,KY,KB,eL H];rcases i with _|_|_|_|i
  ·simp[dA]
  ·simp[dA]
  ·simp[dA]
  ·simp[dA]
  ·omega
 refine(st _ 0 (by omega) _).trans ?_;rw[is 0 (by omega),Jn];unfold zD;simp only[List.find?];show(if ig (aR L k) ⟨#[61]⟩=true then _ else _)=_;cases c0:ig (aR L k) ⟨#[61]⟩with
 |true=>
  rw[ab rfl,st _ 1 (by omega),is 1 (by omega),Jn,show ig (aR L k) (opsL.getD 1 Jo)=false from pN c0 (by decide),ao (by simp),
   st _ 2 (by omega),is 2 (by omega),Jn,show ig (aR L k) (opsL.getD 2 Jo)=false from pN c0 (by decide),ao (by simp),
   st _ 3 (by omega),is 3 (by omega),Jn,show ig (aR L k) (opsL.getD 3 Jo)=false from pN c0 (by decide),ao (by simp)]
  exact ny
 |false=>
  rw[ao (by simp),st _ 1 (by omega),is 1 (by omega),Jn];show(if ig (aR L k) ⟨#[33,61]⟩=true then _ else _)=_;cases c1:ig (aR L k) ⟨#[33,61]⟩with
  |true=>
   rw[ab rfl,st _ 2 (by omega),is 2 (by omega),Jn,show ig (aR L k) (opsL.getD 2 Jo)=false from pN c1 (by decide),ao (by simp),
    st _ 3 (by omega),is 3 (by omega),Jn,show ig (aR L k) (opsL.getD 3 Jo)=false from pN c1 (by decide),ao (by simp)]
   exact ny
  |false=>
   rw[ao (by simp),st _ 2 (by omega),is 2 (by omega),Jn];show(if ig (aR L k) ⟨#[60]⟩=true then _ else _)=_;cases c2:ig (aR L k) ⟨#[60]⟩with
   |true=>
    rw[ab rfl,st _ 3 (by omega),is 3 (by omega),Jn,show ig (aR L k) (opsL.getD 3 Jo)=false from pN c2 (by decide),ao (by simp)];exact ny
   |false=>
    rw[ao (by simp),st _ 3 (by omega),is 3 (by omega),Jn];show(if ig (aR L k) ⟨#[60,61]⟩=true then _ else _)=_;cases c3:ig (aR L k) ⟨#[60,61]⟩with
    |true=>rw[ab rfl];exact ny
    |false=>rw[ao (by simp)];exact ny
theorem IC (hL:L.length<=3000){a b:Int}{k:Nat}{m:Bool}{E:List Xp}{P:PP}(hk:k<=L.length){l:Xp}{K}{f:Nat}(hf:5<=f){x:Xp}:
  bh.l1 n a opsL (Jp opsL:Int) (sF L Z b k m E P) l K f 0 x=K x:=by
 obtain⟨g,rfl⟩:∃g,f=g+5:=⟨f - 5,by omega⟩
 have st:=λ(i:Nat) (hi:i<4) (f:Nat)=>xF (n:=n) (a:=a) (st:=sF L Z b k m E P) (l:=l) (K:=K) (f:=f) (x:=x) i hi
 refine(st 0 (by omega) _).trans ?_;rw[ug hL hk,Jn,ao (by simp),st 1 (by omega),ug hL hk,Jn,ao (by simp),st 2 (by omega),ug hL hk,Jn,ao (by simp),st 3 (by omega),ug hL hk,Jn,ao (by simp)];exact ny
theorem FO (H:er L Z){a:Int}{k:Nat}{m:Bool}{E:List Xp}(hk:k<=L.length){l:Xp}{K}{f:Nat}(hf:5<=f):
  aJ.l2 n a opsL (Jp opsL:Int) E l K f 0 (iH L Z k m)=match zD (aR L k)with|some s=>(aa.F n (iH L Z (k+1) m) E).bind λq=>some ((3,(s,[a,q.1])),q.2.1,q.2.2)|none=>K (iH L Z k m):=by
 have hL:=H.few;obtain⟨g,rfl⟩:∃g,f=g+5:=⟨f - 5,by omega⟩
 have st:=λ(i:Nat) (hi:i<4) (f:Nat)=>xG (n:=n) (a:=a) (E:=E) (l:=l) (K:=K) (f:=f) (p:=iH L Z k m) i hi
 refine(st 0 (by omega) _).trans ?_;rw[jB hL hk,Jn];unfold zD;simp only[List.find?];show(if ig (aR L k) ⟨#[61]⟩=true then(aa.F n (iH L Z (if ig (aR L k) ⟨#[61]⟩=true then k+1 else k) m) E).bind _ else aJ.l2 n a opsL (Jp opsL:Int) E l K _ _ (iH L Z (if ig (aR L k) ⟨#[61]⟩=true then k+1 else k) m))=_;cases c0:ig (aR L k) ⟨#[61]⟩with
 |true=>rfl
 |false=>
  rw[ao (by simp),ao (by simp),st 1 (by omega),jB hL hk,Jn];show(if ig (aR L k) ⟨#[33,61]⟩=true then(aa.F n (iH L Z (if ig (aR L k) ⟨#[33,61]⟩=true then k+1 else k) m) E).bind _ else aJ.l2 n a opsL (Jp opsL:Int) E l K _ _ (iH L Z (if ig (aR L k) ⟨#[33,61]⟩=true then k+1 else k) m))=_;cases c1:ig (aR L k) ⟨#[33,61]⟩with
  |true=>rfl
  |false=>
   rw[ao (by simp),ao (by simp),st 2 (by omega),jB hL hk,Jn];show(if ig (aR L k) ⟨#[60]⟩=true then(aa.F n (iH L Z (if ig (aR L k) ⟨#[60]⟩=true then k+1 else k) m) E).bind _ else aJ.l2 n a opsL (Jp opsL:Int) E l K _ _ (iH L Z (if ig (aR L k) ⟨#[60]⟩=true then k+1 else k) m))=_;cases c2:ig (aR L k) ⟨#[60]⟩with
   |true=>rfl
   |false=>
    rw[ao (by simp),ao (by simp),st 3 (by omega),jB hL hk,Jn];show(if ig (aR L k) ⟨#[60,61]⟩=true then(aa.F n (iH L Z (if ig (aR L k) ⟨#[60,61]⟩=true then k+1 else k) m) E).bind _ else aJ.l2 n a opsL (Jp opsL:Int) E l K _ _ (iH L Z (if ig (aR L k) ⟨#[60,61]⟩=true then k+1 else k) m))=_;cases c3:ig (aR L k) ⟨#[60,61]⟩with
    |true=>rfl
    |false=>
     rw[ao (by simp),ao (by simp)];exact AI
theorem ID {a b:Int}(hb:0<=b){k:Nat}{m:Bool}{E:List Xp}{l:Xp}{K}{f:Nat}(hf:5<=f):
  aJ.l2 n a opsL (Jp opsL:Int) E l K f 0 (iF L Z b k m)=K (iF L Z b k m):=by
 obtain⟨g,rfl⟩:∃g,f=g+5:=⟨f - 5,by omega⟩
 have st:=λ(i:Nat) (hi:i<4) (f:Nat)=>xG (n:=n) (a:=a) (E:=E) (l:=l) (K:=K) (f:=f) (p:=iF L Z b k m) i hi
 refine(st 0 (by omega) _).trans ?_;rw[gz hb,Jn,ao (by simp),st 1 (by omega),gz hb,Jn,ao (by simp),st 2 (by omega),gz hb,Jn,ao (by simp),st 3 (by omega),gz hb,Jn,ao (by simp)];exact AI
theorem Cc {t:Tk}{s:ByteArray}(h:zD t=some s):ig t s=true/\s∈opsL:=by
 unfold zD at h;exact⟨List.find?_some h,List.mem_of_find?_eq_some h⟩
theorem HQ (H:er L Z)(hn:200000<=n){k:Nat}{m:Bool}{E:List Xp}{P:PP}(hk:k<=L.length)(hE:E.length<=k):
  SimX L Z P k m E qX (bh.j0 n (sH L Z k m E P) (0,(Jo,[]))) (aJ.j1 n (iH L Z k m) E (0,(Jo,[]))):=by
 have hL:=H.few;unfold bh.j0 aJ.j1;rcases DM (n:=n) H k m E P hk hE hn with⟨a,k',m',E',e1,e2,h3,h4,h5,h8⟩|⟨a,a',b,k1,m1,E1,k2,m2,E2,e1,e2,h3,h4,h5,h6,h7⟩
 ·rw[e1,e2,Jn,Jn]
  show SimX L Z P k m E qX (bh.l1 n a opsL (Jp opsL:Int) (sH L Z k' m' E' P) _ _ n 0 _) (aJ.l2 n a opsL (Jp opsL:Int) E' _ _ n 0 (iH L Z k' m'));rw[FN H h4 (by omega),FO H h4 (by omega)];cases ho:zD (aR L k')with
  |none=>
   show SimX L Z P k m E qX (if Kk Jo Jo=true then _ else _) ((aZ.F n (iH L Z k' m')).bind _);rw[ab (by rw[pH];decide)];show SimX L Z P k m E qX ((bg.F n (sH L Z k' m' E' P)).bind _) ((aZ.F n (iH L Z k' m')).bind _);rw[xx hL h4,xz hL h4,Jn,Jn];exact .inr ⟨_,_,gy L Z k',k',m',E',k',m',E',rfl,rfl,eu H _,h4,h4,by omega,by omega⟩
  |some s=>
   obtain⟨o1,o2⟩:=Cc ho;obtain⟨hlt,_,gt⟩:=eM o1;have hs:Kk s Jo=false:=by
    simp only[opsL,List.mem_cons,List.not_mem_nil,or_false]at o2;rw[pH];rcases o2 with rfl|rfl|rfl|rfl<;>decide
   show SimX L Z P k m E qX (if Kk s Jo=true then _ else(af.F n (L,Js.wrap ((k':Int)+1),(sH L Z k' m' E' P).2.2)).bind λr21=>some ((3,(s,[a,r21.1])),r21.2)) ((aa.F n (iH L Z (k'+1) m') E').bind _);rw[hs,ao (by simp),nx (by omega)];show SimX L Z P k m E qX ((af.F n (sH L Z (k'+1) m' E' P)).bind _) _;rcases DM (n:=n) H (k'+1) m' E' P (by omega) (by omega) hn with⟨a2,k'',m'',E'',f1,f2,g3,g4,g5,g8⟩|⟨a2,a2',b2,k1,m1,E1,k2,m2,E2,f1,f2,g3,g4,g5,g6,g7⟩
   ·rw[f1,f2,Jn,Jn]
    exact .inl ⟨_,k'',m'',E'',rfl,rfl,by omega,g4,by omega,λB h=>⟨(g8 B (h8 B h).1).1,λ_=>⟨by rw[← gt];exact H.txt _ (eK hlt),by simp⟩⟩⟩
   ·rw[f1,f2,Jn,Jn]
    exact .inr ⟨_,_,b2,k1,m1,E1,k2,m2,E2,rfl,rfl,g3,g4,g5,by omega,by omega⟩
 ·rw[e1,e2,Jn,Jn]
  show SimX L Z P k m E qX (bh.l1 n a opsL (Jp opsL:Int) (sF L Z b k1 m1 E1 P) _ _ n 0 _) (aJ.l2 n a' opsL (Jp opsL:Int) E2 _ _ n 0 (iF L Z b k2 m2));rw[IC hL h4 (by omega),ID h3 (by omega)];show SimX L Z P k m E qX (if Kk Jo Jo=true then _ else _) ((aZ.F n (iF L Z b k2 m2)).bind _);rw[ab (by rw[pH];decide)];show SimX L Z P k m E qX ((bg.F n (sF L Z b k1 m1 E1 P)).bind _) ((aZ.F n (iF L Z b k2 m2)).bind _);rw[HG,sw h3,Jn,Jn];exact .inr ⟨_,_,b,k1,m1,E1,k2,m2,E2,rfl,rfl,h3,h4,h5,h6,h7⟩
theorem DS (H:er L Z)(hn:200000<=n){k:Nat}{m:Bool}{E:List Xp}{P:PP}(hk:k<=L.length)(hE:E.length<=k):
  SimX L Z P k m E qX (bh.F n (sH L Z k m E P)) (aJ.F n (iH L Z k m) E):=by
 have hL:=H.few;unfold bh.F aJ.F;rw[mY hL hk,jB hL hk,Jn,Jn,eL H (by simp[dA])]
 by_cases c:ig (aR L k) ⟨#[33]⟩=true
 ·obtain⟨hlt,_,_⟩:=eM c
  simp only[c,if_true];rcases vx (n:=n) H hn 2 (P:=P) (E:=E) (m:=m) (show k+1<=L.length by omega) (by omega)with⟨a,k',m',E',e1,e2,h3,h4,h5,h8⟩|⟨a,a',b,k1,m1,E1,k2,m2,E2,e1,e2,h3,h4,h5,h6,h7⟩
  ·rw[e1,e2,Jn,Jn]
   exact .inl ⟨_,k',m',E',rfl,rfl,by omega,h4,by omega,h8⟩
  ·rw[e1,e2,Jn,Jn]
   exact .inr ⟨_,_,b,k1,m1,E1,k2,m2,E2,rfl,rfl,h3,h4,h5,by omega,by omega⟩
 ·simp only[JT.2 c,JG,if_false]
  have t0:∃r:Tk,bj.F n (sH L Z k m E P) 0=some r/\r.1=(aR L k).1:=by
   rw[oO hL hk];refine⟨_,rfl,?_⟩
   split
   ·rfl
   ·rw[iZ ‹_›]
  have t1:∃r:Tk,bj.F n (sH L Z k m E P) 1=some r/\r.1=(aR L (k+1)).1/\r.2.1=(aR L (k+1)).2.1:=by
   have:=Ix (n:=n) (Z:=Z) (b:=0) (f:=false) (m:=m) (E:=E) (P:=P) (j:=1) hL hk (by omega);refine⟨_,this,?_⟩
   split
   ·exact⟨rfl,rfl⟩
   ·rw[iZ ‹_›];exact⟨rfl,rfl⟩
  obtain⟨r0,q0,q1⟩:=t0;obtain⟨r1,p0,p1,p2⟩:=t1;have pk:=GH (n:=n) (Z:=Z) (m:=m) (j:=1) hL hk (by omega);have pk':aY.F n (iH L Z k m) 1=some (aR L (k+1)):=pk;show SimX L Z P k m E qX ((bj.F n (sH L Z k m E P) 0).bind _) ((aY.F n (iH L Z k m) 1).bind _);rw[q0,pk',Jn,Jn];show SimX L Z P k m E qX _ ((aY.F n (iH L Z k m) 0).bind _);rw[pK hL hk,Jn,q1];have cmp:=HQ (n:=n) H hn (P:=P) (E:=E) (m:=m) hk hE
  by_cases c1:(aR L k).1=1
  ·rw[ab (by simp[c1]),ab (by simp[c1]),show bj.F n (L,(k:Int),Z,0,false,m,E,P) 1=some r1 from p0,Jn,p1]
   by_cases c5:(aR L (k+1)).1=5
   ·rw[ab (by simp[c5]),ab (by simp[c5]),Jn,p2]
    unfold aJ.j0;cases cs:Kk (aR L (k+1)).2.1 ⟨#[40]⟩with
    |true=>
     rw[ab rfl,ab rfl];rcases vx (n:=n) H hn 1 (P:=P) (E:=E) (m:=m) hk hE with⟨a,k',m',E',e1,e2,h3,h4,h5,h8⟩|⟨a,a',b,k1,m1,E1,k2,m2,E2,e1,e2,h3,h4,h5,h6,h7⟩
     ·rw[e1,e2,Jn,Jn]
      exact .inl ⟨_,k',m',E',rfl,rfl,by omega,h4,by omega,h8⟩
     ·rw[e1,e2,Jn,Jn]
      exact .inr ⟨_,_,b,k1,m1,E1,k2,m2,E2,rfl,rfl,h3,h4,h5,by omega,by omega⟩
    |false=>
     rw[ao (by simp),ao (by simp)];exact cmp
   ·rw[ao (by simp[c5]),ao (by simp[c5])]
    unfold aJ.j0;rw[ao (by simp)];exact cmp
  ·rw[ao (by simp[c1]),ao (by simp[c1])]
   unfold aJ.j0;rw[ao (by simp)];exact cmp
end
def Jl (r:Rl):Prop:=r.1.length<=60/\r.2.2.length<=12/\(∀e∈r.1,ED e)/\ED r.2.1/\∀l∈r.2.2,ED l
def SimR (L:List Tk)(Z:Int)(P:PP)(m0:Bool)(k:Nat)(x:Option RR)(y:Option (Rl×mg)):Prop:=
 (∃r k' m',x=some (sH L Z k' m' r.1 (P.1,P.2.1,P.2.2++[r]))/\y=some (r,iH L Z k' m')/\k<=k'/\k'<=L.length/\(m'=false->m0=false/\Jl r))\/
 (∃r b k1 m1 E1 P1 k2 m2,x=some (sF L Z b k1 m1 E1 P1)/\y=some (r,iF L Z b k2 m2)/\0<=b/\k1<=L.length/\k2<=L.length)
theorem SimR.up {L:List Tk}{Z:Int}{P:PP}{m0:Bool}{k k0:Nat}{x:Option RR}{y:Option (Rl×mg)}(h:SimR L Z P m0 k x y)(hk:k0<=k):SimR L Z P m0 k0 x y:=by
 rcases h with⟨a,k',m',h1,h2,h3,h⟩|h
 ·exact .inl ⟨a,k',m',h1,h2,by omega,h⟩
 ·exact .inr h
section
variable {L:List Tk} {Z:Int} {n:Nat}
theorem cC {α:Type}{l:List α}{x:α}(h:l.length<=100000):l.length+[x].length<=aT:=by simp only[Ju,Jz,aT];omega
theorem J7 {b:Int}{k:Nat}{m:Bool}{E:List Xp}{hd:Xp}{body:List Xp}{t:Rl}{p:mg}(h:aA.F n p ⟨#[46]⟩=some (iF L Z b k m)):
  ca.j1 n p t (E,(hd,body))=some ((E,(hd,body)),iF L Z b k (m||decide ((body.length:Int)>12)||decide ((E.length:Int)>60))):=by
 unfold ca.j1;rw[h,Jn];cases m with
 |true=>rw[ao (by simp)];rfl
 |false=>
  rw[ab rfl]
  by_cases c:(body.length:Int)>12
  ·rw[ao (by simp;omega),iW c];rfl
  ·rw[ab (by simp;omega),dq c];rfl
theorem J8 {b:Int}{f:Bool}{k:Nat}{m:Bool}{E:List Xp}{P:PP}{hd:Xp}{body:List Xp}{p:RR}{r0:List Xp}(h:bm.F n p ⟨#[46]⟩=some (L,(k:Int),Z,b,f,m,E,P))(hP:P.2.2.length<=100000):
  av.j4 n p (r0,(hd,body)) (λt=>some t)=some (L,(k:Int),Z,b,f,(m||decide ((body.length:Int)>12)||decide ((E.length:Int)>60)),E,(P.1,P.2.1,P.2.2++[(E,(hd,body))])):=by
 unfold av.j4;rw[h,Jn,mh,Jn,mh,Jn];rw[ab (cC hP)]
theorem xH (H:er L Z){m0:Bool}{k:Nat}{m:Bool}{E:List Xp}{P:PP}{hd:Xp}{body:List Xp}{r0:List Xp}{t:Rl}(hk:k<=L.length)(hP:P.2.2.length<=100000)
  (ho:OkE (m0=false/\ED hd/\∀l∈body,ED l) m E):
  SimR L Z P m0 k (av.j4 n (sH L Z k m E P) (r0,(hd,body)) (λt=>some t)) (ca.j1 n (iH L Z k m) t (E,(hd,body))):=by
 have hL:=H.few;have w1:=AE (n:=n) (Z:=Z) (m:=m) (E:=E) (P:=P) hL hk ⟨#[46]⟩;have w2:=n6 (n:=n) (Z:=Z) (m:=m) hL hk ⟨#[46]⟩;rw[eL H (by simp[dA])]at w1
 by_cases c:ig (aR L k) ⟨#[46]⟩=true
 ·obtain⟨hlt,_,_⟩:=eM c
  rw[ab c]at w1 w2;rw[J8 w1 hP,J7 w2];refine .inl ⟨(E,(hd,body)),k+1,_,rfl,rfl,by omega,by omega,λh=>?_⟩;simp only[Ln,vJ]at h;obtain⟨h1,h2⟩:=ho h.1.1;exact⟨h1.1,by simp only;omega,by simp only;omega,h2,h1.2.1,h1.2.2⟩
 ·rw[ao c]at w1 w2
  rw[J8 w1 hP,J7 w2];exact .inr ⟨_,gy L Z k,k,_,_,_,k,_,rfl,rfl,eu H _,hk,hk⟩
theorem pO (H:er L Z){m0:Bool}{b:Int}{k k1 k2:Nat}{m1 m2:Bool}{E1 E2:List Xp}{P:PP}{hd hd2:Xp}{body body2:List Xp}{r0:List Xp}{t:Rl}(hb:0<=b)(hk1:k1<=L.length)(hk2:k2<=L.length)(hP:P.2.2.length<=100000):
  SimR L Z P m0 k (av.j4 n (sF L Z b k1 m1 E1 P) (r0,(hd,body)) (λt=>some t)) (ca.j1 n (iF L Z b k2 m2) t (E2,(hd2,body2))):=by
 rw[J8 (vv H.few hk1 _) hP,J7 (kA hb _)];exact .inr ⟨_,b,k1,_,_,_,k2,_,rfl,rfl,hb,hk1,hk2⟩
theorem uj (H:er L Z)(hn:200000<=n){m0:Bool}{P:PP}(hP:P.2.2.length<=100000){hd:Xp}{t:Rl}:∀f k m E body,k<=L.length->E.length<=k->L.length - k<f->body.length+(L.length - k)<=10000->
  OkE (m0=false/\ED hd/\∀l∈body,ED l) m E->
  SimR L Z P m0 k (av.l3 n (λt39 t40=>av.j4 n t39 t40 (λt=>some t)) f (sH L Z k m E P) ([],(hd,body))) (ca.l0 n t (λp10 r11=>ca.j1 n p10 t r11) f (iH L Z k m) (E,(hd,body)))
 |0,k,m,E,body,hk,hE,hf,hB,ho=>by omega
 |f+1,k,m,E,body,hk,hE,hf,hB,ho=>by
  have hL:=H.few;unfold av.l3 ca.l0;rw[mY hL hk,jB hL hk,Jn,Jn,eL H (by simp[dA])]
  by_cases c:ig (aR L k) ⟨#[44]⟩=true
  ·obtain⟨hlt,_,_⟩:=eM c
   simp only[c,if_true];rcases DS (n:=n) H hn (P:=P) (E:=E) (m:=m) (show k+1<=L.length by omega) (by omega)with⟨a,k',m',E',e1,e2,h3,h4,h5,h8⟩|⟨a,a',b,k1,m1,E1,k2,m2,E2,e1,e2,h3,h4,h5,h6,h7⟩
   ·rw[e1,e2,Jn,Jn,ab (cC (by omega)),ab (cC (by omega))]
    refine(uj H hn hP f k' m' E' _ h4 (by omega) (by omega) (by simp;omega) ?_).up (by omega);obtain⟨g1,g2⟩:=h8 _ ho;intro hm;obtain⟨⟨q1,q2,q3⟩,q4⟩:=g1 hm;refine⟨⟨q1,q2,λl hl=>?_⟩,q4⟩;rcases KM.1 hl with hl|hl
    ·exact q3 l hl
    ·rw[JZ.1 hl];exact g2 hm
   ·rw[e1,e2,Jn,Jn,ab (cC (by omega)),ab (cC (by omega))]
    obtain⟨g,rfl⟩:∃g,f=g+1:=⟨f - 1,by omega⟩
    unfold av.l3 ca.l0;rw[mZ hL h4,gz h3,Jn,Jn,ao (by simp),ao (by simp)];exact pO H h3 h4 h5 hP
  ·simp only[JT.2 c,JG,if_false]
   exact xH H hk hP ho
def DT (n:Nat)(t:RR):Option RR:=
 (cO.F n t 1).bind λr32=>
 (aB.F n r32.2 ⟨#[58,45]⟩).bind λr33=>
 if r33.1=true then
 (bh.F n r33.2).bind λr34=>
 if Jp ([]:List (Xp))+Jp [r34.1]<=aT then
 av.l3 n (λt39 t40=>
 av.j4 n t39 t40 (λt46=>
 some t46)) n r34.2 ([],(r32.1,[]++[r34.1]))
 else
 none
 else
 av.j4 n r33.2 ([],(r32.1,[])) (λt47=>
 some t47)
theorem FP (H:er L Z)(hn:200000<=n){k:Nat}{m:Bool}{P:PP}(hk:k<=L.length)(hP:P.2.2.length<=100000):
  SimR L Z P m (k+1) (DT n (sH L Z k m [] P)) (ca.F n (iH L Z k m)):=by
 have hL:=H.few;unfold DT ca.F;rcases vx (n:=n) H hn 1 (P:=P) (E:=[]) (m:=m) hk (by simp)with⟨a,k',m',E',e1,e2,h3,h4,h5,h8⟩|⟨a,a',b,k1,m1,E1,k2,m2,E2,e1,e2,h3,h4,h5,h6,h7⟩
 ·rw[e1,e2,Jn,Jn,mY hL h4,jB hL h4,Jn,Jn,eL H (by simp[dA])]
  have hlen:E'.length<=k':=by simp at h5;omega
  obtain⟨g1,g2⟩:=h8 (m=false) (λh=>⟨h,by simp⟩)
  by_cases c:ig (aR L k') ⟨#[58,45]⟩=true
  ·obtain⟨hlt,_,_⟩:=eM c
   simp only[c,if_true];rcases DS (n:=n) H hn (P:=P) (E:=E') (m:=m') (show k'+1<=L.length by omega) (by omega)with⟨l,k'',m'',E'',f1,f2,i3,i4,i5,i8⟩|⟨a2,a2',b2,k1,m1,E1,k2,m2,E2,f1,f2,i3,i4,i5,i6,i7⟩
   ·rw[f1,f2,Jn,Jn,ab (cC (by simp)),ab (cC (by simp))]
    refine(uj H hn hP n k'' m'' E'' _ i4 (by omega) (by omega) (by simp;omega) ?_).up (by omega);obtain⟨q1,q2⟩:=i8 (m=false/\ED (1,a)) (λh=>⟨⟨(g1 h).1,g2 h⟩,(g1 h).2⟩);intro hm;obtain⟨⟨p1,p2⟩,p3⟩:=q1 hm;refine⟨⟨p1,p2,λx hx=>?_⟩,p3⟩;rw[Kv,JZ]at hx;rw[hx];exact q2 hm
   ·rw[f1,f2,Jn,Jn,ab (cC (by simp)),ab (cC (by simp))]
    obtain⟨g,rfl⟩:∃g,n=g+1:=⟨n - 1,by omega⟩
    unfold av.l3 ca.l0;rw[mZ hL i4,gz i3,Jn,Jn,ao (by simp),ao (by simp)];exact pO H i3 i4 i5 hP
  ·simp only[JT.2 c,JG,if_false]
   exact(xH H h4 hP λhm=>⟨⟨(g1 hm).1,g2 hm,by simp⟩,(g1 hm).2⟩).up (by omega)
 ·rw[e1,e2,Jn,Jn,mZ hL h4,gz h3,Jn,Jn,ao (by simp),ao (by simp)]
  exact pO H h3 h4 h5 hP
end
abbrev TD:Type:=ByteArray×List (ByteArray×List ByteArray)
abbrev RD:Type:=ByteArray×(List ByteArray)×Int
def J9 (t:TD):Prop:=t.1.size<=30/\t.2.length<=12/\∀c∈t.2,IU c
def Ja (r:RD):Prop:=r.1.size<=30/\Cb r.2.1
def IE (P:PP):Prop:=(∀t∈P.1,J9 t)/\(∀r∈P.2.1,Ja r)/\∀r∈P.2.2,Jl r
def sA (P:PP):Nat:=P.1.length+P.2.1.length+P.2.2.length
def SimS (L:List Tk)(Z:Int)(P:PP)(m0:Bool)(k:Nat)(x:Option RR)(y:Option (mg×PP)):Prop:=
 (∃E' P' k' m',x=some (sH L Z k' m' E' P')/\y=some (iH L Z k' m',P')/\k<=k'/\k'<=L.length/\sA P'=sA P+1/\(m'=false->m0=false/\(IE P->IE P')))\/
 (∃b k1 m1 E1 P1 k2 m2 P2,x=some (sF L Z b k1 m1 E1 P1)/\y=some (iF L Z b k2 m2,P2)/\0<=b/\k1<=L.length/\k2<=L.length)
theorem SimS.up {L:List Tk}{Z:Int}{P:PP}{m0:Bool}{k k0:Nat}{x:Option RR}{y:Option (mg×PP)}(h:SimS L Z P m0 k x y)(hk:k0<=k):SimS L Z P m0 k0 x y:=by
 rcases h with⟨E',P',k',m',h1,h2,h3,h⟩|h
 ·exact .inl ⟨E',P',k',m',h1,h2,by omega,h⟩
 ·exact .inr h
section
variable {L:List Tk} {Z:Int} {n:Nat} {E:List Xp} {P:PP}
def IF (n:Nat)(t10:RR)(t11:TD):Option RR:=
 (bp.F n t10 ⟨#[46]⟩).bind λr12=>
 (aW.F n r12 (Jp t11.2:Int) 12).bind λr13=>
 if Jp r13.2.2.2.2.2.2.2.1+Jp [t11]<=aT then
 some (r13.1,(r13.2.1,(r13.2.2.1,(r13.2.2.2.1,(r13.2.2.2.2.1,(r13.2.2.2.2.2.1,(r13.2.2.2.2.2.2.1,(r13.2.2.2.2.2.2.2.1++[t11],r13.2.2.2.2.2.2.2.2))))))))
 else
 none
def IG (n:Nat)(t2:PP)(t12:mg)(t13:TD):Option (mg×PP):=
 (aA.F n t12 ⟨#[46]⟩).bind λr14=>
 if r14.2.2.2.2=false then
 if Jp t2.1+Jp [t13]<=aT then
 some ((r14.1,(r14.2.1,(r14.2.2.1,(r14.2.2.2.1,decide ((Jp t13.2:Int)>12))))),(t2.1++[t13],t2.2))
 else
 none
 else
 if Jp t2.1+Jp [t13]<=aT then
 some ((r14.1,(r14.2.1,(r14.2.2.1,(r14.2.2.2.1,true)))),(t2.1++[t13],t2.2))
 else
 none
theorem zE {b:Int}{f:Bool}{k:Nat}{m:Bool}{p:RR}{t:TD}(hP:P.1.length<=100000)(h:bp.F n p ⟨#[46]⟩=some (L,(k:Int),Z,b,f,m,E,P)):
  IF n p t=some (L,(k:Int),Z,b,f,(m||decide ((t.2.length:Int)>12)),E,(P.1++[t],P.2)):=by
 unfold IF;rw[h,Jn,mh,Jn,ab (cC hP)]
theorem zF {b:Int}{k:Nat}{m:Bool}{p:mg}{t:TD}(hP:P.1.length<=100000)(h:aA.F n p ⟨#[46]⟩=some (iF L Z b k m)):
  IG n P p t=some (iF L Z b k (m||decide ((t.2.length:Int)>12)),(P.1++[t],P.2)):=by
 unfold IG;rw[h,Jn];cases m with
 |true=>rw[ao (by simp),ab (cC hP)];rfl
 |false=>rw[ab rfl,ab (cC hP)];rfl
theorem HR (H:er L Z){m0:Bool}{k:Nat}{m:Bool}{t:TD}(hk:k<=L.length)(hP:P.1.length<=100000)(ho:m=false->m0=false/\t.1.size<=30/\∀c∈t.2,IU c):
  SimS L Z P m0 k (IF n (sH L Z k m E P) t) (IG n P (iH L Z k m) t):=by
 have hL:=H.few;have w1:=xw (n:=n) (Z:=Z) (m:=m) (E:=E) (P:=P) hL hk ⟨#[46]⟩;have w2:=n6 (n:=n) (Z:=Z) (m:=m) hL hk ⟨#[46]⟩;rw[eL H (by simp[dA])]at w1
 by_cases c:ig (aR L k) ⟨#[46]⟩=true
 ·obtain⟨hlt,_,_⟩:=eM c
  rw[ab c]at w1 w2;rw[zE hP w1,zF hP w2];refine .inl ⟨E,_,k+1,_,rfl,rfl,by omega,by omega,by simp[sA];omega,λh=>?_⟩;simp only[Ln,vJ]at h;obtain⟨h1,h2,h3⟩:=ho h.1;refine⟨h1,λq=>⟨λx hx=>?_,q.2⟩⟩;rcases KM.1 hx with hx|hx
  ·exact q.1 x hx
  ·rw[JZ.1 hx];exact⟨h2,by omega,h3⟩
 ·rw[ao c]at w1 w2
  rw[zE hP w1,zF hP w2];exact .inr ⟨gy L Z k,k,_,_,_,k,_,_,rfl,rfl,eu H _,hk,hk⟩
theorem qW (H:er L Z){m0:Bool}{b:Int}{k k1 k2:Nat}{m1 m2:Bool}{t1 t2:TD}{P2:PP}(hb:0<=b)(hk1:k1<=L.length)(hk2:k2<=L.length)(hP:P.1.length<=100000):
  SimS L Z P m0 k (IF n (sF L Z b k1 m1 E P) t1) (IG n P (iF L Z b k2 m2) t2):=by
 rw[zE hP (su H.few hk1 _),zF hP (kA hb _)];exact .inr ⟨b,k1,_,_,_,k2,_,_,rfl,rfl,hb,hk1,hk2⟩
theorem AJ (H:er L Z)(hn:200000<=n){m0:Bool}(hP:P.1.length<=100000):∀f k m (t:TD),k<=L.length->L.length - k<f->t.2.length+(L.length - k)<=10000->(m=false->m0=false/\t.1.size<=30/\∀c∈t.2,IU c)->
  SimS L Z P m0 k (av.l0 n (IF n) f (sH L Z k m E P) t) (aF.l0 n P (IG n P) f (iH L Z k m) t)
 |0,k,m,t,hk,hf,hB,ho=>by omega
 |f+1,k,m,t,hk,hf,hB,ho=>by
  have hL:=H.few;unfold av.l0 aF.l0;rw[qi hL hk,jB hL hk,Jn,Jn,eL H (by simp[dA])]
  by_cases c:ig (aR L k) ⟨#[124]⟩=true
  ·obtain⟨hlt,_,_⟩:=eM c
   simp only[c,if_true];rcases DP (n:=n) (P:=P) (E:=E) H (by omega) (show k+1<=L.length by omega) (m:=m)with⟨a,k',m',e1,e2,h3,h4,h5,h6⟩|⟨a,a',p,k1,m1,k2,m2,e1,e2,h3,h4,h5⟩
   ·rw[e1,e2,Jn,Jn,ab (cC (by omega)),ab (cC (by omega))]
    refine(AJ H hn hP f k' m' _ h4 (by omega) (by simp;omega) ?_).up (by omega);intro hm;obtain⟨q1,q2,q3⟩:=ho (h5 hm);refine⟨q1,q2,λx hx=>?_⟩;rcases KM.1 hx with hx|hx
    ·exact q3 x hx
    ·rw[JZ.1 hx];exact h6 hm
   ·rw[e1,e2,Jn,Jn,ab (cC (by omega)),ab (cC (by omega))]
    obtain⟨g,rfl⟩:∃g,f=g+1:=⟨f - 1,by omega⟩
    unfold av.l0 aF.l0;rw[kz hL h4,gz h3,Jn,Jn,ao (by simp),ao (by simp)];exact qW (P2:=P) H h3 h4 h5 hP
  ·simp only[JT.2 c,JG,if_false]
   exact HR H hk hP ho
abbrev modL:List ByteArray:=[⟨#[105,110,112,117,116]⟩,⟨#[111,117,116,112,117,116]⟩,⟨#[105,110,108,105,110,101]⟩]
abbrev modI:List ByteArray:=[Jo,⟨#[105,110,112,117,116]⟩,⟨#[111,117,116,112,117,116]⟩,⟨#[105,110,108,105,110,101]⟩]
def nJ (t:Tk):Nat:=if mB t ⟨#[105,110,112,117,116]⟩=true then 1 else if mB t ⟨#[111,117,116,112,117,116]⟩=true then 2 else if mB t ⟨#[105,110,108,105,110,101]⟩=true then 3 else 0
theorem vy {K}{f:Nat}{st:RR}{d:RD}(i:Nat)(hi:i<3):
  av.l2 n modL (Jp modL:Int) K (f+1) (i:Int) st d=if(decide (d.2.2=0))=true then
   (aU.F n st (modL.getD i Jo)).bind λr=>if r.1=true then av.l2 n modL (Jp modL:Int) K f ((i+1:Nat):Int) r.2 (d.1,(d.2.1,((i+1:Nat):Int)))else av.l2 n modL (Jp modL:Int) K f ((i+1:Nat):Int) r.2 d
   else av.l2 n modL (Jp modL:Int) K f ((i+1:Nat):Int) st d:=by
 rw[av.l2];rw[ab (by simp;omega),ab (by simp;omega),nx (by omega)]
 rfl
theorem pP {K}{f:Nat}{st:RR}{d:RD}:av.l2 n modL (Jp modL:Int) K (f+1) 3 st d=K st d:=by
 rw[av.l2];rw[ao (by simp)]
theorem vz {K}{f:Nat}{st:RR}{d:RD}(hd:d.2.2≠0):∀i:Nat,i<=3->5<=f->av.l2 n modL (Jp modL:Int) K f (i:Int) st d=K st d:=by
 intro i hi hf;obtain⟨g,rfl⟩:∃g,f=g+5:=⟨f - 5,by omega⟩
 have st':=λ(i:Nat) (hi:i<3) (f:Nat)=>(vy (n:=n) (K:=K) (f:=f) (st:=st) (d:=d) i hi).trans (ao (by simp[hd]))
 rcases i with _|_|_|_|i
 ·rw[st' 0 (by omega),st' 1 (by omega),st' 2 (by omega)];exact pP
 ·rw[st' 1 (by omega),st' 2 (by omega)];exact pP
 ·rw[st' 2 (by omega)];exact pP
 ·exact pP
 ·omega
theorem HS (H:er L Z){K}{f:Nat}{k:Nat}{m:Bool}{nm:ByteArray}{ts:List ByteArray}(hk:k<=L.length)(hf:20<=f):
  av.l2 n modL (Jp modL:Int) K f 0 (sH L Z k m E P) (nm,(ts,0))=K (sH L Z (if nJ (aR L k)=0 then k else k+1) m E P) (nm,(ts,(nJ (aR L k):Int))):=by
 have hL:=H.few;obtain⟨g,rfl⟩:∃g,f=g+8:=⟨f - 8,by omega⟩
 have st':=λ(i:Nat) (hi:i<3) (f:Nat)=>(vy (n:=n) (K:=K) (f:=f) (st:=sH L Z k m E P) (d:=(nm,(ts,0))) i hi).trans (ab (by simp))
 have tk:∀i,i<3->aU.F n (sH L Z k m E P) (modL.getD i Jo)=some (mB (aR L k) (modL.getD i Jo),sH L Z (if mB (aR L k) (modL.getD i Jo)=true then k+1 else k) m E P):=by
  intro i hi;rw[qi hL hk,pM H];rcases i with _|_|_|i
  ·simp[lO]
  ·simp[lO]
  ·simp[lO]
  ·omega
 refine(st' 0 (by omega) _).trans ?_;rw[tk 0 (by omega),Jn];unfold nJ;show(if mB (aR L k) ⟨#[105,110,112,117,116]⟩=true then av.l2 n modL (Jp modL:Int) K _ _ (sH L Z (if mB (aR L k) ⟨#[105,110,112,117,116]⟩=true then k+1 else k) m E P) _ else av.l2 n modL (Jp modL:Int) K _ _ (sH L Z (if mB (aR L k) ⟨#[105,110,112,117,116]⟩=true then k+1 else k) m E P) _)=_;cases c0:mB (aR L k) ⟨#[105,110,112,117,116]⟩with
 |true=>
  simp only[if_true];exact vz (by simp) 1 (by omega) (by omega)
 |false=>
  simp only[JG,if_false];refine(st' 1 (by omega) _).trans ?_;rw[tk 1 (by omega),Jn];show(if mB (aR L k) ⟨#[111,117,116,112,117,116]⟩=true then av.l2 n modL (Jp modL:Int) K _ _ (sH L Z (if mB (aR L k) ⟨#[111,117,116,112,117,116]⟩=true then k+1 else k) m E P) _ else av.l2 n modL (Jp modL:Int) K _ _ (sH L Z (if mB (aR L k) ⟨#[111,117,116,112,117,116]⟩=true then k+1 else k) m E P) _)=_;cases c1:mB (aR L k) ⟨#[111,117,116,112,117,116]⟩with
  |true=>
   simp only[if_true];exact vz (by simp) 2 (by omega) (by omega)
  |false=>
   simp only[JG,if_false];refine(st' 2 (by omega) _).trans ?_;rw[tk 2 (by omega),Jn];show(if mB (aR L k) ⟨#[105,110,108,105,110,101]⟩=true then av.l2 n modL (Jp modL:Int) K _ _ (sH L Z (if mB (aR L k) ⟨#[105,110,108,105,110,101]⟩=true then k+1 else k) m E P) _ else av.l2 n modL (Jp modL:Int) K _ _ (sH L Z (if mB (aR L k) ⟨#[105,110,108,105,110,101]⟩=true then k+1 else k) m E P) _)=_;cases c2:mB (aR L k) ⟨#[105,110,108,105,110,101]⟩with
   |true=>
    simp only[if_true];exact vz (by simp) 3 (by omega) (by omega)
   |false=>
    simp only[JG,if_false];exact pP
theorem Jb (hL:L.length<=3000){K}{f:Nat}{b:Int}{k:Nat}{m:Bool}{nm:ByteArray}{ts:List ByteArray}(hk:k<=L.length)(hf:20<=f):
  av.l2 n modL (Jp modL:Int) K f 0 (sF L Z b k m E P) (nm,(ts,0))=K (sF L Z b k m E P) (nm,(ts,0)):=by
 obtain⟨g,rfl⟩:∃g,f=g+8:=⟨f - 8,by omega⟩
 have st':=λ(i:Nat) (hi:i<3) (f:Nat)=>(vy (n:=n) (K:=K) (f:=f) (st:=sF L Z b k m E P) (d:=(nm,(ts,0))) i hi).trans (ab (by simp))
 refine(st' 0 (by omega) _).trans ?_;rw[kz hL hk,Jn,ao (by simp),st' 1 (by omega),kz hL hk,Jn,ao (by simp),st' 2 (by omega),kz hL hk,Jn,ao (by simp)];exact pP
theorem AK {K}{f:Nat}{st:mg}{d:RD}{P:PP}(i:Nat)(hi:i<4)(h0:i≠0):
  aF.l2 n modI (Jp modI:Int) st P d K (f+1) (i:Int)=
   (bP.F n st (modI.getD i Jo)).bind λr=>if r=true then K (st.1,(Js.wrap (st.2.1+1),st.2.2)) (d.1,(d.2.1,(i:Int)))else aF.l2 n modI (Jp modI:Int) st P d K f ((i+1:Nat):Int):=by
 rw[aF.l2];rw[ab (by simp;omega),ab (by simp;omega),ab (by simp;omega),nx (by omega)]
 rfl
theorem im_0 {K}{f:Nat}{st:mg}{d:RD}{P:PP}:
  aF.l2 n modI (Jp modI:Int) st P d K (f+1) 0=aF.l2 n modI (Jp modI:Int) st P d K f 1:=by
 rw[aF.l2];rw[ab (by simp),ab (by simp),ao (by simp)]
 rfl
theorem DU {K}{f:Nat}{st:mg}{d:RD}{P:PP}:aF.l2 n modI (Jp modI:Int) st P d K (f+1) 4=K st d:=by
 rw[aF.l2];rw[ao (by simp)]
theorem HT (H:er L Z){K}{f:Nat}{k:Nat}{m:Bool}{nm:ByteArray}{ts:List ByteArray}{P:PP}(hk:k<=L.length)(hf:20<=f):
  aF.l2 n modI (Jp modI:Int) (iH L Z k m) P (nm,(ts,0)) K f 0=K (iH L Z (if nJ (aR L k)=0 then k else k+1) m) (nm,(ts,(nJ (aR L k):Int))):=by
 have hL:=H.few;obtain⟨g,rfl⟩:∃g,f=g+8:=⟨f - 8,by omega⟩
 have st':=λ(i:Nat) (hi:i<4) (h0:i≠0) (f:Nat)=>AK (n:=n) (K:=K) (f:=f) (st:=iH L Z k m) (d:=(nm,(ts,0))) (P:=P) i hi h0
 refine im_0.trans ?_;refine(st' 1 (by omega) (by omega) _).trans ?_;rw[nZ hL hk,Jn];unfold nJ;simp only[nx (show k<=1000000000 by omega)];show(if mB (aR L k) ⟨#[105,110,112,117,116]⟩=true then _ else _)=_;cases c0:mB (aR L k) ⟨#[105,110,112,117,116]⟩with
 |true=>rfl
 |false=>
  simp only[JG,if_false];refine(st' 2 (by omega) (by omega) _).trans ?_;rw[nZ hL hk,Jn];simp only[nx (show k<=1000000000 by omega)];show(if mB (aR L k) ⟨#[111,117,116,112,117,116]⟩=true then _ else _)=_;cases c1:mB (aR L k) ⟨#[111,117,116,112,117,116]⟩with
  |true=>rfl
  |false=>
   simp only[JG,if_false];refine(st' 3 (by omega) (by omega) _).trans ?_;rw[nZ hL hk,Jn];simp only[nx (show k<=1000000000 by omega)];show(if mB (aR L k) ⟨#[105,110,108,105,110,101]⟩=true then _ else _)=_;cases c2:mB (aR L k) ⟨#[105,110,108,105,110,101]⟩with
   |true=>rfl
   |false=>
    simp only[JG,if_false];exact DU
theorem Jc {K}{f:Nat}{b:Int}(hb:0<=b){k:Nat}{m:Bool}{nm:ByteArray}{ts:List ByteArray}{P:PP}(hf:20<=f):
  aF.l2 n modI (Jp modI:Int) (iF L Z b k m) P (nm,(ts,0)) K f 0=K (iF L Z b k m) (nm,(ts,0)):=by
 obtain⟨g,rfl⟩:∃g,f=g+8:=⟨f - 8,by omega⟩
 have st':=λ(i:Nat) (hi:i<4) (h0:i≠0) (f:Nat)=>AK (n:=n) (K:=K) (f:=f) (st:=iF L Z b k m) (d:=(nm,(ts,0))) (P:=P) i hi h0
 refine im_0.trans ((st' 1 (by omega) (by omega) _).trans ?_);rw[oP hb,Jn,ao (by simp),st' 2 (by omega) (by omega),oP hb,Jn,ao (by simp),st' 3 (by omega) (by omega),oP hb,Jn,ao (by simp)];exact DU
theorem DV {k:Nat}(hk:k<=L.length):(if nJ (aR L k)=0 then k else k+1)<=L.length:=by
 split
 ·exact hk
 ·rename_i h
  rcases Nat.lt_or_ge k L.length with h1|h1
  ·omega
  ·refine bH ?_ h
   rw[iZ (by omega)];unfold nJ mB
   simp
abbrev FQ (n:Nat)(st:RR)(d:RD):Option RR:=av.j1 n st d (λt=>some t)
def DW (n:Nat)(P:PP)(st:mg)(d:RD):Option (mg×PP):=
 aF.l2 n modI (Jp modI:Int) st P d (λt32 t33=>(aA.F n t32 ⟨#[46]⟩).bind λr34=>if Jp P.2.1+Jp [t33]<=aT then some (r34,(P.1,(P.2.1++[t33],P.2.2)))else none) n 0
theorem DX (H:er L Z)(hn:200000<=n){m0:Bool}{k:Nat}{m:Bool}{nm:ByteArray}{ts:List ByteArray}(hk:k<=L.length)(hP:P.2.1.length<=100000)(ho:m=false->m0=false/\nm.size<=30/\Cb ts):
  SimS L Z P m0 k (FQ n (sH L Z k m E P) (nm,(ts,0))) (DW n P (iH L Z k m) (nm,(ts,0))):=by
 have hL:=H.few;unfold FQ av.j1 DW;rw[HS H hk (by omega),HT H hk (by omega)];have hk':=DV hk;have hkk:k<=(if nJ (aR L k)=0 then k else k+1):=by split<;>omega
 generalize hk2:(if nJ (aR L k)=0 then k else k+1)=k2 at hk' hkk;rw[xw hL hk',n6 hL hk',Jn,Jn,eL H (by simp[dA])]
 by_cases c:ig (aR L k2) ⟨#[46]⟩=true
 ·obtain⟨hlt,_,_⟩:=eM c
  simp only[c,if_true];rw[ab (cC hP),ab (cC hP)];refine .inl ⟨E,_,k2+1,m,rfl,rfl,by omega,by omega,by simp[sA];omega,λh=>?_⟩;obtain⟨h1,h2,h3⟩:=ho h;refine⟨h1,λq=>⟨q.1,λx hx=>?_,q.2.2⟩⟩;rcases KM.1 hx with hx|hx
  ·exact q.2.1 x hx
  ·rw[JZ.1 hx];exact⟨h2,h3⟩
 ·simp only[JT.2 c,JG,if_false]
  rw[ab (cC hP),ab (cC hP)];exact .inr ⟨gy L Z k2,k2,_,_,_,k2,_,_,rfl,rfl,eu H _,hk',hk'⟩
theorem AL (H:er L Z)(hn:200000<=n){m0:Bool}{b:Int}{k k1 k2:Nat}{m1 m2:Bool}{nm1 nm2:ByteArray}{ts1 ts2:List ByteArray}(hb:0<=b)(hk1:k1<=L.length)(hk2:k2<=L.length)(hP:P.2.1.length<=100000):
  SimS L Z P m0 k (FQ n (sF L Z b k1 m1 E P) (nm1,(ts1,0))) (DW n P (iF L Z b k2 m2) (nm2,(ts2,0))):=by
 have hL:=H.few;unfold FQ av.j1 DW;rw[Jb hL hk1 (by omega),Jc hb (by omega),su hL hk1,kA hb,Jn,Jn,ab (cC hP),ab (cC hP)];exact .inr ⟨b,k1,_,_,_,k2,_,_,rfl,rfl,hb,hk1,hk2⟩
abbrev HU (n:Nat)(P:PP)(st:mg)(d:RD):Option (mg×PP):=aF.j1 n st P d (λa b=>some (a,b))
theorem vA {P:PP}{st st':mg}{d:RD}(h:aA.F n st ⟨#[41]⟩=some st'):HU n P st d=DW n P st' d:=by
 unfold HU aF.j1;rw[h,Jn];unfold ft.F;rw[Jn]
 rfl
theorem FR (H:er L Z)(hn:200000<=n){k:Nat}{m:Bool}(hk:k<L.length)(hP:sA P<=10000):
  SimS L Z P m (k+1) (av.F n (sH L Z k m E P)) (aF.F n (iH L Z k m) P):=by
 have hL:=H.few;have hk0:k<=L.length:=by omega
 have hk1:k+1<=L.length:=by omega
 have p1:P.1.length<=100000:=by unfold sA at hP;omega
 have p2:P.2.1.length<=100000:=by unfold sA at hP;omega
 have p3:P.2.2.length<=100000:=by unfold sA at hP;omega
 unfold av.F aF.F;rw[qi hL hk0,nZ hL hk0,Jn,Jn,pM H (by simp[lO])]
 by_cases ct:mB (aR L k) ⟨#[116,121,112,101]⟩=true
 ·-- a type
  simp only[ct,if_true];simp only[nx (show k<=1000000000 by omega)];rw[sv hL hk1 (by decide),xA hL hk1 (by decide),Jn,Jn]
  by_cases c2:(aR L (k+1)).1=2
  ·have hlt:=lP (L:=L) (k:=k+1) (by rw[c2];decide)
   have hk2:k+1+1<=L.length:=by omega
   simp only[c2,if_true];rw[xw hL hk2,n6 hL hk2,Jn,Jn,eL H (by simp[dA])]
   by_cases ce:ig (aR L (k+1+1)) ⟨#[61]⟩=true
   ·obtain⟨hlt2,_,_⟩:=eM ce
    simp only[ce,if_true];rcases DP (n:=n) (P:=P) (E:=E) H (by omega) (show k+1+1+1<=L.length by omega) (m:=m)with⟨a,k',m',e1,e2,h3,h4,h5,h6⟩|⟨a,a',p,k1,m1,k2,m2,e1,e2,h3,h4,h5⟩
    ·rw[e1,e2,Jn,Jn,ab (cC (by simp)),ab (cC (by simp))]
     refine(AJ (E:=E) H hn p1 n k' m' _ h4 (by omega) (by simp;omega) ?_).up (by omega);intro hm;refine⟨h5 hm,H.txt _ (eK hlt),λx hx=>?_⟩;rw[Kv,JZ]at hx;rw[hx];exact h6 hm
    ·rw[e1,e2,Jn,Jn,ab (cC (by simp)),ab (cC (by simp))]
     obtain⟨g,rfl⟩:∃g,n=g+1:=⟨n - 1,by omega⟩
     unfold av.l0 aF.l0;rw[kz hL h4,gz h3,Jn,Jn,ao (by simp),ao (by simp)];exact qW (P2:=P) H h3 h4 h5 p1
   ·simp only[JT.2 ce,JG,if_false]
    have hb:=eu H (k+1+1);rw[GN hL hk2,GO hb,Jn,Jn,ab (cC (by simp)),ab (cC (by simp))];obtain⟨g,rfl⟩:∃g,n=g+1:=⟨n - 1,by omega⟩
    unfold av.l0 aF.l0;rw[kz hL hk2,gz hb,Jn,Jn,ao (by simp),ao (by simp)];exact qW (P2:=P) H hb hk2 hk2 p1
  ·simp only[c2,if_false]
   have hb:=eu H (k+1);rw[su hL hk1,kA hb,Jn,Jn,GN hL hk1,GO hb,Jn,Jn,ab (cC (by simp)),ab (cC (by simp))];obtain⟨g,rfl⟩:∃g,n=g+1:=⟨n - 1,by omega⟩
   unfold av.l0 aF.l0;rw[kz hL hk1,gz hb,Jn,Jn,ao (by simp),ao (by simp)];exact qW (P2:=P) H hb hk1 hk1 p1
 simp only[JT.2 ct,JG,if_false];rw[qi hL hk0,nZ hL hk0,Jn,Jn,pM H (by simp[lO])]
 by_cases cr:mB (aR L k) ⟨#[114,101,108]⟩=true
 ·-- a relation
  simp only[cr,if_true];simp only[nx (show k<=1000000000 by omega)];have fault:∀(b:Int) (k0:Nat) (nm nm2:ByteArray),0<=b->k0<=L.length->SimS L Z P m (k+1)
    ((aU.F n (sF L Z b k0 m E P) ⟨#[41]⟩).bind λr17=>if(!r17.1)=true then(bw.F n r17.2).bind λr18=>FQ n r18.2 (nm,(r18.1,0))else FQ n r17.2 (nm,([],0)))
    ((bV.F n (iF L Z b k0 m) ⟨#[41]⟩).bind λr18=>if(!r18)=true then(bQ.F n (iF L Z b k0 m)).bind λr19=>HU n P r19.2 (nm2,(r19.1,0))else HU n P (iF L Z b k0 m) (nm2,([],0))):=by
   intro b k0 nm nm2 hb hk0;obtain⟨o1,m1,l1⟩:=FL (n:=n) (Z:=Z) (E:=E) (P:=P) (b:=b) (m:=m) hL (by omega) hk0;obtain⟨o2,m2,l2⟩:=FM (n:=n) (L:=L) (Z:=Z) (k:=k0) (m:=m) (by omega) hb;rw[kz hL hk0,C7 hb,Jn,Jn,ab (by simp),ab (by simp),l1,l2,Jn,Jn,vA (kA hb _)];exact AL H hn hb hk0 hk0 p2
  rw[sv hL hk1 (by decide),xA hL hk1 (by decide),Jn,Jn]
  by_cases c1:(aR L (k+1)).1=1
  ·have hlt:=lP (L:=L) (k:=k+1) (by rw[c1];decide)
   have hk2:k+1+1<=L.length:=by omega
   simp only[c1,if_true];rw[xw hL hk2,n6 hL hk2,Jn,Jn,eL H (by simp[dA])]
   by_cases cp:ig (aR L (k+1+1)) ⟨#[40]⟩=true
   ·obtain⟨hlt2,_,_⟩:=eM cp
    have hk3:k+1+1+1<=L.length:=by omega
    simp only[cp,if_true];rw[qi hL hk3,HH hL hk3,Jn,Jn,eL H (by simp[dA])]
    by_cases cq:ig (aR L (k+1+1+1)) ⟨#[41]⟩=true
    ·obtain⟨hlt3,_,_⟩:=eM cq
     simp only[cq,if_true];rw[ao (by simp),ao (by simp)];have w:=n6 (n:=n) (Z:=Z) (m:=m) hL hk3 ⟨#[41]⟩;rw[cq,ab rfl]at w;show SimS L Z P m (k+1) (FQ n _ _) (HU n P _ _);rw[vA w];exact(DX H hn (by omega) p2 λhm=>⟨hm,H.txt _ (eK hlt),by simp[Cb]⟩).up (by omega)
    ·simp only[JT.2 cq,JG,if_false]
     rw[ab (by simp),ab (by simp)];rcases xE (n:=n) (P:=P) (E:=E) H (by omega) hk3 (m:=m)with⟨a,k',m',e1,e2,h3,h4,h5,h6⟩|⟨a,a',p,k1,m1,k2,m2,e1,e2,h3,h4,h5⟩
     ·obtain⟨r,i1,i2⟩:=lw e2
      rw[e1,i1,Jn,Jn];show SimS L Z P m (k+1) (FQ n _ _) (HU n P _ _);rw[vA i2];exact(DX H hn h4 p2 λhm=>⟨h5 hm,H.txt _ (eK hlt),h6 hm⟩).up (by omega)
     ·obtain⟨r,i1,i2⟩:=lw e2
      rw[e1,i1,Jn,Jn];show SimS L Z P m (k+1) (FQ n _ _) (HU n P _ _);rw[vA i2];exact AL H hn h3 h4 h5 p2
   ·simp only[JT.2 cp,JG,if_false]
    exact fault _ _ _ _ (eu H _) hk2
  ·simp only[c1,if_false]
   have hb:=eu H (k+1);rw[su hL hk1,kA hb,Jn,Jn];exact fault _ _ _ _ hb hk1
 ·-- a rule
  simp only[JT.2 cr,JG,if_false];show SimS L Z P m (k+1) (DT n (sH L Z k m [] P)) _;rcases FP H hn hk0 p3 (m:=m)with⟨r,k',m',e1,e2,h3,h4,h5⟩|⟨r,b,k1,m1,E1,P1,k2,m2,e1,e2,h3,h4,h5⟩
  ·rw[e1,e2,Jn,ab (cC p3)]
   refine .inl ⟨_,_,k',m',rfl,rfl,h3,h4,by simp[sA];omega,λhm=>?_⟩;obtain⟨q1,q2⟩:=h5 hm;refine⟨q1,λq=>⟨q.1,q.2.1,λx hx=>?_⟩⟩;rcases KM.1 hx with hx|hx
   ·exact q.2.2 x hx
   ·rw[JZ.1 hx];exact q2
  ·rw[e1,e2,Jn,ab (cC p3)]
   exact .inr ⟨b,k1,m1,E1,P1,k2,m2,_,rfl,rfl,h3,h4,h5⟩
end
section
variable {L:List Tk} {Z:Int} {n:Nat}
abbrev P0:PP:=([],([],[]))
abbrev FT:Type:=PP×Int×Int
def AN (R:FT):Prop:=(R.2.2=0/\IE R.1/\R.1.1.length<=20/\R.1.2.1.length<=20/\R.1.2.2.length<=40)\/(R.2.2≠0/\R.1=P0)
def pS (n:Nat)(t7:RR):Option FT:=
 if t7.2.2.2.2.1=true then
 some (([],([],[])),t7.2.2.2.1,5)
 else
 (aW.F n t7 (Jp t7.2.2.2.2.2.2.2.1:Int) 20).bind λr8=>
 (aW.F n r8 (Jp r8.2.2.2.2.2.2.2.2.1:Int) 20).bind λr9=>
 (aW.F n r9 (Jp r9.2.2.2.2.2.2.2.2.2:Int) 40).bind λr10=>
 if r10.2.2.2.2.2.1=true then
 some (([],([],[])),0,6)
 else
 some (r10.2.2.2.2.2.2.2,0,0)
def pI (n:Nat)(t8:mg)(t9:PP):Option FT:=
 if decide (t8.2.2.2.1>=0)=true then
 some (([],([],[])),t8.2.2.2.1,5)
 else
 if t8.2.2.2.2=false then
 if(decide ((Jp t9.1:Int)>20))=false then
 if(decide ((Jp t9.2.1:Int)>20))=false then
 dy.j1 n (decide ((Jp t9.2.2:Int)>40)) ([],([],[])) t9 (λ_=>
 some (t9,0,0))
 else
 dy.j1 n true ([],([],[])) t9 (λ_=>
 some (t9,0,0))
 else
 dy.j1 n true ([],([],[])) t9 (λ_=>
 some (t9,0,0))
 else
 dy.j1 n true ([],([],[])) t9 (λ_=>
 some (t9,0,0))
def DY (m:Bool)(P:PP):FT:=if(m||decide ((P.1.length:Int)>20)||decide ((P.2.1.length:Int)>20)||decide ((P.2.2.length:Int)>40))=true then(P0,0,6)else(P,0,0)
theorem GP {k:Nat}{m:Bool}{E:List Xp}{P:PP}:pS n (sH L Z k m E P)=some (DY m P):=by
 unfold pS;rw[ao (by simp),mh,Jn,mh,Jn,mh,Jn];unfold DY;show(if(m||_||_||_)=true then _ else _)=some (if _ then _ else _)
 split<;>rfl
theorem IH {k:Nat}{m:Bool}{P:PP}:pI n (iH L Z k m) P=some (DY m P):=by
 unfold pI;rw[ao (by simp)];unfold DY;cases m with
 |true=>rw[ao (by simp)];rfl
 |false=>
  rw[ab rfl]
  by_cases c1:(P.1.length:Int)>20
  ·rw[ao (by simp;omega),iW c1];rfl
  ·rw[ab (by simp;omega),dq c1]
   by_cases c2:(P.2.1.length:Int)>20
   ·rw[ao (by simp;omega),iW c2];rfl
   ·rw[ab (by simp;omega),dq c2]
    unfold dy.j1
    by_cases c3:(P.2.2.length:Int)>40
    ·rw[iW c3];rfl
    ·rw[dq c3];rfl
theorem sB (H:er L Z)(hn:200000<=n):∀f k m E P,k<=L.length->sA P<=k->L.length - k<f->(m=false->IE P)->
  ∃R,eb.l0 n L P0 (pS n) f (sH L Z k m E P)=some R/\dy.l0 n L P0 (pI n) f (iH L Z k m) P=some R/\AN R
 |0,k,m,E,P,hk,hP,hf,ho=>by omega
 |f+1,k,m,E,P,hk,hP,hf,ho=>by
  have hL:=H.few;unfold eb.l0 dy.l0;rw[ab (show(!false)=true from rfl)]
  by_cases c:k<L.length
  ·have c':decide ((k:Int)<(L.length:Int))=true:=by simp;omega
   rw[ab c',ab (show decide ((-1:Int)<0)=true by decide),ab c'];rcases FR (n:=n) (E:=E) (P:=P) (m:=m) H hn c (by omega)with⟨E',P',k',m',e1,e2,h3,h4,h5,h6⟩|⟨b,k1,m1,E1,P1,k2,m2,P2,e1,e2,h3,h4,h5⟩
   ·rw[e1,e2,Jn,Jn]
    exact sB H hn f k' m' E' P' h4 (by omega) (by omega) λhm=>(h6 hm).2 (ho (h6 hm).1)
   ·rw[e1,e2,Jn,Jn]
    obtain⟨g,rfl⟩:∃g,f=g+1:=⟨f - 1,by omega⟩
    refine⟨(P0,b,5),?_,?_,.inr ⟨by simp,rfl⟩⟩
    ·unfold eb.l0
     rw[ao (by simp)]
     rfl
    ·unfold dy.l0
     rw[ao (by simp;omega)];unfold pI;rw[ab (by simp;omega)]
  ·have c':¬decide ((k:Int)<(L.length:Int))=true:=by simp;omega
   rw[ao c',ab (show decide ((-1:Int)<0)=true by decide),ao c',GP,IH];refine⟨_,rfl,rfl,?_⟩;unfold DY
   split
   ·exact .inr ⟨by simp,rfl⟩
   ·rename_i h
    simp only[Bool.or_eq_true,dg,not_or,Bool.not_eq_true]at h;obtain⟨⟨⟨h1,h2⟩,h3⟩,h4⟩:=h;exact .inl ⟨rfl,ho h1,by simp only;omega,by simp only;omega,by simp only;omega⟩
theorem DZ {s:ByteArray}(H:er L (s.size:Int))(hn:200000<=n)(h1:az.F n s=some (L,0,0))(h2:db.F n s=some (L,0,0)):
  ∃R,eb.F n s=some R/\dy.F n s=some R/\AN R:=by
 have hL:=H.few;obtain⟨R,e1,e2,e3⟩:=sB (n:=n) H hn n 0 false [] P0 (by omega) (by simp[sA]) (by omega) (λ_=>⟨by simp,by simp,by simp⟩);refine⟨R,?_,?_,e3⟩
 ·unfold eb.F
  rw[h1,Jn,ao (by simp)];exact e1
 ·unfold dy.F
  rw[h2,Jn,ao (by simp)];exact e2
theorem Cd {s:ByteArray}{L1 L2:List Tk}{p c:Int}(hc:c≠0)(h1:az.F n s=some (L1,p,c))(h2:db.F n s=some (L2,p,c)):
  ∃R,eb.F n s=some R/\dy.F n s=some R/\AN R:=by
 refine⟨(P0,p,c),?_,?_,.inr ⟨hc,rfl⟩⟩
 ·unfold eb.F
  rw[h1,Jn,ab (by simp[hc])]
 ·unfold dy.F
  rw[h2,Jn,ab (by simp[hc])]
end
end Go.Abs
