/- The parsers' programs. Conditions: none. -/
import Derived.Test.YtkelpajcfmghiaaGreatDoorF4
import Derived.Test.YtkelpajcfmghiaaGreatDoorT7
open Bool renaming and_eq_true → Jz,eq_false_iff → JV,false_eq_true → JI,not_false → K8,or_eq_false_iff → Lp,true_and → KD
open ByteArray renaming empty → Jq
open Go.Abs renaming seq → Km
open Go.IntKind renaming i64 → Ju
open List renaming getD_eq_getElem?_getD → Lm,length → Jr,length_cons → Jw,length_nil → JB,mem_append → KP,mem_singleton → Kb,nil_append → Kx
open Option renaming bind_eq_some_iff → LQ,bind_some → Jp
open Option.some renaming injEq → JD
open Prod.mk renaming injEq → JW
set_option linter.unusedVariables false
set_option linter.unusedSimpArgs false
namespace Go.Abs
abbrev Tk:Type:=Int×ByteArray×Int
abbrev Xp:Type:=Int×ByteArray×List Int
abbrev Rl:Type:=List Xp×Xp×List Xp
abbrev PP:Type:=List (ByteArray×List (ByteArray×List ByteArray))×List (ByteArray×(List ByteArray)×Int)×List Rl
abbrev RR:Type:=List Tk×Int×Int×Int×Bool×Bool×List Xp×PP
abbrev mh:Type:=List Tk×Int×Int×Int×Bool
def aR (L:List Tk)(k:Nat):Tk:=L.getD k (0,(Jq,0))
def gx (L:List Tk)(Z:Int)(k:Nat):Int:=if k<L.length then(aR L k).2.2 else Z
abbrev sH (L:List Tk)(Z:Int)(k:Nat)(m:Bool)(E:List Xp)(P:PP):RR:=(L,(k:Int),Z,0,false,m,E,P)
abbrev sF (L:List Tk)(Z:Int)(b:Int)(k:Nat)(m:Bool)(E:List Xp)(P:PP):RR:=(L,(k:Int),Z,b,true,m,E,P)
abbrev iH (L:List Tk)(Z:Int)(k:Nat)(m:Bool):mh:=(L,(k:Int),Z,-1,m)
abbrev iF (L:List Tk)(Z:Int)(b:Int)(k:Nat)(m:Bool):mh:=(L,(k:Int),Z,b,m)
def ym (t:Tk)(s:ByteArray):Bool:=(decide (t.1=5)||decide (t.1=1))&&decide (t.2.1=s)
def ii (t:Tk)(s:ByteArray):Bool:=decide (t.1=5)&&decide (t.2.1=s)
def mC (t:Tk)(s:ByteArray):Bool:=decide (t.1=1)&&decide (t.2.1=s)
theorem pH (a b:ByteArray):Km a b=decide (a=b):=by
 rw[jK a,jK b,gz]
 by_cases h:a.data.toList=b.data.toList
 ·rw[h];simp
 ·have:¬bt a.data.toList=bt b.data.toList:=λe=>h (by have:=congrArg (λx=>x.data.toList) e;simpa[eB]using this)
  rw[dq this,beq_eq_false_iff_ne];exact h
theorem ny {k:Nat}(h:k<=1000000000):IntKind.wrap .i64 ((k:Int)+1)=((k+1:Nat):Int):=by
 rw[aK _ (by omega) (by omega)];omega
theorem Jl {k j:Nat}(h:k<=1000000000)(hj:j<=10):IntKind.wrap .i64 ((k:Int)+(j:Int))=((k+j:Nat):Int):=by
 rw[aK _ (by omega) (by omega)];omega
theorem j7 {L:List Tk}{k:Nat}(h:¬k<L.length):aR L k=(0,(Jq,0)):=by
 unfold aR;rw[Lm,List.getElem?_eq_none (by omega)]
 rfl
section
variable {n:Nat} {L:List Tk} {Z:Int} (hL:L.length<=3000)
include hL in
theorem Iz {b:Int}{f m:Bool}{E:List Xp}{P:PP}{k j:Nat}(hk:k<=L.length)(hj:j<=10):
  bi.F n (L,(k:Int),Z,b,f,m,E,P) (j:Int)=some (if k+j<L.length then aR L (k+j)else(0,(Jq,Z))):=by
 unfold bi.F;simp only[Jl (show k<=1000000000 by omega) hj]
 by_cases h:k+j<L.length
 ·rw[ab (by simp;omega),ab (by omega),ab h]
  rfl
 ·rw[ao (by simp;omega),ao h]
include hL in
theorem oP {b:Int}{f m:Bool}{E:List Xp}{P:PP}{k:Nat}(hk:k<=L.length):
  bi.F n (L,(k:Int),Z,b,f,m,E,P) 0=some (if k<L.length then aR L k else(0,(Jq,Z))):=Iz (j:=0) hL hk (by omega)
include hL in
theorem uh {b:Int}{f m:Bool}{E:List Xp}{P:PP}{k:Nat}(hk:k<=L.length)(s:ByteArray):
  bT.F n (L,(k:Int),Z,b,f,m,E,P) s=some (!f&&ym (aR L k) s):=by
 unfold bT.F;rw[oP hL hk,Jp];cases f with
 |true=>rw[ao (by simp)];rfl
 |false=>
  rw[ab (by simp)];unfold ym
  by_cases h:k<L.length
  ·rw[ab h]
   simp only[pH]
   by_cases c1:(aR L k).1=5
   ·rw[ao (by simp[c1])];simp[c1]
   ·rw[ab (by simp[c1])]
    by_cases c2:(aR L k).1=1
    ·rw[ab (by simp[c2])];simp[c1,c2]
    ·rw[ao (by simp[c2])];simp[c1,c2]
  ·rw[ao h,j7 h]
   rfl
include hL in
theorem DE {m:Bool}{E:List Xp}{P:PP}{k:Nat}(hk:k<=L.length):dc.F n (sH L Z k m E P)=some (sF L Z (gx L Z k) k m E P):=by
 unfold dc.F gx;simp only[K8,if_true];rw[oP hL hk,Jp]
 by_cases h:k<L.length
 ·rw[ab h,ab h]
 ·rw[ao h,ao h]
include hL in
theorem qi {m:Bool}{E:List Xp}{P:PP}{k:Nat}(hk:k<=L.length)(s:ByteArray):aU.F n (sH L Z k m E P) s=some (ym (aR L k) s,sH L Z (if ym (aR L k) s=true then k+1 else k) m E P):=by
 unfold aU.F;rw[uh hL hk,Jp,K8,KD];cases h:ym (aR L k) s with
 |true=>rw[ab rfl,ab rfl];simp only[ny (show k<=1000000000 by omega)]
 |false=>rw[ao (by simp),ao (by simp)]
include hL in
theorem kA {b:Int}{m:Bool}{E:List Xp}{P:PP}{k:Nat}(hk:k<=L.length)(s:ByteArray):aU.F n (sF L Z b k m E P) s=some (false,sF L Z b k m E P):=by
 unfold aU.F;rw[uh hL hk,Jp]
 rfl
include hL in
theorem xx {m:Bool}{E:List Xp}{P:PP}{k:Nat}(hk:k<=L.length)(s:ByteArray):bp.F n (sH L Z k m E P) s=some (if ym (aR L k) s=true then sH L Z (k+1) m E P else sF L Z (gx L Z k) k m E P):=by
 unfold bp.F;rw[qi hL hk,Jp];cases h:ym (aR L k) s with
 |true=>rw[ao (by simp),ab rfl,ab rfl]
 |false=>
  rw[ab (by simp),ao (by simp)];simp only[JI,if_false];rw[DE hL hk,Jp]
include hL in
theorem su {b:Int}{m:Bool}{E:List Xp}{P:PP}{k:Nat}(hk:k<=L.length)(s:ByteArray):bp.F n (sF L Z b k m E P) s=some (sF L Z b k m E P):=by
 unfold bp.F;rw[kA hL hk,Jp]
 rfl
include hL in
theorem sv {m:Bool}{E:List Xp}{P:PP}{k:Nat}(hk:k<=L.length){K:Int}(hK:K≠0):bE.F n (sH L Z k m E P) K=some (if(aR L k).1=K then((aR L k).2.1,sH L Z (k+1) m E P)else(Jq,sF L Z (gx L Z k) k m E P)):=by
 unfold bE.F;rw[oP hL hk,Jp];simp only[if_true]
 by_cases h:k<L.length
 ·simp only[ab h]
  by_cases c:(aR L k).1=K
  ·rw[ao (by simp[c]),ab c]
   simp only[ny (show k<=1000000000 by omega)]
  ·rw[ab (by simp[c]),ao c,DE hL hk,Jp]
 ·simp only[ao h]
  rw[ab (by simp;omega),ao (by rw[j7 h];exact λh=>hK h.symm),DE hL hk,Jp]
include hL in
theorem DF {b:Int}{m:Bool}{E:List Xp}{P:PP}{k:Nat}(hk:k<=L.length){K:Int}:bE.F n (sF L Z b k m E P) K=some (Jq,sF L Z b k m E P):=by
 unfold bE.F;rw[oP hL hk,Jp]
 rfl
theorem mi {b:Int}{f m:Bool}{E:List Xp}{P:PP}{k:Int}{t most:Int}:aW.F n (L,k,Z,b,f,m,E,P) t most=some (L,k,Z,b,f,m||decide (t>most),E,P):=by
 unfold aW.F;cases m with
 |true=>rw[ao (by simp)];rfl
 |false=>rw[ab (by simp)];simp
include hL in
theorem xy {m:Bool}{E:List Xp}{P:PP}{k:Nat}(hk:k<=L.length):bg.F n (sH L Z k m E P)=some (sF L Z (gx L Z k) k m E P):=by
 unfold bg.F gx;simp only[K8,if_true];rw[oP hL hk,Jp]
 by_cases h:k<L.length
 ·rw[ab h,ab h]
 ·rw[ao h,ao h]
theorem HI {b:Int}{m:Bool}{E:List Xp}{P:PP}{k:Nat}:bg.F n (sF L Z b k m E P)=some (sF L Z b k m E P):=rfl
include hL in
theorem mZ {m:Bool}{E:List Xp}{P:PP}{k:Nat}(hk:k<=L.length)(s:ByteArray):aB.F n (sH L Z k m E P) s=some (ym (aR L k) s,sH L Z (if ym (aR L k) s=true then k+1 else k) m E P):=by
 unfold aB.F;rw[uh hL hk,Jp,K8,KD];cases h:ym (aR L k) s with
 |true=>rw[ab rfl,ab rfl];simp only[ny (show k<=1000000000 by omega)]
 |false=>rw[ao (by simp),ao (by simp)]
include hL in
theorem n6 {b:Int}{m:Bool}{E:List Xp}{P:PP}{k:Nat}(hk:k<=L.length)(s:ByteArray):aB.F n (sF L Z b k m E P) s=some (false,sF L Z b k m E P):=by
 unfold aB.F;rw[uh hL hk,Jp]
 rfl
include hL in
theorem AF {m:Bool}{E:List Xp}{P:PP}{k:Nat}(hk:k<=L.length)(s:ByteArray):bl.F n (sH L Z k m E P) s=some (if ym (aR L k) s=true then sH L Z (k+1) m E P else sF L Z (gx L Z k) k m E P):=by
 unfold bl.F;rw[mZ hL hk,Jp];cases h:ym (aR L k) s with
 |true=>rw[ao (by simp),ab rfl,ab rfl]
 |false=>
  rw[ab (by simp),ao (by simp)];simp only[JI,if_false];rw[xy hL hk,Jp]
include hL in
theorem vx {b:Int}{m:Bool}{E:List Xp}{P:PP}{k:Nat}(hk:k<=L.length)(s:ByteArray):bl.F n (sF L Z b k m E P) s=some (sF L Z b k m E P):=by
 unfold bl.F;rw[n6 hL hk,Jp]
 rfl
include hL in
theorem GH {m:Bool}{E:List Xp}{P:PP}{k:Nat}(hk:k<=L.length){K:Int}(hK:K≠0):de.F n (sH L Z k m E P) K=some (if(aR L k).1=K then((aR L k).2.1,sH L Z (k+1) m E P)else(Jq,sF L Z (gx L Z k) k m E P)):=by
 unfold de.F;rw[oP hL hk,Jp];simp only[if_true]
 by_cases h:k<L.length
 ·simp only[ab h]
  by_cases c:(aR L k).1=K
  ·rw[ao (by simp[c]),ab c]
   simp only[ny (show k<=1000000000 by omega)]
  ·rw[ab (by simp[c]),ao c,xy hL hk,Jp]
 ·simp only[ao h]
  rw[ab (by simp;omega),ao (by rw[j7 h];exact λh=>hK h.symm),xy hL hk,Jp]
theorem zx {b:Int}{f m:Bool}{E:List Xp}{P:PP}{k:Int}{t most:Int}:dl.F n (L,k,Z,b,f,m,E,P) t most=some (L,k,Z,b,f,m||decide (t>most),E,P):=by
 unfold dl.F;cases m with
 |true=>rw[ao (by simp)];rfl
 |false=>rw[ab (by simp)];simp
theorem pJ {b:Int}{f m:Bool}{E:List Xp}{P:PP}{k:Int}{K:Int}{t:ByteArray}{l:List Int}(h:E.length<=100000):bo.F n (L,k,Z,b,f,m,E,P) K t l=some ((E.length:Int),(L,k,Z,b,f,m,E++[(K,(t,l))],P)):=by
 unfold bo.F;simp only[];rw[ab (by simp only[Jw,JB,aT];omega),aK _ (by omega) (by simp;omega)]
 simp
include hL in
theorem GI {m:Bool}{k j:Nat}(hk:k<=L.length)(hj:j<=10):aZ.F n (iH L Z k m) (j:Int)=some (aR L (k+j)):=by
 unfold aZ.F;simp only[Jl (show k<=1000000000 by omega) hj];rw[ab (by simp)]
 by_cases h:k+j<L.length
 ·rw[ao (by simp;omega),ab (by omega)]
  rfl
 ·rw[ab (by simp;omega),j7 h]
include hL in
theorem pK {m:Bool}{k:Nat}(hk:k<=L.length):aZ.F n (iH L Z k m) 0=some (aR L k):=GI (j:=0) hL hk (by omega)
theorem xz {b:Int}(hb:0<=b){m:Bool}{k:Nat}(j:Int):aZ.F n (iF L Z b k m) j=some (0,(Jq,0)):=by
 unfold aZ.F;rw[ao (by simp;omega)]
include hL in
theorem HJ {m:Bool}{k:Nat}(hk:k<=L.length)(s:ByteArray):bV.F n (iH L Z k m) s=some (ii (aR L k) s):=by
 unfold bV.F ii;rw[pK hL hk,Jp]
 by_cases c:(aR L k).1=5
 ·rw[ab (by simp[c]),pH];simp[c]
 ·rw[ao (by simp[c])];simp[c]
theorem C8 {b:Int}(hb:0<=b){m:Bool}{k:Nat}(s:ByteArray):bV.F n (iF L Z b k m) s=some false:=by
 unfold bV.F;rw[xz hb,Jp]
 rfl
include hL in
theorem o5 {m:Bool}{k:Nat}(hk:k<=L.length)(s:ByteArray):bP.F n (iH L Z k m) s=some (mC (aR L k) s):=by
 unfold bP.F mC;rw[pK hL hk,Jp]
 by_cases c:(aR L k).1=1
 ·rw[ab (by simp[c]),pH];simp[c]
 ·rw[ao (by simp[c])];simp[c]
theorem oQ {b:Int}(hb:0<=b){m:Bool}{k:Nat}(s:ByteArray):bP.F n (iF L Z b k m) s=some false:=by
 unfold bP.F;rw[xz hb,Jp]
 rfl
include hL in
theorem xA {m:Bool}{k:Nat}(hk:k<=L.length):aY.F n (iH L Z k m)=some (iF L Z (gx L Z k) k m):=by
 have hL0:=hL;unfold aY.F gx;rw[ao (by simp)]
 by_cases h:k<L.length
 ·rw[ab (by simp;omega),ab (show(0:Int)<=(k:Int)/\(k:Int)<(L.length:Int)by omega),ab h]
  rfl
 ·rw[ao (by simp;omega),ao h]
theorem sw {b:Int}(hb:0<=b){m:Bool}{k:Nat}:aY.F n (iF L Z b k m)=some (iF L Z b k m):=by
 unfold aY.F;rw[ab (by simp;omega)]
include hL in
theorem jB {m:Bool}{k:Nat}(hk:k<=L.length)(s:ByteArray):aD.F n (iH L Z k m) s=some (ii (aR L k) s,iH L Z (if ii (aR L k) s=true then k+1 else k) m):=by
 unfold aD.F;rw[HJ hL hk,Jp];cases h:ii (aR L k) s with
 |true=>rw[ab rfl,ab rfl];simp only[ny (show k<=1000000000 by omega)]
 |false=>rw[ao (by simp),ao (by simp)]
theorem gy {b:Int}(hb:0<=b){m:Bool}{k:Nat}(s:ByteArray):aD.F n (iF L Z b k m) s=some (false,iF L Z b k m):=by
 unfold aD.F;rw[C8 hb,Jp]
 rfl
include hL in
theorem n7 {m:Bool}{k:Nat}(hk:k<=L.length)(s:ByteArray):aA.F n (iH L Z k m) s=some (if ii (aR L k) s=true then iH L Z (k+1) m else iF L Z (gx L Z k) k m):=by
 unfold aA.F;rw[jB hL hk,Jp];cases h:ii (aR L k) s with
 |true=>rw[ao (by simp),ab rfl,ab rfl]
 |false=>
  rw[ab (by simp),ao (by simp)];simp only[JI,if_false];rw[xA hL hk,Jp]
theorem kB {b:Int}(hb:0<=b){m:Bool}{k:Nat}(s:ByteArray):aA.F n (iF L Z b k m) s=some (iF L Z b k m):=by
 unfold aA.F;rw[gy hb,Jp,ab (by simp),sw hb,Jp]
include hL in
theorem xB {m:Bool}{k:Nat}(hk:k<=L.length){K:Int}(hK:K≠0):bR.F n (iH L Z k m) K=some (if(aR L k).1=K then((aR L k).2.1,iH L Z (k+1) m)else(Jq,iF L Z (gx L Z k) k m)):=by
 unfold bR.F;rw[pK hL hk,Jp]
 by_cases c:(aR L k).1=K
 ·rw[ao (by simp[c]),ab c]
  simp only[ny (show k<=1000000000 by omega)]
 ·rw[ab (by simp[c]),ao c,xA hL hk,Jp]
theorem HK {b:Int}(hb:0<=b){m:Bool}{k:Nat}{K:Int}(hK:K≠0):bR.F n (iF L Z b k m) K=some (Jq,iF L Z b k m):=by
 unfold bR.F;rw[xz hb,Jp,ab (by simp;omega),sw hb,Jp]
theorem pL {E:List Xp}{e:Xp}(h:E.length<=100000):bq.F n E e=some ((E.length:Int),E++[e]):=by
 unfold bq.F;rw[ab (by simp only[Jw,JB,aT];omega),aK _ (by omega) (by simp;omega)]
 simp
end
def dA:List ByteArray:=[⟨#[58,45]⟩,⟨#[33,61]⟩,⟨#[60,61]⟩,⟨#[40]⟩,⟨#[41]⟩,⟨#[44]⟩,⟨#[46]⟩,⟨#[33]⟩,⟨#[61]⟩,⟨#[60]⟩,⟨#[43]⟩,⟨#[45]⟩,⟨#[42]⟩,⟨#[124]⟩,⟨#[95]⟩]
def lP:List ByteArray:=[⟨#[116,121,112,101]⟩,⟨#[114,101,108]⟩,⟨#[110,117,109,98,101,114]⟩,⟨#[115,121,109,98,111,108]⟩,⟨#[105,110,112,117,116]⟩,⟨#[111,117,116,112,117,116]⟩,⟨#[105,110,108,105,110,101]⟩]
structure ek (L:List Tk) (Z:Int):Prop where
 few:L.length<=3000
 zp:0<=Z
 pos:∀t∈L,0<=t.2.2
 txt:∀t∈L,t.2.1.size<=30
 sg:∀t∈L,t.1=1->t.2.1∉dA
 wd:∀t∈L,t.1=5->t.2.1∉lP
 num:∀n,100000<=n->∀s,(s=Jq\/∃t∈L,t.1=3/\t.2.1=s)->∃a b u,bn.F n s=some a/\bO.F n (Ju.wrap (0 - a.1))=some u/\iL.F n s=some b/\cI.F n (Ju.wrap (0 - b))=some u/\u.size<=30
section
variable {L:List Tk} {Z:Int} {n:Nat}
theorem eK {k:Nat}(h:k<L.length):aR L k∈L:=by
 unfold aR;rw[Lm,List.getElem?_eq_getElem h,Option.getD_some];exact List.getElem_mem h
theorem lQ {k:Nat}(h:(aR L k).1≠0):k<L.length:=by
 rcases Nat.lt_or_ge k L.length with h1|h1
 ·exact h1
 ·exact bH (by rw[j7 (by omega)]) h
theorem eL (H:ek L Z){s:ByteArray}(hs:s∈dA)(k:Nat):ym (aR L k) s=ii (aR L k) s:=by
 unfold ym ii
 by_cases c:(aR L k).1=1
 ·have hk:=lQ (L:=L) (k:=k) (by rw[c];decide)
  have:=H.sg _ (eK hk) c;have hne:¬(aR L k).2.1=s:=λe=>this (e▸hs)
  simp[hne]
 ·simp[c]
theorem pM (H:ek L Z){s:ByteArray}(hs:s∈lP)(k:Nat):ym (aR L k) s=mC (aR L k) s:=by
 unfold ym mC
 by_cases c:(aR L k).1=5
 ·have hk:=lQ (L:=L) (k:=k) (by rw[c];decide)
  have:=H.wd _ (eK hk) c;have hne:¬(aR L k).2.1=s:=λe=>this (e▸hs)
  simp[hne]
 ·simp[c]
theorem eM {k:Nat}{s:ByteArray}(h:ii (aR L k) s=true):k<L.length/\(aR L k).1=5/\(aR L k).2.1=s:=by
 unfold ii at h;simp only[Jz,dg]at h;exact⟨lQ (by rw[h.1];decide),h.1,h.2⟩
theorem xC {t:Tk}{s:ByteArray}(h:t.2.1≠s):ii t s=false:=by
 unfold ii
 simp[h]
theorem er (H:ek L Z)(k:Nat):0<=gx L Z k:=by
 unfold gx
 split
 ·exact H.pos _ (eK ‹_›)
 ·exact H.zp
def OkE (B:Prop)(m:Bool)(E:List Xp):Prop:=m=false->B/\∀e∈E,e.2.1.size<=30/\e.2.2.length<=6
theorem OkE.app {B:Prop}{m:Bool}{E:List Xp}{e:Xp}(h:OkE B m E)(h1:m=false->e.2.1.size<=30/\e.2.2.length<=6):OkE B m (E++[e]):=by
 intro hm;refine⟨(h hm).1,λx hx=>?_⟩;rcases KP.1 hx with hx|hx
 ·exact(h hm).2 x hx
 ·rw[Kb.1 hx];exact h1 hm
theorem OkE.or {B:Prop}{m c:Bool}{E:List Xp}(h:OkE B m E):OkE B (m||c) E:=by
 intro hm;have:m=false:=by cases m<;>simp_all
 exact h this
def SimX {α:Type}(L:List Tk)(Z:Int)(P:PP)(k:Nat)(m:Bool)(E:List Xp)(Q:Bool->α->Prop)(x:Option (α×RR))(y:Option (α×mh×List Xp)):Prop:=
 (∃a k' m' E',x=some (a,sH L Z k' m' E' P)/\y=some (a,iH L Z k' m',E')/\k<=k'/\k'<=L.length/\E'.length+k<=k'+E.length/\(∀B,OkE B m E->OkE B m' E'/\Q m' a))\/
 (∃a a' b k1 m1 E1 k2 m2 E2,x=some (a,sF L Z b k1 m1 E1 P)/\y=some (a',iF L Z b k2 m2,E2)/\0<=b/\k1<=L.length/\k2<=L.length/\E1.length+k<=k1+E.length/\E2.length+k<=k2+E.length)
theorem SimX.up {α:Type}{P:PP}{k k0:Nat}{m m0:Bool}{E E0:List Xp}{Q:Bool->α->Prop}{x:Option (α×RR)}{y:Option (α×mh×List Xp)}(h:SimX L Z P k m E Q x y)(hk:k0<=k)(he:E.length+k0<=k+E0.length)(ho:∀B,OkE B m0 E0->OkE B m E):SimX L Z P k0 m0 E0 Q x y:=by
 rcases h with⟨a,k',m',E',h1,h2,h3,h4,h5,h6⟩|⟨a,a',b,k1,m1,E1,k2,m2,E2,e1,e2,h3,h4,h5,h6,h7⟩
 ·exact .inl ⟨a,k',m',E',h1,h2,by omega,h4,by omega,λB h=>h6 B (ho B h)⟩
 ·exact .inr ⟨a,a',b,k1,m1,E1,k2,m2,E2,e1,e2,h3,h4,h5,by omega,by omega⟩
abbrev qT:Bool->Int->Prop:=λ_ _=>True
def qL {α:Type}:Bool->List α->Prop:=λm o=>m=false->o.length<=6
abbrev FH (n:Nat):=ak.l0 n (ae.F n) (af.F n) (ak.F n) (aj.F n)
abbrev FI (n:Nat):=ai.l0 n (ac.F n) (aa.F n) (ai.F n) (ag.F n)
abbrev DG (n:Nat):=af.l0 n (ae.F n) (af.F n) (ak.F n) (aj.F n)
abbrev DH (n:Nat):=aa.l0 n (ac.F n) (aa.F n) (ai.F n) (ag.F n)
abbrev FJ (n:Nat):=ae.l0 n (ae.F n) (af.F n) (ak.F n) (aj.F n)
abbrev FK (n:Nat):=ac.l0 n (ac.F n) (aa.F n) (ai.F n) (ag.F n)
theorem HL (hL:L.length<=3000){b:Int}{k:Nat}{m:Bool}{E:List Xp}{P:PP}(hk:k<=L.length):aj.F (n+1) (sF L Z b k m E P)=some (0,sF L Z b k m E P):=by
 show aj.G n (ae.F n) (af.F n) (ak.F n) (aj.F n) (sF L Z b k m E P)=_;unfold aj.G;rw[oP hL hk,Jp,ab rfl]
theorem zy (hL:L.length<=3000){b:Int}{k:Nat}{m:Bool}{E:List Xp}{P:PP}(hk:k<=L.length){K}(f:Nat)(a:Int):FH n K (f+1) a (sF L Z b k m E P)=K a (sF L Z b k m E P):=by
 unfold FH ak.l0;rw[n6 hL hk,Jp,ao (by simp)]
theorem HM (hL:L.length<=3000){b:Int}{k:Nat}{m:Bool}{E:List Xp}{P:PP}(hk:k<=L.length):ak.F (n+2) (sF L Z b k m E P)=some (0,sF L Z b k m E P):=by
 show ak.G (n+1) (ae.F (n+1)) (af.F (n+1)) (ak.F (n+1)) (aj.F (n+1)) (sF L Z b k m E P)=_;unfold ak.G;rw[HL hL hk,Jp];exact zy hL hk _ _
theorem DI (hL:L.length<=3000){b:Int}{k:Nat}{m:Bool}{E:List Xp}{P:PP}(hk:k<=L.length){K}(f:Nat)(a:Int):DG n K (f+1) a (sF L Z b k m E P)=K a (sF L Z b k m E P):=by
 unfold DG af.l0;rw[uh hL hk,Jp,uh hL hk,Jp]
 rfl
theorem IA (hL:L.length<=3000){b:Int}{k:Nat}{m:Bool}{E:List Xp}{P:PP}(hk:k<=L.length):af.F (n+3) (sF L Z b k m E P)=some (0,sF L Z b k m E P):=by
 show af.G (n+2) (ae.F (n+2)) (af.F (n+2)) (ak.F (n+2)) (aj.F (n+2)) (sF L Z b k m E P)=_;unfold af.G;rw[HM hL hk,Jp];exact DI hL hk _ _
theorem zz (hL:L.length<=3000){b:Int}{k:Nat}{m:Bool}{E:List Xp}{P:PP}(hk:k<=L.length){K}(f:Nat)(o:List Int):FJ n K (f+1) (sF L Z b k m E P) o=K (sF L Z b k m E P) o:=by
 unfold FJ ae.l0;rw[n6 hL hk,Jp,ao (by simp)]
theorem HN {b:Int}(hb:0<=b){k:Nat}{m:Bool}{E:List Xp}:ag.F (n+1) (iF L Z b k m) E=some (0,iF L Z b k m,E):=by
 show ag.G n (ac.F n) (aa.F n) (ai.F n) (ag.F n) (iF L Z b k m) E=_;unfold ag.G;rw[xz hb,Jp,ab (by simp)];unfold ag.j0;rw[ao (by simp),ao (by simp),gy hb,Jp,ao (by simp),gy hb,Jp,ao (by simp),ao (by simp),gy hb,Jp,ao (by simp)];show(aY.F n (iF L Z b k m)).bind _=_;rw[sw hb,Jp]
theorem zA {b:Int}(hb:0<=b){k:Nat}{m:Bool}{E:List Xp}{K}(f:Nat)(a:Int):FI n K (f+1) a (iF L Z b k m) E=K a (iF L Z b k m) E:=by
 unfold FI ai.l0;rw[gy hb,Jp,ao (by simp)]
theorem HO {b:Int}(hb:0<=b){k:Nat}{m:Bool}{E:List Xp}:ai.F (n+2) (iF L Z b k m) E=some (0,iF L Z b k m,E):=by
 show ai.G (n+1) (ac.F (n+1)) (aa.F (n+1)) (ai.F (n+1)) (ag.F (n+1)) (iF L Z b k m) E=_;unfold ai.G;rw[HN hb,Jp];exact zA hb _ _
theorem DJ {b:Int}(hb:0<=b){k:Nat}{m:Bool}{E:List Xp}{K}(f:Nat)(a:Int):DH n K (f+1) a (iF L Z b k m) E=K a (iF L Z b k m) E:=by
 unfold DH aa.l0;rw[C8 hb,Jp,C8 hb,Jp]
 rfl
theorem IB {b:Int}(hb:0<=b){k:Nat}{m:Bool}{E:List Xp}:aa.F (n+3) (iF L Z b k m) E=some (0,iF L Z b k m,E):=by
 show aa.G (n+2) (ac.F (n+2)) (aa.F (n+2)) (ai.F (n+2)) (ag.F (n+2)) (iF L Z b k m) E=_;unfold aa.G;rw[HO hb,Jp];exact DJ hb _ _
theorem zB {b:Int}(hb:0<=b){k:Nat}{m:Bool}{E:List Xp}{K}(f:Nat)(o:List Int):FK n K (f+1) (iF L Z b k m) E o=K (iF L Z b k m) E o:=by
 unfold FK ac.l0;rw[gy hb,Jp,ao (by simp)]
def AG (L:List Tk)(Z:Int)(n:Nat):Prop:=∀k m E P,k<=L.length->E.length<=k->4*(L.length - k)+100002<=n->SimX L Z P k m E qT (aj.F n (sH L Z k m E P)) (ag.F n (iH L Z k m) E)
def AH (L:List Tk)(Z:Int)(n:Nat):Prop:=∀k m E P,k<=L.length->E.length<=k->4*(L.length - k)+100003<=n->SimX L Z P k m E qT (ak.F n (sH L Z k m E P)) (ai.F n (iH L Z k m) E)
def DK (L:List Tk)(Z:Int)(n:Nat):Prop:=∀k m E P,k<=L.length->E.length<=k->4*(L.length - k)+100004<=n->SimX L Z P k m E qT (af.F n (sH L Z k m E P)) (aa.F n (iH L Z k m) E)
def AI (n:Nat)(p:mh)(E:List Xp):Option (List Int×mh×List Xp):=(ac.F n p E).bind λr=>(aA.F n r.2.1 ⟨#[41]⟩).bind λw=>some (r.1,w,r.2.2)
def GJ (L:List Tk)(Z:Int)(n:Nat):Prop:=∀k m E P,k<=L.length->E.length<=k->4*(L.length - k)+100005<=n->
 SimX L Z P k m E qL (ae.F n (sH L Z k m E P)) (AI n (iH L Z k m) E)
theorem mj {p p':mh}{E E':List Xp}{a:List Int}(h:AI n p E=some (a,p',E')):∃r,ac.F n p E=some (a,r,E')/\aA.F n r ⟨#[41]⟩=some p':=by
 unfold AI at h;obtain⟨r,h1,h2⟩:=LQ.1 h;obtain⟨w,h3,h4⟩:=LQ.1 h2;simp only[JD,JW]at h4;obtain⟨q1,q2,q3⟩:=h4;subst q2;refine⟨r.2.1,?_,h3⟩;rw[h1,← q1,← q3]
theorem C9 (H:ek L Z)(hl:GJ L Z n)(he:DK L Z n):AG L Z (n+1):=by
 intro k m E P hk hE hn;have hL:=H.few;have hn0:100001<=n:=by omega
 show SimX L Z P k m E qT (aj.G n (ae.F n) (af.F n) (ak.F n) (aj.F n) (sH L Z k m E P))
  (ag.G n (ac.F n) (aa.F n) (ai.F n) (ag.F n) (iH L Z k m) E)
 unfold aj.G ag.G;rw[oP hL hk,pK hL hk,Jp,Jp,ao (by simp)];obtain⟨r,hr⟩:∃r:Tk,r=if k<L.length then aR L k else(0,(Jq,Z)):=⟨_,rfl⟩
 have r1:r.1=(aR L k).1:=by
  rw[hr]
  split
  ·rfl
  ·rw[j7 ‹_›]
 have r2:r.2.1=(aR L k).2.1:=by
  rw[hr]
  split
  ·rfl
  ·rw[j7 ‹_›]
 rw[← hr];have bG:=λ(s:ByteArray) (hs:s∈dA)=>eL H hs k
 by_cases c3:(aR L k).1=3\/(aR L k).1=4
 ·-- a number,a text
  have hlt:=lQ (L:=L) (k:=k) (by rcases c3 with h|h<;>rw[h]<;>decide);refine .inl ⟨(E.length:Int),k+1,m,E++[(3,((aR L k).2.1,[]))],?_,?_,by omega,by omega,by simp;omega,λB h=>⟨h.app λ_=>⟨H.txt _ (eK hlt),by simp⟩,trivial⟩⟩
  ·rcases c3 with h|h
   ·rw[ao (by simp[r1,h])]
    unfold aj.j0;rw[ab rfl,r2];simp only[ny (show k<=1000000000 by omega)];rw[pJ (by omega),Jp]
   ·rw[ab (by simp[r1,h])]
    unfold aj.j0;rw[ab (by simp[r1,h]),r2];simp only[ny (show k<=1000000000 by omega)];rw[pJ (by omega),Jp]
  ·rcases c3 with h|h
   ·rw[ao (by simp[h])]
    unfold ag.j0;rw[ab rfl,pL (by omega),Jp];simp only[ny (show k<=1000000000 by omega)]
   ·rw[ab (by simp[h])]
    unfold ag.j0;rw[ab (by simp[h]),pL (by omega),Jp];simp only[ny (show k<=1000000000 by omega)]
 have c3':¬(aR L k).1=3:=λh=>c3 (.inl h)
 have c4':¬(aR L k).1=4:=λh=>c3 (.inr h)
 rw[ab (by simp[r1,c3']),ab (by simp[c3'])];unfold aj.j0 ag.j0;rw[ao (by simp[r1,c4']),ao (by simp[c4']),mZ hL hk,Jp,bG _ (by simp[dA]),r1,r2]
 by_cases cm:ii (aR L k) ⟨#[45]⟩=true
 ·-- a minus sign
  obtain⟨hlt,g5,gt⟩:=eM cm;have hu:ii (aR L k) ⟨#[95]⟩=false:=xC (by rw[gt];decide);simp only[cm,if_true];rw[ao (by simp[g5]),jB hL hk,Jp,hu,ao (by simp)];simp only[JI,if_false];rw[jB hL hk,Jp,cm,ab rfl];simp only[if_true];rw[GH hL (show k+1<=L.length by omega) (by decide),xB hL (show k+1<=L.length by omega) (by decide),Jp,Jp]
  by_cases cw:(aR L (k+1)).1=3
  ·have hlt2:=lQ (L:=L) (k:=k+1) (by rw[cw];decide)
   obtain⟨a,b,u,n1,n2,n3,n4,n5⟩:=H.num n (by omega) (aR L (k+1)).2.1 (.inr ⟨_,eK hlt2,cw,rfl⟩);simp only[cw,if_true];refine .inl ⟨(E.length:Int),k+1+1,m,E++[(3,(u,[]))],?_,?_,by omega,by omega,by simp;omega,λB h=>⟨h.app λ_=>⟨n5,by simp⟩,trivial⟩⟩
   ·rw[n1,Jp,n2,Jp,pJ (by omega),Jp]
   ·rw[n3,Jp,n4,Jp,pL (by omega),Jp]
  ·obtain⟨a,b,u,n1,n2,n3,n4,n5⟩:=H.num n (by omega) Jq (.inl rfl)
   simp only[cw,if_false];refine .inr ⟨(E.length:Int),(E.length:Int),gx L Z (k+1),k+1,m,E++[(3,(u,[]))],k+1,m,E++[(3,(u,[]))],?_,?_,er H _,by omega,by omega,by simp;omega,by simp;omega⟩
   ·rw[n1,Jp,n2,Jp,pJ (by omega),Jp]
   ·rw[n3,Jp,n4,Jp,pL (by omega),Jp]
 rw[JV.2 cm,ao (by simp)];simp only[JI,if_false]
 by_cases c1:(aR L k).1=1
 ·-- a variable
  have hlt:=lQ (L:=L) (k:=k) (by rw[c1];decide);rw[ab (by simp[c1]),ab (by simp[c1])];refine .inl ⟨(E.length:Int),k+1,m,E++[(1,((aR L k).2.1,[]))],?_,?_,by omega,by omega,by simp;omega,λB h=>⟨h.app λ_=>⟨H.txt _ (eK hlt),by simp⟩,trivial⟩⟩
  ·simp only[ny (show k<=1000000000 by omega)]
   rw[pJ (by omega),Jp]
  ·rw[pL (by omega),Jp]
   simp only[ny (show k<=1000000000 by omega)]
 rw[ao (by simp[c1]),ao (by simp[c1]),mZ hL hk,Jp,jB hL hk,Jp,bG _ (by simp[dA])]
 by_cases cu:ii (aR L k) ⟨#[95]⟩=true
 ·-- an underscore
  obtain⟨hlt,g5,gt⟩:=eM cu;simp only[cu,if_true];refine .inl ⟨(E.length:Int),k+1,m,E++[(2,(Jq,[]))],?_,?_,by omega,by omega,by simp;omega,λB h=>⟨h.app λ_=>⟨by simp,by simp⟩,trivial⟩⟩
  ·rw[pJ (by omega),Jp]
  ·rw[pL (by omega),Jp]
 simp only[JV.2 cu,JI,if_false];rw[jB hL hk,Jp];simp only[JV.2 cm,JI,if_false]
 by_cases c2:(aR L k).1=2
 ·-- a constructor
  have hlt:=lQ (L:=L) (k:=k) (by rw[c2];decide);rw[ab (by simp[c2]),ab (by simp[c2])];simp only[ny (show k<=1000000000 by omega)];rw[mZ hL (show k+1<=L.length by omega),jB hL (show k+1<=L.length by omega),Jp,Jp,eL H (by simp[dA]) (k+1)]
  by_cases cp:ii (aR L (k+1)) ⟨#[40]⟩=true
  ·obtain⟨hlt2,_,_⟩:=eM cp
   simp only[cp,if_true];rcases hl (k+1+1) m E P (by omega) (by omega) (by omega)with⟨a,k',m',E',e1,e2,h3,h4,h5,h8⟩|⟨a,a',b,k1,m1,E1,k2,m2,E2,e1,e2,h3,h4,h5,h6,h7⟩
   ·obtain⟨r,i1,i2⟩:=mj e2
    refine .inl ⟨(E'.length:Int),k',m',E'++[(4,((aR L k).2.1,a))],?_,?_,by omega,h4,by simp;omega,λB h=>⟨(h8 B h).1.app λhm=>⟨H.txt _ (eK hlt),(h8 B h).2 hm⟩,trivial⟩⟩
    ·rw[e1,Jp,pJ (by omega),Jp]
    ·rw[i1,Jp,i2,Jp,pL (E:=E') (by omega),Jp]
   ·obtain⟨r,i1,i2⟩:=mj e2
    refine .inr ⟨(E1.length:Int),(E2.length:Int),b,k1,m1,E1++[(4,((aR L k).2.1,a))],k2,m2,E2++[(4,((aR L k).2.1,a'))],?_,?_,h3,h4,h5,by simp;omega,by simp;omega⟩
    ·rw[e1,Jp,pJ (by omega),Jp]
    ·rw[i1,Jp,i2,Jp,pL (E:=E2) (by omega),Jp]
  ·simp only[JV.2 cp,JI,if_false]
   refine .inl ⟨(E.length:Int),k+1,m,E++[(4,((aR L k).2.1,[]))],?_,?_,by omega,by omega,by simp;omega,λB h=>⟨h.app λ_=>⟨H.txt _ (eK hlt),by simp⟩,trivial⟩⟩
   ·rw[pJ (by omega),Jp]
   ·rw[pL (by omega),Jp]
 rw[ao (by simp[c2]),ao (by simp[c2]),mZ hL hk,jB hL hk,Jp,Jp,bG _ (by simp[dA])]
 by_cases cp:ii (aR L k) ⟨#[40]⟩=true
 ·obtain⟨hlt,_,_⟩:=eM cp
  simp only[cp,if_true];rcases he (k+1) m E P (by omega) (by omega) (by omega)with⟨a,k',m',E',e1,e2,h3,h4,h5,h8⟩|⟨a,a',b,k1,m1,E1,k2,m2,E2,e1,e2,h3,h4,h5,h6,h7⟩
  ·rw[e1,e2,Jp,Jp,AF hL h4,n7 hL h4,Jp,Jp,eL H (by simp[dA])]
   by_cases cq:ii (aR L k') ⟨#[41]⟩=true
   ·obtain⟨hlt2,_,_⟩:=eM cq
    simp only[cq,if_true];exact .inl ⟨a,k'+1,m',E',rfl,rfl,by omega,by omega,by omega,h8⟩
   ·simp only[JV.2 cq,JI,if_false]
    exact .inr ⟨a,a,gx L Z k',k',m',E',k',m',E',rfl,rfl,er H _,h4,h4,by omega,by omega⟩
  ·rw[e1,e2,Jp,Jp,vx hL h4,kB h3,Jp,Jp]
   exact .inr ⟨a,a',b,k1,m1,E1,k2,m2,E2,rfl,rfl,h3,h4,h5,by omega,by omega⟩
 ·simp only[JV.2 cp,JI,if_false]
  refine .inr ⟨0,0,gx L Z k,k,m,E,k,m,E,?_,?_,er H _,hk,hk,by omega,by omega⟩
  ·show(bg.F n (sH L Z k m E P)).bind _=_
   rw[xy hL hk,Jp]
  ·show(aY.F n (iH L Z k m)).bind _=_
   rw[xA hL hk,Jp]
end
section
variable {L:List Tk} {Z:Int} {n:Nat}
theorem ui (H:ek L Z)(hp:AG L Z n)(P:PP):∀f k m E a,k<=L.length->E.length<=k->4*(L.length - k)+100002<=n->L.length - k<f->
  SimX L Z P k m E qT (FH n (λt r=>some (t,r)) f a (sH L Z k m E P)) (FI n (λt p r=>some (t,p,r)) f a (iH L Z k m) E)
 |0,k,m,E,a,hk,hE,hn,hf=>by omega
 |f+1,k,m,E,a,hk,hE,hn,hf=>by
  have hL:=H.few;unfold FH FI ak.l0 ai.l0;rw[mZ hL hk,jB hL hk,Jp,Jp,eL H (by simp[dA])]
  by_cases c:ii (aR L k) ⟨#[42]⟩=true
  ·obtain⟨hlt,_,_⟩:=eM c
   simp only[c,if_true];rcases hp (k+1) m E P (by omega) (by omega) (by omega)with⟨b,k',m',E',e1,e2,h3,h4,h5,h8⟩|⟨b,b',p,k1,m1,E1,k2,m2,E2,e1,e2,h3,h4,h5,h6,h7⟩
   ·rw[e1,e2,Jp,Jp]
    rw[pJ (by omega),pL (E:=E') (by omega),Jp,Jp];exact(ui H hp P f k' m' _ _ h4 (by simp;omega) (by omega) (by omega)).up (by omega) (by simp;omega) λB h=>(h8 B h).1.app λ_=>⟨by simp,by simp⟩
   ·rw[e1,e2,Jp,Jp]
    rw[pJ (by omega),pL (E:=E2) (by omega),Jp,Jp];obtain⟨g,rfl⟩:∃g,f=g+1:=⟨f - 1,by omega⟩
    refine .inr ⟨_,_,p,k1,m1,_,k2,m2,_,zy hL h4 g _,zA h3 g _,h3,h4,h5,by simp;omega,by simp;omega⟩
  ·simp only[JV.2 c,JI,if_false]
   exact .inl ⟨a,k,m,E,rfl,rfl,by omega,hk,by omega,λB h=>⟨h,trivial⟩⟩
theorem Ca (H:ek L Z)(hp:AG L Z n):AH L Z (n+1):=by
 intro k m E P hk hE hn;have hL:=H.few;show SimX L Z P k m E qT (ak.G n (ae.F n) (af.F n) (ak.F n) (aj.F n) (sH L Z k m E P))
  (ai.G n (ac.F n) (aa.F n) (ai.F n) (ag.F n) (iH L Z k m) E)
 unfold ak.G ai.G;rcases hp k m E P hk hE (by omega)with⟨b,k',m',E',e1,e2,h3,h4,h5,h8⟩|⟨b,b',p,k1,m1,E1,k2,m2,E2,e1,e2,h3,h4,h5,h6,h7⟩
 ·rw[e1,e2,Jp,Jp]
  exact(ui H hp P n k' m' E' b h4 (by omega) (by omega) (by omega)).up (by omega) (by omega) λB h=>(h8 B h).1
 ·rw[e1,e2,Jp,Jp]
  obtain⟨g,rfl⟩:∃g,n=g+1:=⟨n - 1,by omega⟩
  exact .inr ⟨_,_,p,k1,m1,_,k2,m2,_,zy hL h4 g _,zA h3 g _,h3,h4,h5,by omega,by omega⟩
theorem xD (H:ek L Z)(hp:AH L Z n)(P:PP):∀f k m E a,k<=L.length->E.length<=k->4*(L.length - k)+100003<=n->L.length - k<f->
  SimX L Z P k m E qT (DG n (λt r=>some (t,r)) f a (sH L Z k m E P)) (DH n (λt p r=>some (t,p,r)) f a (iH L Z k m) E)
 |0,k,m,E,a,hk,hE,hn,hf=>by omega
 |f+1,k,m,E,a,hk,hE,hn,hf=>by
  have hL:=H.few;unfold DG DH af.l0 aa.l0;rw[uh hL hk,HJ hL hk,Jp,Jp,eL H (by simp[dA])];have main:∀K:Int,(aR L k).1=5->SimX L Z P k m E qT
    (af.j2 n (ae.F n) (af.F n) (ak.F n) (aj.F n) a K (sH L Z k m E P) (λt r=>DG n (λt r=>some (t,r)) f t r))
    (aa.j2 n (ac.F n) (aa.F n) (ai.F n) (ag.F n) a K (iH L Z k m) E (λt p r=>DH n (λt p r=>some (t,p,r)) f t p r)):=by
   intro K g5;have hlt:=lQ (L:=L) (k:=k) (by rw[g5];decide);unfold af.j2 aa.j2;simp only[ny (show k<=1000000000 by omega)];rcases hp (k+1) m E P (by omega) (by omega) (by omega)with⟨b,k',m',E',e1,e2,h3,h4,h5,h8⟩|⟨b,b',p,k1,m1,E1,k2,m2,E2,e1,e2,h3,h4,h5,h6,h7⟩
   ·rw[e1,e2,Jp,Jp]
    rw[pJ (by omega),pL (E:=E') (by omega),Jp,Jp];exact(xD H hp P f k' m' _ _ h4 (by simp;omega) (by omega) (by omega)).up (by omega) (by simp;omega) λB h=>(h8 B h).1.app λ_=>⟨by simp,by simp⟩
   ·rw[e1,e2,Jp,Jp]
    rw[pJ (by omega),pL (E:=E2) (by omega),Jp,Jp];obtain⟨g,rfl⟩:∃g,f=g+1:=⟨f - 1,by omega⟩
    refine .inr ⟨_,_,p,k1,m1,_,k2,m2,_,DI hL h4 g _,DJ h3 g _,h3,h4,h5,by simp;omega,by simp;omega⟩
  by_cases c:ii (aR L k) ⟨#[43]⟩=true
  ·obtain⟨hlt,g5,gt⟩:=eM c
   have c2:ii (aR L k) ⟨#[45]⟩=false:=xC (by rw[gt];decide);rw[c,ao (by simp),ao (by simp)];unfold af.j1 aa.j1;rw[uh hL hk,HJ hL hk,Jp,Jp,eL H (by simp[dA]),c2,ao (by simp),ao (by simp)];exact main 5 g5
  ·rw[JV.2 c,ab (by simp),ab rfl,uh hL hk,HJ hL hk,Jp,Jp,eL H (by simp[dA])]
   by_cases c2:ii (aR L k) ⟨#[45]⟩=true
   ·obtain⟨hlt,g5,gt⟩:=eM c2
    rw[c2,ab (by simp),ab (by simp)];unfold af.j1 aa.j1;rw[uh hL hk,HJ hL hk,Jp,Jp,eL H (by simp[dA]),c2,ab (by simp),ab (by simp)];exact main 6 g5
   ·rw[JV.2 c2,ao (by simp),ao (by simp)]
    exact .inl ⟨a,k,m,E,rfl,rfl,by omega,hk,by omega,λB h=>⟨h,trivial⟩⟩
theorem DL (H:ek L Z)(hp:AH L Z n):DK L Z (n+1):=by
 intro k m E P hk hE hn;have hL:=H.few;show SimX L Z P k m E qT (af.G n (ae.F n) (af.F n) (ak.F n) (aj.F n) (sH L Z k m E P))
  (aa.G n (ac.F n) (aa.F n) (ai.F n) (ag.F n) (iH L Z k m) E)
 unfold af.G aa.G;rcases hp k m E P hk hE (by omega)with⟨b,k',m',E',e1,e2,h3,h4,h5,h8⟩|⟨b,b',p,k1,m1,E1,k2,m2,E2,e1,e2,h3,h4,h5,h6,h7⟩
 ·rw[e1,e2,Jp,Jp]
  exact(xD H hp P n k' m' E' b h4 (by omega) (by omega) (by omega)).up (by omega) (by omega) λB h=>(h8 B h).1
 ·rw[e1,e2,Jp,Jp]
  obtain⟨g,rfl⟩:∃g,n=g+1:=⟨n - 1,by omega⟩
  exact .inr ⟨_,_,p,k1,m1,_,k2,m2,_,DI hL h4 g _,DJ h3 g _,h3,h4,h5,by omega,by omega⟩
def IU (r:RR)(o:List Int)(n:Nat):Option (List Int×RR):=
 (bl.F n r ⟨#[41]⟩).bind λr9=>(dl.F n r9 (Jr o:Int) 6).bind λr10=>some (o,r10)
def IV (p:mh)(r:List Xp)(o:List Int):Option (List Int×mh×List Xp):=
 if p.2.2.2.2=false then
 some (o,(p.1,(p.2.1,(p.2.2.1,(p.2.2.2.1,decide ((Jr o:Int)>6))))),r)
 else
 some (o,(p.1,(p.2.1,(p.2.2.1,(p.2.2.2.1,true)))),r)
theorem zC {b:Int}{k:Nat}{m:Bool}{r:List Xp}{o:List Int}:IV (iF L Z b k m) r o=some (o,iF L Z b k (m||decide ((Jr o:Int)>6)),r):=by
 unfold IV;cases m<;>simp
theorem DM (hL:L.length<=3000){b:Int}{k:Nat}{m:Bool}{E:List Xp}{P:PP}(hk:k<=L.length){o:List Int}:IU (sF L Z b k m E P) o n=some (o,sF L Z b k (m||decide ((Jr o:Int)>6)) E P):=by
 unfold IU;rw[vx hL hk,Jp,zx,Jp]
def n8 (n:Nat)(x:Option (List Int×mh×List Xp)):Option (List Int×mh×List Xp):=x.bind λr=>(aA.F n r.2.1 ⟨#[41]⟩).bind λw=>some (r.1,w,r.2.2)
theorem GK {n0:Nat}{b:Int}(hb:0<=b){k:Nat}{m:Bool}{r:List Xp}{o:List Int}:n8 n0 (IV (iF L Z b k m) r o)=some (o,iF L Z b k (m||decide ((Jr o:Int)>6)),r):=by
 rw[zC];unfold n8;rw[Jp,kB hb,Jp]
theorem GM {α:Type}{m:Bool}{o:List α}:qL (m||decide ((Jr o:Int)>6)) o:=by
 intro h;simp only[Lp,vK]at h;omega
theorem uj {n0:Nat}(H:ek L Z)(hp:DK L Z n)(P:PP):∀f k m E o,k<=L.length->E.length<=k->4*(L.length - k)+100004<=n->L.length - k<f->o.length+(L.length - k)<=10000->
  SimX L Z P k m E qL (FJ n (λr o=>IU r o n) f (sH L Z k m E P) o) (n8 n0 (FK n IV f (iH L Z k m) E o))
 |0,k,m,E,o,hk,hE,hn,hf,ho=>by omega
 |f+1,k,m,E,o,hk,hE,hn,hf,ho=>by
  have hL:=H.few;unfold FJ FK ae.l0 ac.l0;rw[mZ hL hk,jB hL hk,Jp,Jp,eL H (by simp[dA])]
  by_cases c:ii (aR L k) ⟨#[44]⟩=true
  ·obtain⟨hlt,_,_⟩:=eM c
   simp only[c,if_true];rcases hp (k+1) m E P (by omega) (by omega) (by omega)with⟨b,k',m',E',e1,e2,h3,h4,h5,h8⟩|⟨b,b',p,k1,m1,E1,k2,m2,E2,e1,e2,h3,h4,h5,h6,h7⟩
   ·rw[e1,e2,Jp,Jp,ab (by simp only[Jw,JB,aT];omega),ab (by simp only[Jw,JB,aT];omega)]
    exact(uj H hp P f k' m' E' _ h4 (by omega) (by omega) (by omega) (by simp;omega)).up (by omega) (by omega) λB h=>(h8 B h).1
   ·rw[e1,e2,Jp,Jp,ab (by simp only[Jw,JB,aT];omega),ab (by simp only[Jw,JB,aT];omega)]
    obtain⟨g,rfl⟩:∃g,f=g+1:=⟨f - 1,by omega⟩
    exact .inr ⟨o++[b],o++[b'],p,k1,_,E1,k2,_,E2,(zz hL h4 g _).trans (DM hL h4),(congrArg (n8 n0) (zB h3 g _)).trans (GK h3),h3,h4,h5,by omega,by omega⟩
  ·simp only[JV.2 c,JI,if_false]
   rw[zC];unfold IU n8;rw[AF hL hk,Jp,Jp,n7 hL hk,eL H (by simp[dA])]
   by_cases cq:ii (aR L k) ⟨#[41]⟩=true
   ·obtain⟨hlt,_,_⟩:=eM cq
    simp only[cq,if_true];rw[zx];exact .inl ⟨o,k+1,_,E,rfl,rfl,by omega,by omega,by omega,λB h=>⟨h.or,GM⟩⟩
   ·simp only[JV.2 cq,JI,if_false]
    rw[zx];exact .inr ⟨o,o,gx L Z k,k,_,E,k,_,E,rfl,rfl,er H _,hk,hk,by omega,by omega⟩
theorem Cb {n0:Nat}(H:ek L Z)(hp:DK L Z n)(k m E P)(hk:k<=L.length)(hE:E.length<=k)(hn:4*(L.length - k)+100004<=n):
  SimX L Z P k m E qL (ae.F (n+1) (sH L Z k m E P)) (n8 n0 (ac.F (n+1) (iH L Z k m) E)):=by
 have hL:=H.few;show SimX L Z P k m E qL (ae.G n (ae.F n) (af.F n) (ak.F n) (aj.F n) (sH L Z k m E P))
  (n8 n0 (ac.G n (ac.F n) (aa.F n) (ai.F n) (ag.F n) (iH L Z k m) E))
 unfold ae.G ac.G;rcases hp k m E P hk hE (by omega)with⟨b,k',m',E',e1,e2,h3,h4,h5,h8⟩|⟨b,b',p,k1,m1,E1,k2,m2,E2,e1,e2,h3,h4,h5,h6,h7⟩
 ·rw[e1,e2,Jp,Jp]
  exact(uj H hp P n k' m' E' [b] h4 (by omega) (by omega) (by omega) (by simp;omega)).up (by omega) (by omega) λB h=>(h8 B h).1
 ·rw[e1,e2,Jp,Jp]
  obtain⟨g,rfl⟩:∃g,n=g+1:=⟨n - 1,by omega⟩
  exact .inr ⟨[b],[b'],p,k1,_,E1,k2,_,E2,(zz hL h4 g _).trans (DM hL h4),(congrArg (n8 n0) (zB h3 g _)).trans (GK h3),h3,h4,h5,by omega,by omega⟩
theorem sx (H:ek L Z):∀n,AG L Z n/\AH L Z n/\DK L Z n/\GJ L Z n
 |0=>⟨λk m E P _ _ h=>by omega,λk m E P _ _ h=>by omega,λk m E P _ _ h=>by omega,λk m E P _ _ h=>by omega⟩
 |n+1=>by
  obtain⟨h1,h2,h3,h4⟩:=sx H n;exact⟨C9 H h4 h3,Ca H h1,DL H h2,λk m E P hk hE hn=>Cb (n0:=n+1) H h3 k m E P hk hE (by omega)⟩
theorem DN (H:ek L Z)(k m E P)(hk:k<=L.length)(hE:E.length<=k)(hn:200000<=n):SimX L Z P k m E qT (af.F n (sH L Z k m E P)) (aa.F n (iH L Z k m) E):=
 (sx H n).2.2.1 k m E P hk hE (by have:=H.few;omega)
theorem FL (H:ek L Z)(k m E P)(hk:k<=L.length)(hE:E.length<=k)(hn:200000<=n):SimX L Z P k m E qL (ae.F n (sH L Z k m E P)) (AI n (iH L Z k m) E):=
 (sx H n).2.2.2 k m E P hk hE (by have:=H.few;omega)
end
def SimT {α:Type}(L:List Tk)(Z:Int)(P:PP)(E:List Xp)(k:Nat)(m:Bool)(Q:Bool->α->Prop)(x:Option (α×RR))(y:Option (α×mh)):Prop:=
 (∃a k' m',x=some (a,sH L Z k' m' E P)/\y=some (a,iH L Z k' m')/\k<=k'/\k'<=L.length/\(m'=false->m=false)/\Q m' a)\/
 (∃a a' b k1 m1 k2 m2,x=some (a,sF L Z b k1 m1 E P)/\y=some (a',iF L Z b k2 m2)/\0<=b/\k1<=L.length/\k2<=L.length)
theorem SimT.up {α:Type}{L:List Tk}{Z:Int}{P:PP}{E:List Xp}{k k0:Nat}{m m0:Bool}{Q:Bool->α->Prop}{x:Option (α×RR)}{y:Option (α×mh)}(h:SimT L Z P E k m Q x y)(hk:k0<=k)(hm:m=false->m0=false):SimT L Z P E k0 m0 Q x y:=by
 rcases h with⟨a,k',m',h1,h2,h3,h4,h5,h6⟩|h
 ·exact .inl ⟨a,k',m',h1,h2,by omega,h4,λh=>hm (h5 h),h6⟩
 ·exact .inr h
abbrev qS:Bool->ByteArray->Prop:=λ_ a=>a.size<=30
def Cc (l:List ByteArray):Prop:=l.length<=6/\∀t∈l,t.size<=30
abbrev Jm:Bool->List ByteArray->Prop:=λm l=>m=false->Cc l
def IW (c:ByteArray×List ByteArray):Prop:=c.1.size<=30/\Cc c.2
abbrev qC:Bool->(ByteArray×List ByteArray)->Prop:=λm c=>m=false->IW c
section
variable {L:List Tk} {Z:Int} {n:Nat} {P:PP} {E:List Xp}
theorem IC (hL:L.length<=3000){b:Int}{k:Nat}{m:Bool}(hk:k<=L.length):dn.F n (sF L Z b k m E P)=some (Jq,sF L Z b k m E P):=by
 unfold dn.F;rw[uh hL hk,Jp,ab (by simp),uh hL hk,Jp,ao (by simp),DF hL hk,Jp]
theorem ID {b:Int}(hb:0<=b){k:Nat}{m:Bool}:dp.F n (iF L Z b k m)=some (Jq,iF L Z b k m):=by
 unfold dp.F;rw[xz hb,Jp,ab (by simp),oQ hb,Jp,ab (by simp),oQ hb,Jp,ab (by simp),sw hb,Jp]
theorem DO (H:ek L Z){k:Nat}{m:Bool}(hk:k<=L.length):SimT L Z P E k m qS (dn.F n (sH L Z k m E P)) (dp.F n (iH L Z k m)):=by
 have hL:=H.few;have done:∀K:Int,K≠0->(aR L k).1=K->SimT L Z P E k m qS (some ((aR L k).2.1,sH L Z (k+1) m E P)) (some ((aR L k).2.1,iH L Z (k+1) m)):=by
  intro K hK g;have hlt:=lQ (L:=L) (k:=k) (by rw[g];exact hK);exact .inl ⟨_,k+1,m,rfl,rfl,by omega,by omega,id,H.txt _ (eK hlt)⟩
 have j0:dp.j0 n (iH L Z k m) (aR L k)=some ((aR L k).2.1,iH L Z (k+1) m):=by
  unfold dp.j0;simp only[ny (show k<=1000000000 by omega)]
 unfold dn.F dp.F;rw[uh hL hk,Jp,pK hL hk,Jp,pM H (by simp[lP]),K8,KD]
 by_cases c2:(aR L k).1=2
 ·have w:∀s,mC (aR L k) s=false:=λs=>by unfold mC;simp[c2]
  rw[w,ab rfl,uh hL hk,Jp,pM H (by simp[lP]),w,ao (by simp),sv hL hk (by decide),ab c2,Jp,ao (by simp[c2]),j0];exact done 2 (by decide) c2
 ·rw[ab (by simp[c2]) (c:=(!decide ((aR L k).1=2))=true),o5 hL hk,Jp]
  cases w1:mC (aR L k) ⟨#[110,117,109,98,101,114]⟩with
  |true=>
   have g:(aR L k).1=1:=by unfold mC at w1;simp only[Jz,dg]at w1;exact w1.1
   rw[ao (by simp),ao (by simp),sv hL hk (by decide),ab g,Jp,j0];exact done 1 (by decide) g
  |false=>
   rw[ab rfl,ab (by simp),uh hL hk,Jp,pM H (by simp[lP]),K8,KD,o5 hL hk,Jp];cases w2:mC (aR L k) ⟨#[115,121,109,98,111,108]⟩with
   |true=>
    have g:(aR L k).1=1:=by unfold mC at w2;simp only[Jz,dg]at w2;exact w2.1
    rw[ab (by simp),ao (by simp),sv hL hk (by decide),ab g,Jp,j0];exact done 1 (by decide) g
   |false=>
    rw[ao (by simp),ab (by simp),sv hL hk (by decide),ao c2,Jp,xA hL hk,Jp];exact .inr ⟨_,_,gx L Z k,k,m,k,m,rfl,rfl,er H _,hk,hk⟩
def IX (n:Nat)(r:RR)(o:List ByteArray):Option (List ByteArray×RR):=
 (bp.F n r ⟨#[41]⟩).bind λr9=>(aW.F n r9 (Jr o:Int) 6).bind λr10=>some (o,r10)
def IY (p:mh)(o:List ByteArray):Option (List ByteArray×mh):=
 if p.2.2.2.2=false then
 some (o,(p.1,(p.2.1,(p.2.2.1,(p.2.2.2.1,decide ((Jr o:Int)>6))))))
 else
 some (o,(p.1,(p.2.1,(p.2.2.1,(p.2.2.2.1,true)))))
def ml (n:Nat)(x:Option (List ByteArray×mh)):Option (List ByteArray×mh):=x.bind λr=>(aA.F n r.2 ⟨#[41]⟩).bind λw=>some (r.1,w)
theorem zD {b:Int}{k:Nat}{m:Bool}{o:List ByteArray}:IY (iF L Z b k m) o=some (o,iF L Z b k (m||decide ((Jr o:Int)>6))):=by
 unfold IY;cases m<;>simp
theorem DP (hL:L.length<=3000){b:Int}{k:Nat}{m:Bool}(hk:k<=L.length){o:List ByteArray}:IX n (sF L Z b k m E P) o=some (o,sF L Z b k (m||decide ((Jr o:Int)>6)) E P):=by
 unfold IX;rw[su hL hk,Jp,mi,Jp]
theorem GN {b:Int}(hb:0<=b){k:Nat}{m:Bool}{o:List ByteArray}:ml n (IY (iF L Z b k m) o)=some (o,iF L Z b k (m||decide ((Jr o:Int)>6))):=by
 rw[zD];unfold ml;rw[Jp,kB hb,Jp]
theorem HQ (hL:L.length<=3000){b:Int}{k:Nat}{m:Bool}(hk:k<=L.length){K}(f:Nat)(o:List ByteArray):bu.l0 n K (f+1) (sF L Z b k m E P) o=K (sF L Z b k m E P) o:=by
 unfold bu.l0;rw[kA hL hk,Jp,ao (by simp)]
theorem HR {b:Int}(hb:0<=b){k:Nat}{m:Bool}{K}(f:Nat)(o:List ByteArray):bQ.l0 n K (f+1) (iF L Z b k m) o=K (iF L Z b k m) o:=by
 unfold bQ.l0;rw[gy hb,Jp,ao (by simp)]
theorem xE {m c:Bool}(h:(m||c)=false):m=false:=by cases m<;>simp_all
theorem sy (H:ek L Z):∀f k m o,k<=L.length->L.length - k<f->o.length+(L.length - k)<=10000->(∀t∈o,t.size<=30)->
  SimT L Z P E k m Jm (bu.l0 n (λr o=>IX n r o) f (sH L Z k m E P) o) (ml n (bQ.l0 n IY f (iH L Z k m) o))
 |0,k,m,o,hk,hf,ho,hs=>by omega
 |f+1,k,m,o,hk,hf,ho,hs=>by
  have hL:=H.few;unfold bu.l0 bQ.l0;rw[qi hL hk,jB hL hk,Jp,Jp,eL H (by simp[dA])]
  by_cases c:ii (aR L k) ⟨#[44]⟩=true
  ·obtain⟨hlt,_,_⟩:=eM c
   simp only[c,if_true];rcases DO (n:=n) (P:=P) (E:=E) H (show k+1<=L.length by omega) (m:=m)with⟨a,k',m',e1,e2,h3,h4,h5,h6⟩|⟨a,a',p,k1,m1,k2,m2,e1,e2,h3,h4,h5⟩
   ·rw[e1,e2,Jp,Jp,ab (by simp only[Jw,JB,aT];omega),ab (by simp only[Jw,JB,aT];omega)]
    refine(sy H f k' m' _ h4 (by omega) (by simp;omega) ?_).up (by omega) h5;intro t ht;rcases KP.1 ht with ht|ht
    ·exact hs t ht
    ·rw[Kb.1 ht];exact h6
   ·rw[e1,e2,Jp,Jp,ab (by simp only[Jw,JB,aT];omega),ab (by simp only[Jw,JB,aT];omega)]
    obtain⟨g,rfl⟩:∃g,f=g+1:=⟨f - 1,by omega⟩
    exact .inr ⟨o++[a],o++[a'],p,k1,_,k2,_,(HQ hL h4 g _).trans (DP hL h4),(congrArg (ml n) (HR h3 g _)).trans (GN h3),h3,h4,h5⟩
  ·simp only[JV.2 c,JI,if_false]
   rw[zD];unfold IX ml;rw[xx hL hk,Jp,Jp,n7 hL hk,eL H (by simp[dA])]
   by_cases cq:ii (aR L k) ⟨#[41]⟩=true
   ·obtain⟨hlt,_,_⟩:=eM cq
    simp only[cq,if_true];rw[mi];exact .inl ⟨o,k+1,_,rfl,rfl,by omega,by omega,xE,λh=>⟨GM (α:=ByteArray) (m:=m) h,hs⟩⟩
   ·simp only[JV.2 cq,JI,if_false]
    rw[mi];exact .inr ⟨o,o,gx L Z k,k,_,k,_,rfl,rfl,er H _,hk,hk⟩
theorem xF (H:ek L Z)(hn:4000<=n){k:Nat}{m:Bool}(hk:k<=L.length):SimT L Z P E k m Jm (bu.F n (sH L Z k m E P)) (ml n (bQ.F n (iH L Z k m))):=by
 have hL:=H.few;unfold bu.F bQ.F;rcases DO (n:=n) (P:=P) (E:=E) H hk (m:=m)with⟨a,k',m',e1,e2,h3,h4,h5,h6⟩|⟨a,a',p,k1,m1,k2,m2,e1,e2,h3,h4,h5⟩
 ·rw[e1,e2,Jp,Jp]
  exact(sy H n k' m' [a] h4 (by omega) (by simp;omega) (by intro t ht;rw[Kb.1 ht];exact h6)).up h3 h5
 ·rw[e1,e2,Jp,Jp]
  obtain⟨g,rfl⟩:∃g,n=g+1:=⟨n - 1,by omega⟩
  exact .inr ⟨[a],[a'],p,k1,_,k2,_,(HQ hL h4 g _).trans (DP hL h4),(congrArg (ml _) (HR h3 g _)).trans (GN h3),h3,h4,h5⟩
theorem FM (hL:L.length<=3000)(hn:4000<=n){b:Int}{k:Nat}{m:Bool}(hk:k<=L.length):∃o m',bu.F n (sF L Z b k m E P)=some (o,sF L Z b k m' E P):=by
 obtain⟨g,rfl⟩:∃g,n=g+1:=⟨n - 1,by omega⟩
 unfold bu.F;rw[IC hL hk,Jp];exact⟨_,_,(HQ hL hk g _).trans (DP hL hk)⟩
theorem FN (hn:4000<=n){b:Int}(hb:0<=b){k:Nat}{m:Bool}:∃o m',bQ.F n (iF L Z b k m)=some (o,iF L Z b k m'):=by
 obtain⟨g,rfl⟩:∃g,n=g+1:=⟨n - 1,by omega⟩
 unfold bQ.F;rw[ID hb,Jp];exact⟨_,_,(HR hb g _).trans zD⟩
theorem GO (hL:L.length<=3000){b:Int}{k:Nat}{m:Bool}(hk:k<=L.length):dm.F n (sF L Z b k m E P)=some ((Jq,[]),sF L Z b k m E P):=by
 unfold dm.F;rw[DF hL hk,Jp,kA hL hk,Jp,ao (by simp)]
theorem GP {b:Int}(hb:0<=b){k:Nat}{m:Bool}:ei.F n (iF L Z b k m)=some ((Jq,[]),iF L Z b k m):=by
 unfold ei.F;rw[HK hb (by decide),Jp,gy hb,Jp,ao (by simp)]
theorem lx {x:Option (List ByteArray×mh)}{a:List ByteArray}{p:mh}(h:ml n x=some (a,p)):∃r,x=some (a,r)/\aA.F n r ⟨#[41]⟩=some p:=by
 unfold ml at h;obtain⟨r,h1,h2⟩:=LQ.1 h;obtain⟨w,h3,h4⟩:=LQ.1 h2;simp only[JD,JW]at h4;obtain⟨q1,q2⟩:=h4;subst q2;exact⟨r.2,by rw[h1,← q1],h3⟩
theorem DQ (H:ek L Z)(hn:4000<=n){k:Nat}{m:Bool}(hk:k<=L.length):SimT L Z P E k m qC (dm.F n (sH L Z k m E P)) (ei.F n (iH L Z k m)):=by
 have hL:=H.few;unfold dm.F ei.F;rw[sv hL hk (by decide),xB hL hk (by decide),Jp,Jp]
 by_cases c2:(aR L k).1=2
 ·have hlt:=lQ (L:=L) (k:=k) (by rw[c2];decide)
  simp only[c2,if_true];rw[qi hL (show k+1<=L.length by omega),jB hL (show k+1<=L.length by omega),Jp,Jp,eL H (by simp[dA])]
  by_cases c:ii (aR L (k+1)) ⟨#[40]⟩=true
  ·obtain⟨hlt2,_,_⟩:=eM c
   simp only[c,if_true];rcases xF (P:=P) (E:=E) H hn (show k+1+1<=L.length by omega) (m:=m)with⟨a,k',m',e1,e2,h3,h4,h5,h6⟩|⟨a,a',p,k1,m1,k2,m2,e1,e2,h3,h4,h5⟩
   ·obtain⟨r,i1,i2⟩:=lx e2
    rw[e1,i1,Jp,Jp,i2,Jp];exact .inl ⟨_,k',m',rfl,rfl,by omega,h4,h5,λh=>⟨H.txt _ (eK hlt),h6 h⟩⟩
   ·obtain⟨r,i1,i2⟩:=lx e2
    rw[e1,i1,Jp,Jp,i2,Jp];exact .inr ⟨_,_,p,k1,m1,k2,m2,rfl,rfl,h3,h4,h5⟩
  ·simp only[JV.2 c,JI,if_false]
   exact .inl ⟨_,k+1,m,rfl,rfl,by omega,by omega,id,λh=>⟨H.txt _ (eK hlt),by simp[Cc]⟩⟩
 ·simp only[c2,if_false]
  rw[kA hL hk,gy (er H _),Jp,Jp,ao (by simp),ao (by simp)];exact .inr ⟨_,_,gx L Z k,k,m,k,m,rfl,rfl,er H _,hk,hk⟩
end
def EE (e:Xp):Prop:=e.2.1.size<=30/\e.2.2.length<=6
abbrev qX:Bool->Xp->Prop:=λm e=>m=false->EE e
def J8 (L:List Tk)(Z:Int)(P:PP)(K:Int)(k:Nat)(m:Bool)(E:List Xp)(x:Option (Xp×RR))(y:Option (Xp×mh×List Xp)):Prop:=
 (∃c k' m' E',x=some ((K,c),sH L Z k' m' E' P)/\y=some ((1,c),iH L Z k' m',E')/\k<k'/\k'<=L.length/\E'.length+k<=k'+E.length/\(∀B,OkE B m E->OkE B m' E'/\(m'=false->EE (K,c))))\/
 (∃a a' b k1 m1 E1 k2 m2 E2,x=some (a,sF L Z b k1 m1 E1 P)/\y=some (a',iF L Z b k2 m2,E2)/\0<=b/\k1<=L.length/\k2<=L.length/\E1.length+k<=k1+E.length/\E2.length+k<=k2+E.length)
section
variable {L:List Tk} {Z:Int} {n:Nat}
theorem DR (hL:L.length<=3000)(hn:10<=n){b:Int}{k:Nat}{m:Bool}{E:List Xp}{P:PP}(hk:k<=L.length):∃o m',ae.F n (sF L Z b k m E P)=some (o,sF L Z b k m' E P):=by
 obtain⟨g,rfl⟩:∃g,n=g+4:=⟨n - 4,by omega⟩
 refine⟨[0],m||decide ((Jr [(0:Int)]:Int)>6),?_⟩;show ae.G (g+3) (ae.F (g+3)) (af.F (g+3)) (ak.F (g+3)) (aj.F (g+3)) (sF L Z b k m E P)=_;unfold ae.G;rw[IA hL hk,Jp];exact(zz hL hk _ _).trans (DM hL hk)
theorem DS (hn:10<=n){b:Int}(hb:0<=b){k:Nat}{m:Bool}{E:List Xp}:∃o m',ac.F n (iF L Z b k m) E=some (o,iF L Z b k m',E):=by
 obtain⟨g,rfl⟩:∃g,n=g+4:=⟨n - 4,by omega⟩
 refine⟨[0],m||decide ((Jr [(0:Int)]:Int)>6),?_⟩;show ac.G (g+3) (ac.F (g+3)) (aa.F (g+3)) (ai.F (g+3)) (ag.F (g+3)) (iF L Z b k m) E=_;unfold ac.G;rw[IB hb,Jp];exact(zB hb _ _).trans zC
theorem vy (H:ek L Z)(hn:200000<=n)(K:Int){k:Nat}{m:Bool}{E:List Xp}{P:PP}(hk:k<=L.length)(hE:E.length<=k):
  J8 L Z P K k m E (cO.F n (sH L Z k m E P) K) (cW.F n (iH L Z k m) E):=by
 have hL:=H.few;unfold cO.F cW.F;rw[GH hL hk (by decide),xB hL hk (by decide),Jp,Jp]
 by_cases c1:(aR L k).1=1
 ·have hlt:=lQ (L:=L) (k:=k) (by rw[c1];decide)
  have hk1:k+1<=L.length:=by omega
  simp only[c1,if_true];rw[AF hL hk1,n7 hL hk1,Jp,Jp,eL H (by simp[dA])]
  by_cases cp:ii (aR L (k+1)) ⟨#[40]⟩=true
  ·obtain⟨hlt2,_,_⟩:=eM cp
   have hk2:k+1+1<=L.length:=by omega
   simp only[cp,if_true];rw[mZ hL hk2,HJ hL hk2,Jp,Jp,eL H (by simp[dA])]
   by_cases cq:ii (aR L (k+1+1)) ⟨#[41]⟩=true
   ·obtain⟨hlt3,_,_⟩:=eM cq
    simp only[cq,if_true];rw[ao (by simp),ao (by simp),n7 hL hk2,Jp];simp only[cq,if_true];exact .inl ⟨_,k+1+1+1,m,E,rfl,rfl,by omega,by omega,by omega,λB h=>⟨h,λ_=>⟨H.txt _ (eK hlt),by simp⟩⟩⟩
   ·simp only[JV.2 cq,JI,if_false]
    rw[ab (by simp),ab (by simp)];rcases FL (n:=n) H (k+1+1) m E P hk2 (by omega) hn with⟨a,k',m',E',e1,e2,h3,h4,h5,h8⟩|⟨a,a',b,k1,m1,E1,k2,m2,E2,e1,e2,h3,h4,h5,h6,h7⟩
    ·obtain⟨r,i1,i2⟩:=mj e2
     rw[e1,i1,Jp,Jp,i2,Jp];exact .inl ⟨_,k',m',E',rfl,rfl,by omega,h4,by omega,λB h=>⟨(h8 B h).1,λhm=>⟨H.txt _ (eK hlt),(h8 B h).2 hm⟩⟩⟩
    ·obtain⟨r,i1,i2⟩:=mj e2
     rw[e1,i1,Jp,Jp,i2,Jp];exact .inr ⟨_,_,b,k1,m1,E1,k2,m2,E2,rfl,rfl,h3,h4,h5,by omega,by omega⟩
  ·simp only[JV.2 cp,JI,if_false]
   have hb:=er H (k+1);obtain⟨o1,m1,l1⟩:=DR (n:=n) (Z:=Z) (b:=gx L Z (k+1)) (m:=m) (E:=E) (P:=P) hL (by omega) hk1;obtain⟨o2,m2,l2⟩:=DS (n:=n) (L:=L) (Z:=Z) (k:=k+1) (m:=m) (E:=E) (by omega) hb;rw[n6 hL hk1,C8 hb,Jp,Jp,ab (by simp),ab (by simp),l1,l2,Jp,Jp,kB hb,Jp];exact .inr ⟨_,_,_,k+1,m1,E,k+1,m2,E,rfl,rfl,hb,hk1,hk1,by omega,by omega⟩
 ·simp only[c1,if_false]
  have hb:=er H k;obtain⟨o1,m1,l1⟩:=DR (n:=n) (Z:=Z) (b:=gx L Z k) (m:=m) (E:=E) (P:=P) hL (by omega) hk;obtain⟨o2,m2,l2⟩:=DS (n:=n) (L:=L) (Z:=Z) (k:=k) (m:=m) (E:=E) (by omega) hb;rw[vx hL hk,kB hb,Jp,Jp,n6 hL hk,C8 hb,Jp,Jp,ab (by simp),ab (by simp),l1,l2,Jp,Jp,kB hb,Jp];exact .inr ⟨_,_,_,k,m1,E,k,m2,E,rfl,rfl,hb,hk,hk,by omega,by omega⟩
abbrev opsL:List ByteArray:=[⟨#[61]⟩,⟨#[33,61]⟩,⟨#[60]⟩,⟨#[60,61]⟩]
theorem xG {a:Int}{st:RR}{l:Xp}{K}{f:Nat}{x:Xp}(i:Nat)(hi:i<4):
  bh.l1 n a opsL (Jr opsL:Int) st l K (f+1) (i:Int) x=(bT.F n st (opsL.getD i Jq)).bind λr=>if r=true then bh.l1 n a opsL (Jr opsL:Int) st l K f ((i+1:Nat):Int) (x.1,(opsL.getD i Jq,x.2.2))else bh.l1 n a opsL (Jr opsL:Int) st l K f ((i+1:Nat):Int) x:=by
 rw[bh.l1];rw[ab (by simp;omega),ab (by simp;omega),ny (by omega)]
 rfl
theorem nz {a:Int}{st:RR}{l:Xp}{K}{f:Nat}{x:Xp}:bh.l1 n a opsL (Jr opsL:Int) st l K (f+1) 4 x=K x:=by
 rw[bh.l1];rw[ao (by simp)]
theorem xH {a:Int}{E:List Xp}{l:Xp}{K}{f:Nat}{p:mh}(i:Nat)(hi:i<4):
  aJ.l2 n a opsL (Jr opsL:Int) E l K (f+1) (i:Int) p=(aD.F n p (opsL.getD i Jq)).bind λr=>if r.1=true then(aa.F n r.2 E).bind λq=>some ((3,(opsL.getD i Jq,[a,q.1])),q.2.1,q.2.2)else aJ.l2 n a opsL (Jr opsL:Int) E l K f ((i+1:Nat):Int) r.2:=by
 rw[aJ.l2];rw[ab (by simp;omega),ab (by simp;omega),ny (by omega)]
 rfl
theorem AJ {a:Int}{E:List Xp}{l:Xp}{K}{f:Nat}{p:mh}:aJ.l2 n a opsL (Jr opsL:Int) E l K (f+1) 4 p=K p:=by
 rw[aJ.l2];rw[ao (by simp)]
def zE (t:Tk):Option ByteArray:=opsL.find? λs=>ii t s
theorem pN {t:Tk}{s u:ByteArray}(h:ii t s=true)(hu:s≠u):ii t u=false:=by
 unfold ii at h⊢;simp only[Jz,dg]at h;rw[h.2,dq hu,Bool.and_false]
theorem FO (H:ek L Z){a:Int}{k:Nat}{m:Bool}{E:List Xp}{P:PP}(hk:k<=L.length){l:Xp}{K}{f:Nat}(hf:5<=f):
  bh.l1 n a opsL (Jr opsL:Int) (sH L Z k m E P) l K f 0 (3,(Jq,[]))=K (3,((zE (aR L k)).getD Jq,[])):=by
 have hL:=H.few;obtain⟨g,rfl⟩:∃g,f=g+5:=⟨f - 5,by omega⟩
 have st:=λ(x:Xp) (i:Nat) (hi:i<4) (f:Nat)=>xG (n:=n) (a:=a) (st:=sH L Z k m E P) (l:=l) (K:=K) (f:=f) (x:=x) i hi
 have is:∀i,i<4->bT.F n (sH L Z k m E P) (opsL.getD i Jq)=some (ii (aR L k) (opsL.getD i Jq)):=by
  intro i hi;rw[uh hL hk,K8,KD,eL H];rcases i with _|_|_|_|i
  ·simp[dA]
  ·simp[dA]
  ·simp[dA]
  ·simp[dA]
  ·omega
 refine(st _ 0 (by omega) _).trans ?_;rw[is 0 (by omega),Jp];unfold zE;simp only[List.find?];show(if ii (aR L k) ⟨#[61]⟩=true then _ else _)=_;cases c0:ii (aR L k) ⟨#[61]⟩with
 |true=>
  rw[ab rfl,st _ 1 (by omega),is 1 (by omega),Jp,show ii (aR L k) (opsL.getD 1 Jq)=false from pN c0 (by decide),ao (by simp),
   st _ 2 (by omega),is 2 (by omega),Jp,show ii (aR L k) (opsL.getD 2 Jq)=false from pN c0 (by decide),ao (by simp),
   st _ 3 (by omega),is 3 (by omega),Jp,show ii (aR L k) (opsL.getD 3 Jq)=false from pN c0 (by decide),ao (by simp)]
  exact nz
 |false=>
  rw[ao (by simp),st _ 1 (by omega),is 1 (by omega),Jp];show(if ii (aR L k) ⟨#[33,61]⟩=true then _ else _)=_;cases c1:ii (aR L k) ⟨#[33,61]⟩with
  |true=>
   rw[ab rfl,st _ 2 (by omega),is 2 (by omega),Jp,show ii (aR L k) (opsL.getD 2 Jq)=false from pN c1 (by decide),ao (by simp),
    st _ 3 (by omega),is 3 (by omega),Jp,show ii (aR L k) (opsL.getD 3 Jq)=false from pN c1 (by decide),ao (by simp)]
   exact nz
  |false=>
   rw[ao (by simp),st _ 2 (by omega),is 2 (by omega),Jp];show(if ii (aR L k) ⟨#[60]⟩=true then _ else _)=_;cases c2:ii (aR L k) ⟨#[60]⟩with
   |true=>
    rw[ab rfl,st _ 3 (by omega),is 3 (by omega),Jp,show ii (aR L k) (opsL.getD 3 Jq)=false from pN c2 (by decide),ao (by simp)];exact nz
   |false=>
    rw[ao (by simp),st _ 3 (by omega),is 3 (by omega),Jp];show(if ii (aR L k) ⟨#[60,61]⟩=true then _ else _)=_;cases c3:ii (aR L k) ⟨#[60,61]⟩with
    |true=>rw[ab rfl];exact nz
    |false=>rw[ao (by simp)];exact nz
theorem IE (hL:L.length<=3000){a b:Int}{k:Nat}{m:Bool}{E:List Xp}{P:PP}(hk:k<=L.length){l:Xp}{K}{f:Nat}(hf:5<=f){x:Xp}:
  bh.l1 n a opsL (Jr opsL:Int) (sF L Z b k m E P) l K f 0 x=K x:=by
 obtain⟨g,rfl⟩:∃g,f=g+5:=⟨f - 5,by omega⟩
 have st:=λ(i:Nat) (hi:i<4) (f:Nat)=>xG (n:=n) (a:=a) (st:=sF L Z b k m E P) (l:=l) (K:=K) (f:=f) (x:=x) i hi
 refine(st 0 (by omega) _).trans ?_;rw[uh hL hk,Jp,ao (by simp),st 1 (by omega),uh hL hk,Jp,ao (by simp),st 2 (by omega),uh hL hk,Jp,ao (by simp),st 3 (by omega),uh hL hk,Jp,ao (by simp)];exact nz
theorem FP (H:ek L Z){a:Int}{k:Nat}{m:Bool}{E:List Xp}(hk:k<=L.length){l:Xp}{K}{f:Nat}(hf:5<=f):
  aJ.l2 n a opsL (Jr opsL:Int) E l K f 0 (iH L Z k m)=match zE (aR L k)with|some s=>(aa.F n (iH L Z (k+1) m) E).bind λq=>some ((3,(s,[a,q.1])),q.2.1,q.2.2)|none=>K (iH L Z k m):=by
 have hL:=H.few;obtain⟨g,rfl⟩:∃g,f=g+5:=⟨f - 5,by omega⟩
 have st:=λ(i:Nat) (hi:i<4) (f:Nat)=>xH (n:=n) (a:=a) (E:=E) (l:=l) (K:=K) (f:=f) (p:=iH L Z k m) i hi
 refine(st 0 (by omega) _).trans ?_;rw[jB hL hk,Jp];unfold zE;simp only[List.find?];show(if ii (aR L k) ⟨#[61]⟩=true then(aa.F n (iH L Z (if ii (aR L k) ⟨#[61]⟩=true then k+1 else k) m) E).bind _ else aJ.l2 n a opsL (Jr opsL:Int) E l K _ _ (iH L Z (if ii (aR L k) ⟨#[61]⟩=true then k+1 else k) m))=_;cases c0:ii (aR L k) ⟨#[61]⟩with
 |true=>rfl
 |false=>
  rw[ao (by simp),ao (by simp),st 1 (by omega),jB hL hk,Jp];show(if ii (aR L k) ⟨#[33,61]⟩=true then(aa.F n (iH L Z (if ii (aR L k) ⟨#[33,61]⟩=true then k+1 else k) m) E).bind _ else aJ.l2 n a opsL (Jr opsL:Int) E l K _ _ (iH L Z (if ii (aR L k) ⟨#[33,61]⟩=true then k+1 else k) m))=_;cases c1:ii (aR L k) ⟨#[33,61]⟩with
  |true=>rfl
  |false=>
   rw[ao (by simp),ao (by simp),st 2 (by omega),jB hL hk,Jp];show(if ii (aR L k) ⟨#[60]⟩=true then(aa.F n (iH L Z (if ii (aR L k) ⟨#[60]⟩=true then k+1 else k) m) E).bind _ else aJ.l2 n a opsL (Jr opsL:Int) E l K _ _ (iH L Z (if ii (aR L k) ⟨#[60]⟩=true then k+1 else k) m))=_;cases c2:ii (aR L k) ⟨#[60]⟩with
   |true=>rfl
   |false=>
    rw[ao (by simp),ao (by simp),st 3 (by omega),jB hL hk,Jp];show(if ii (aR L k) ⟨#[60,61]⟩=true then(aa.F n (iH L Z (if ii (aR L k) ⟨#[60,61]⟩=true then k+1 else k) m) E).bind _ else aJ.l2 n a opsL (Jr opsL:Int) E l K _ _ (iH L Z (if ii (aR L k) ⟨#[60,61]⟩=true then k+1 else k) m))=_;cases c3:ii (aR L k) ⟨#[60,61]⟩with
    |true=>rfl
    |false=>
     rw[ao (by simp),ao (by simp)];exact AJ
theorem IF {a b:Int}(hb:0<=b){k:Nat}{m:Bool}{E:List Xp}{l:Xp}{K}{f:Nat}(hf:5<=f):
  aJ.l2 n a opsL (Jr opsL:Int) E l K f 0 (iF L Z b k m)=K (iF L Z b k m):=by
 obtain⟨g,rfl⟩:∃g,f=g+5:=⟨f - 5,by omega⟩
 have st:=λ(i:Nat) (hi:i<4) (f:Nat)=>xH (n:=n) (a:=a) (E:=E) (l:=l) (K:=K) (f:=f) (p:=iF L Z b k m) i hi
 refine(st 0 (by omega) _).trans ?_;rw[gy hb,Jp,ao (by simp),st 1 (by omega),gy hb,Jp,ao (by simp),st 2 (by omega),gy hb,Jp,ao (by simp),st 3 (by omega),gy hb,Jp,ao (by simp)];exact AJ
theorem Cd {t:Tk}{s:ByteArray}(h:zE t=some s):ii t s=true/\s∈opsL:=by
 unfold zE at h;exact⟨List.find?_some h,List.mem_of_find?_eq_some h⟩
theorem HS (H:ek L Z)(hn:200000<=n){k:Nat}{m:Bool}{E:List Xp}{P:PP}(hk:k<=L.length)(hE:E.length<=k):
  SimX L Z P k m E qX (bh.j0 n (sH L Z k m E P) (0,(Jq,[]))) (aJ.j1 n (iH L Z k m) E (0,(Jq,[]))):=by
 have hL:=H.few;unfold bh.j0 aJ.j1;rcases DN (n:=n) H k m E P hk hE hn with⟨a,k',m',E',e1,e2,h3,h4,h5,h8⟩|⟨a,a',b,k1,m1,E1,k2,m2,E2,e1,e2,h3,h4,h5,h6,h7⟩
 ·rw[e1,e2,Jp,Jp]
  show SimX L Z P k m E qX (bh.l1 n a opsL (Jr opsL:Int) (sH L Z k' m' E' P) _ _ n 0 _) (aJ.l2 n a opsL (Jr opsL:Int) E' _ _ n 0 (iH L Z k' m'));rw[FO H h4 (by omega),FP H h4 (by omega)];cases ho:zE (aR L k')with
  |none=>
   show SimX L Z P k m E qX (if Km Jq Jq=true then _ else _) ((aY.F n (iH L Z k' m')).bind _);rw[ab (by rw[pH];decide)];show SimX L Z P k m E qX ((bg.F n (sH L Z k' m' E' P)).bind _) ((aY.F n (iH L Z k' m')).bind _);rw[xy hL h4,xA hL h4,Jp,Jp];exact .inr ⟨_,_,gx L Z k',k',m',E',k',m',E',rfl,rfl,er H _,h4,h4,by omega,by omega⟩
  |some s=>
   obtain⟨o1,o2⟩:=Cd ho;obtain⟨hlt,_,gt⟩:=eM o1;have hs:Km s Jq=false:=by
    simp only[opsL,List.mem_cons,List.not_mem_nil,or_false]at o2;rw[pH];rcases o2 with rfl|rfl|rfl|rfl<;>decide
   show SimX L Z P k m E qX (if Km s Jq=true then _ else(af.F n (L,Ju.wrap ((k':Int)+1),(sH L Z k' m' E' P).2.2)).bind λr21=>some ((3,(s,[a,r21.1])),r21.2)) ((aa.F n (iH L Z (k'+1) m') E').bind _);rw[hs,ao (by simp),ny (by omega)];show SimX L Z P k m E qX ((af.F n (sH L Z (k'+1) m' E' P)).bind _) _;rcases DN (n:=n) H (k'+1) m' E' P (by omega) (by omega) hn with⟨a2,k'',m'',E'',f1,f2,g3,g4,g5,g8⟩|⟨a2,a2',b2,k1,m1,E1,k2,m2,E2,f1,f2,g3,g4,g5,g6,g7⟩
   ·rw[f1,f2,Jp,Jp]
    exact .inl ⟨_,k'',m'',E'',rfl,rfl,by omega,g4,by omega,λB h=>⟨(g8 B (h8 B h).1).1,λ_=>⟨by rw[← gt];exact H.txt _ (eK hlt),by simp⟩⟩⟩
   ·rw[f1,f2,Jp,Jp]
    exact .inr ⟨_,_,b2,k1,m1,E1,k2,m2,E2,rfl,rfl,g3,g4,g5,by omega,by omega⟩
 ·rw[e1,e2,Jp,Jp]
  show SimX L Z P k m E qX (bh.l1 n a opsL (Jr opsL:Int) (sF L Z b k1 m1 E1 P) _ _ n 0 _) (aJ.l2 n a' opsL (Jr opsL:Int) E2 _ _ n 0 (iF L Z b k2 m2));rw[IE hL h4 (by omega),IF h3 (by omega)];show SimX L Z P k m E qX (if Km Jq Jq=true then _ else _) ((aY.F n (iF L Z b k2 m2)).bind _);rw[ab (by rw[pH];decide)];show SimX L Z P k m E qX ((bg.F n (sF L Z b k1 m1 E1 P)).bind _) ((aY.F n (iF L Z b k2 m2)).bind _);rw[HI,sw h3,Jp,Jp];exact .inr ⟨_,_,b,k1,m1,E1,k2,m2,E2,rfl,rfl,h3,h4,h5,h6,h7⟩
theorem DT (H:ek L Z)(hn:200000<=n){k:Nat}{m:Bool}{E:List Xp}{P:PP}(hk:k<=L.length)(hE:E.length<=k):
  SimX L Z P k m E qX (bh.F n (sH L Z k m E P)) (aJ.F n (iH L Z k m) E):=by
 have hL:=H.few;unfold bh.F aJ.F;rw[mZ hL hk,jB hL hk,Jp,Jp,eL H (by simp[dA])]
 by_cases c:ii (aR L k) ⟨#[33]⟩=true
 ·obtain⟨hlt,_,_⟩:=eM c
  simp only[c,if_true];rcases vy (n:=n) H hn 2 (P:=P) (E:=E) (m:=m) (show k+1<=L.length by omega) (by omega)with⟨a,k',m',E',e1,e2,h3,h4,h5,h8⟩|⟨a,a',b,k1,m1,E1,k2,m2,E2,e1,e2,h3,h4,h5,h6,h7⟩
  ·rw[e1,e2,Jp,Jp]
   exact .inl ⟨_,k',m',E',rfl,rfl,by omega,h4,by omega,h8⟩
  ·rw[e1,e2,Jp,Jp]
   exact .inr ⟨_,_,b,k1,m1,E1,k2,m2,E2,rfl,rfl,h3,h4,h5,by omega,by omega⟩
 ·simp only[JV.2 c,JI,if_false]
  have t0:∃r:Tk,bi.F n (sH L Z k m E P) 0=some r/\r.1=(aR L k).1:=by
   rw[oP hL hk];refine⟨_,rfl,?_⟩
   split
   ·rfl
   ·rw[j7 ‹_›]
  have t1:∃r:Tk,bi.F n (sH L Z k m E P) 1=some r/\r.1=(aR L (k+1)).1/\r.2.1=(aR L (k+1)).2.1:=by
   have:=Iz (n:=n) (Z:=Z) (b:=0) (f:=false) (m:=m) (E:=E) (P:=P) (j:=1) hL hk (by omega);refine⟨_,this,?_⟩
   split
   ·exact⟨rfl,rfl⟩
   ·rw[j7 ‹_›];exact⟨rfl,rfl⟩
  obtain⟨r0,q0,q1⟩:=t0;obtain⟨r1,p0,p1,p2⟩:=t1;have pk:=GI (n:=n) (Z:=Z) (m:=m) (j:=1) hL hk (by omega);have pk':aZ.F n (iH L Z k m) 1=some (aR L (k+1)):=pk;show SimX L Z P k m E qX ((bi.F n (sH L Z k m E P) 0).bind _) ((aZ.F n (iH L Z k m) 1).bind _);rw[q0,pk',Jp,Jp];show SimX L Z P k m E qX _ ((aZ.F n (iH L Z k m) 0).bind _);rw[pK hL hk,Jp,q1];have cmp:=HS (n:=n) H hn (P:=P) (E:=E) (m:=m) hk hE
  by_cases c1:(aR L k).1=1
  ·rw[ab (by simp[c1]),ab (by simp[c1]),show bi.F n (L,(k:Int),Z,0,false,m,E,P) 1=some r1 from p0,Jp,p1]
   by_cases c5:(aR L (k+1)).1=5
   ·rw[ab (by simp[c5]),ab (by simp[c5]),Jp,p2]
    unfold aJ.j0;cases cs:Km (aR L (k+1)).2.1 ⟨#[40]⟩with
    |true=>
     rw[ab rfl,ab rfl];rcases vy (n:=n) H hn 1 (P:=P) (E:=E) (m:=m) hk hE with⟨a,k',m',E',e1,e2,h3,h4,h5,h8⟩|⟨a,a',b,k1,m1,E1,k2,m2,E2,e1,e2,h3,h4,h5,h6,h7⟩
     ·rw[e1,e2,Jp,Jp]
      exact .inl ⟨_,k',m',E',rfl,rfl,by omega,h4,by omega,h8⟩
     ·rw[e1,e2,Jp,Jp]
      exact .inr ⟨_,_,b,k1,m1,E1,k2,m2,E2,rfl,rfl,h3,h4,h5,by omega,by omega⟩
    |false=>
     rw[ao (by simp),ao (by simp)];exact cmp
   ·rw[ao (by simp[c5]),ao (by simp[c5])]
    unfold aJ.j0;rw[ao (by simp)];exact cmp
  ·rw[ao (by simp[c1]),ao (by simp[c1])]
   unfold aJ.j0;rw[ao (by simp)];exact cmp
end
def Jn (r:Rl):Prop:=r.1.length<=60/\r.2.2.length<=12/\(∀e∈r.1,EE e)/\EE r.2.1/\∀l∈r.2.2,EE l
def SimR (L:List Tk)(Z:Int)(P:PP)(m0:Bool)(k:Nat)(x:Option RR)(y:Option (Rl×mh)):Prop:=
 (∃r k' m',x=some (sH L Z k' m' r.1 (P.1,P.2.1,P.2.2++[r]))/\y=some (r,iH L Z k' m')/\k<=k'/\k'<=L.length/\(m'=false->m0=false/\Jn r))\/
 (∃r b k1 m1 E1 P1 k2 m2,x=some (sF L Z b k1 m1 E1 P1)/\y=some (r,iF L Z b k2 m2)/\0<=b/\k1<=L.length/\k2<=L.length)
theorem SimR.up {L:List Tk}{Z:Int}{P:PP}{m0:Bool}{k k0:Nat}{x:Option RR}{y:Option (Rl×mh)}(h:SimR L Z P m0 k x y)(hk:k0<=k):SimR L Z P m0 k0 x y:=by
 rcases h with⟨a,k',m',h1,h2,h3,h⟩|h
 ·exact .inl ⟨a,k',m',h1,h2,by omega,h⟩
 ·exact .inr h
section
variable {L:List Tk} {Z:Int} {n:Nat}
theorem cC {α:Type}{l:List α}{x:α}(h:l.length<=100000):l.length+[x].length<=aT:=by simp only[Jw,JB,aT];omega
theorem J9 {b:Int}{k:Nat}{m:Bool}{E:List Xp}{hd:Xp}{body:List Xp}{t:Rl}{p:mh}(h:aA.F n p ⟨#[46]⟩=some (iF L Z b k m)):
  bY.j1 n p t (E,(hd,body))=some ((E,(hd,body)),iF L Z b k (m||decide ((body.length:Int)>12)||decide ((E.length:Int)>60))):=by
 unfold bY.j1;rw[h,Jp];cases m with
 |true=>rw[ao (by simp)];rfl
 |false=>
  rw[ab rfl]
  by_cases c:(body.length:Int)>12
  ·rw[ao (by simp;omega),iX c];rfl
  ·rw[ab (by simp;omega),dq c];rfl
theorem Ja {b:Int}{f:Bool}{k:Nat}{m:Bool}{E:List Xp}{P:PP}{hd:Xp}{body:List Xp}{p:RR}{r0:List Xp}(h:bl.F n p ⟨#[46]⟩=some (L,(k:Int),Z,b,f,m,E,P))(hP:P.2.2.length<=100000):
  av.j4 n p (r0,(hd,body)) (λt=>some t)=some (L,(k:Int),Z,b,f,(m||decide ((body.length:Int)>12)||decide ((E.length:Int)>60)),E,(P.1,P.2.1,P.2.2++[(E,(hd,body))])):=by
 unfold av.j4;rw[h,Jp,mi,Jp,mi,Jp];rw[ab (cC hP)]
theorem xI (H:ek L Z){m0:Bool}{k:Nat}{m:Bool}{E:List Xp}{P:PP}{hd:Xp}{body:List Xp}{r0:List Xp}{t:Rl}(hk:k<=L.length)(hP:P.2.2.length<=100000)
  (ho:OkE (m0=false/\EE hd/\∀l∈body,EE l) m E):
  SimR L Z P m0 k (av.j4 n (sH L Z k m E P) (r0,(hd,body)) (λt=>some t)) (bY.j1 n (iH L Z k m) t (E,(hd,body))):=by
 have hL:=H.few;have w1:=AF (n:=n) (Z:=Z) (m:=m) (E:=E) (P:=P) hL hk ⟨#[46]⟩;have w2:=n7 (n:=n) (Z:=Z) (m:=m) hL hk ⟨#[46]⟩;rw[eL H (by simp[dA])]at w1
 by_cases c:ii (aR L k) ⟨#[46]⟩=true
 ·obtain⟨hlt,_,_⟩:=eM c
  rw[ab c]at w1 w2;rw[Ja w1 hP,J9 w2];refine .inl ⟨(E,(hd,body)),k+1,_,rfl,rfl,by omega,by omega,λh=>?_⟩;simp only[Lp,vK]at h;obtain⟨h1,h2⟩:=ho h.1.1;exact⟨h1.1,by simp only;omega,by simp only;omega,h2,h1.2.1,h1.2.2⟩
 ·rw[ao c]at w1 w2
  rw[Ja w1 hP,J9 w2];exact .inr ⟨_,gx L Z k,k,_,_,_,k,_,rfl,rfl,er H _,hk,hk⟩
theorem pO (H:ek L Z){m0:Bool}{b:Int}{k k1 k2:Nat}{m1 m2:Bool}{E1 E2:List Xp}{P:PP}{hd hd2:Xp}{body body2:List Xp}{r0:List Xp}{t:Rl}(hb:0<=b)(hk1:k1<=L.length)(hk2:k2<=L.length)(hP:P.2.2.length<=100000):
  SimR L Z P m0 k (av.j4 n (sF L Z b k1 m1 E1 P) (r0,(hd,body)) (λt=>some t)) (bY.j1 n (iF L Z b k2 m2) t (E2,(hd2,body2))):=by
 rw[Ja (vx H.few hk1 _) hP,J9 (kB hb _)];exact .inr ⟨_,b,k1,_,_,_,k2,_,rfl,rfl,hb,hk1,hk2⟩
theorem uk (H:ek L Z)(hn:200000<=n){m0:Bool}{P:PP}(hP:P.2.2.length<=100000){hd:Xp}{t:Rl}:∀f k m E body,k<=L.length->E.length<=k->L.length - k<f->body.length+(L.length - k)<=10000->
  OkE (m0=false/\EE hd/\∀l∈body,EE l) m E->
  SimR L Z P m0 k (av.l3 n (λt39 t40=>av.j4 n t39 t40 (λt=>some t)) f (sH L Z k m E P) ([],(hd,body))) (bY.l0 n t (λp10 r11=>bY.j1 n p10 t r11) f (iH L Z k m) (E,(hd,body)))
 |0,k,m,E,body,hk,hE,hf,hB,ho=>by omega
 |f+1,k,m,E,body,hk,hE,hf,hB,ho=>by
  have hL:=H.few;unfold av.l3 bY.l0;rw[mZ hL hk,jB hL hk,Jp,Jp,eL H (by simp[dA])]
  by_cases c:ii (aR L k) ⟨#[44]⟩=true
  ·obtain⟨hlt,_,_⟩:=eM c
   simp only[c,if_true];rcases DT (n:=n) H hn (P:=P) (E:=E) (m:=m) (show k+1<=L.length by omega) (by omega)with⟨a,k',m',E',e1,e2,h3,h4,h5,h8⟩|⟨a,a',b,k1,m1,E1,k2,m2,E2,e1,e2,h3,h4,h5,h6,h7⟩
   ·rw[e1,e2,Jp,Jp,ab (cC (by omega)),ab (cC (by omega))]
    refine(uk H hn hP f k' m' E' _ h4 (by omega) (by omega) (by simp;omega) ?_).up (by omega);obtain⟨g1,g2⟩:=h8 _ ho;intro hm;obtain⟨⟨q1,q2,q3⟩,q4⟩:=g1 hm;refine⟨⟨q1,q2,λl hl=>?_⟩,q4⟩;rcases KP.1 hl with hl|hl
    ·exact q3 l hl
    ·rw[Kb.1 hl];exact g2 hm
   ·rw[e1,e2,Jp,Jp,ab (cC (by omega)),ab (cC (by omega))]
    obtain⟨g,rfl⟩:∃g,f=g+1:=⟨f - 1,by omega⟩
    unfold av.l3 bY.l0;rw[n6 hL h4,gy h3,Jp,Jp,ao (by simp),ao (by simp)];exact pO H h3 h4 h5 hP
  ·simp only[JV.2 c,JI,if_false]
   exact xI H hk hP ho
def DU (n:Nat)(t:RR):Option RR:=
 (cO.F n t 1).bind λr32=>
 (aB.F n r32.2 ⟨#[58,45]⟩).bind λr33=>
 if r33.1=true then
 (bh.F n r33.2).bind λr34=>
 if Jr ([]:List (Xp))+Jr [r34.1]<=aT then
 av.l3 n (λt39 t40=>
 av.j4 n t39 t40 (λt46=>
 some t46)) n r34.2 ([],(r32.1,[]++[r34.1]))
 else
 none
 else
 av.j4 n r33.2 ([],(r32.1,[])) (λt47=>
 some t47)
theorem FQ (H:ek L Z)(hn:200000<=n){k:Nat}{m:Bool}{P:PP}(hk:k<=L.length)(hP:P.2.2.length<=100000):
  SimR L Z P m (k+1) (DU n (sH L Z k m [] P)) (bY.F n (iH L Z k m)):=by
 have hL:=H.few;unfold DU bY.F;rcases vy (n:=n) H hn 1 (P:=P) (E:=[]) (m:=m) hk (by simp)with⟨a,k',m',E',e1,e2,h3,h4,h5,h8⟩|⟨a,a',b,k1,m1,E1,k2,m2,E2,e1,e2,h3,h4,h5,h6,h7⟩
 ·rw[e1,e2,Jp,Jp,mZ hL h4,jB hL h4,Jp,Jp,eL H (by simp[dA])]
  have hlen:E'.length<=k':=by simp at h5;omega
  obtain⟨g1,g2⟩:=h8 (m=false) (λh=>⟨h,by simp⟩)
  by_cases c:ii (aR L k') ⟨#[58,45]⟩=true
  ·obtain⟨hlt,_,_⟩:=eM c
   simp only[c,if_true];rcases DT (n:=n) H hn (P:=P) (E:=E') (m:=m') (show k'+1<=L.length by omega) (by omega)with⟨l,k'',m'',E'',f1,f2,i3,i4,i5,i8⟩|⟨a2,a2',b2,k1,m1,E1,k2,m2,E2,f1,f2,i3,i4,i5,i6,i7⟩
   ·rw[f1,f2,Jp,Jp,ab (cC (by simp)),ab (cC (by simp))]
    refine(uk H hn hP n k'' m'' E'' _ i4 (by omega) (by omega) (by simp;omega) ?_).up (by omega);obtain⟨q1,q2⟩:=i8 (m=false/\EE (1,a)) (λh=>⟨⟨(g1 h).1,g2 h⟩,(g1 h).2⟩);intro hm;obtain⟨⟨p1,p2⟩,p3⟩:=q1 hm;refine⟨⟨p1,p2,λx hx=>?_⟩,p3⟩;rw[Kx,Kb]at hx;rw[hx];exact q2 hm
   ·rw[f1,f2,Jp,Jp,ab (cC (by simp)),ab (cC (by simp))]
    obtain⟨g,rfl⟩:∃g,n=g+1:=⟨n - 1,by omega⟩
    unfold av.l3 bY.l0;rw[n6 hL i4,gy i3,Jp,Jp,ao (by simp),ao (by simp)];exact pO H i3 i4 i5 hP
  ·simp only[JV.2 c,JI,if_false]
   exact(xI H h4 hP λhm=>⟨⟨(g1 hm).1,g2 hm,by simp⟩,(g1 hm).2⟩).up (by omega)
 ·rw[e1,e2,Jp,Jp,n6 hL h4,gy h3,Jp,Jp,ao (by simp),ao (by simp)]
  exact pO H h3 h4 h5 hP
end
abbrev TD:Type:=ByteArray×List (ByteArray×List ByteArray)
abbrev RD:Type:=ByteArray×(List ByteArray)×Int
def Jb (t:TD):Prop:=t.1.size<=30/\t.2.length<=12/\∀c∈t.2,IW c
def Jc (r:RD):Prop:=r.1.size<=30/\Cc r.2.1
def IG (P:PP):Prop:=(∀t∈P.1,Jb t)/\(∀r∈P.2.1,Jc r)/\∀r∈P.2.2,Jn r
def sA (P:PP):Nat:=P.1.length+P.2.1.length+P.2.2.length
def SimS (L:List Tk)(Z:Int)(P:PP)(m0:Bool)(k:Nat)(x:Option RR)(y:Option (mh×PP)):Prop:=
 (∃E' P' k' m',x=some (sH L Z k' m' E' P')/\y=some (iH L Z k' m',P')/\k<=k'/\k'<=L.length/\sA P'=sA P+1/\(m'=false->m0=false/\(IG P->IG P')))\/
 (∃b k1 m1 E1 P1 k2 m2 P2,x=some (sF L Z b k1 m1 E1 P1)/\y=some (iF L Z b k2 m2,P2)/\0<=b/\k1<=L.length/\k2<=L.length)
theorem SimS.up {L:List Tk}{Z:Int}{P:PP}{m0:Bool}{k k0:Nat}{x:Option RR}{y:Option (mh×PP)}(h:SimS L Z P m0 k x y)(hk:k0<=k):SimS L Z P m0 k0 x y:=by
 rcases h with⟨E',P',k',m',h1,h2,h3,h⟩|h
 ·exact .inl ⟨E',P',k',m',h1,h2,by omega,h⟩
 ·exact .inr h
section
variable {L:List Tk} {Z:Int} {n:Nat} {E:List Xp} {P:PP}
def IH (n:Nat)(t10:RR)(t11:TD):Option RR:=
 (bp.F n t10 ⟨#[46]⟩).bind λr12=>
 (aW.F n r12 (Jr t11.2:Int) 12).bind λr13=>
 if Jr r13.2.2.2.2.2.2.2.1+Jr [t11]<=aT then
 some (r13.1,(r13.2.1,(r13.2.2.1,(r13.2.2.2.1,(r13.2.2.2.2.1,(r13.2.2.2.2.2.1,(r13.2.2.2.2.2.2.1,(r13.2.2.2.2.2.2.2.1++[t11],r13.2.2.2.2.2.2.2.2))))))))
 else
 none
def II (n:Nat)(t2:PP)(t12:mh)(t13:TD):Option (mh×PP):=
 (aA.F n t12 ⟨#[46]⟩).bind λr14=>
 if r14.2.2.2.2=false then
 if Jr t2.1+Jr [t13]<=aT then
 some ((r14.1,(r14.2.1,(r14.2.2.1,(r14.2.2.2.1,decide ((Jr t13.2:Int)>12))))),(t2.1++[t13],t2.2))
 else
 none
 else
 if Jr t2.1+Jr [t13]<=aT then
 some ((r14.1,(r14.2.1,(r14.2.2.1,(r14.2.2.2.1,true)))),(t2.1++[t13],t2.2))
 else
 none
theorem zF {b:Int}{f:Bool}{k:Nat}{m:Bool}{p:RR}{t:TD}(hP:P.1.length<=100000)(h:bp.F n p ⟨#[46]⟩=some (L,(k:Int),Z,b,f,m,E,P)):
  IH n p t=some (L,(k:Int),Z,b,f,(m||decide ((t.2.length:Int)>12)),E,(P.1++[t],P.2)):=by
 unfold IH;rw[h,Jp,mi,Jp,ab (cC hP)]
theorem zG {b:Int}{k:Nat}{m:Bool}{p:mh}{t:TD}(hP:P.1.length<=100000)(h:aA.F n p ⟨#[46]⟩=some (iF L Z b k m)):
  II n P p t=some (iF L Z b k (m||decide ((t.2.length:Int)>12)),(P.1++[t],P.2)):=by
 unfold II;rw[h,Jp];cases m with
 |true=>rw[ao (by simp),ab (cC hP)];rfl
 |false=>rw[ab rfl,ab (cC hP)];rfl
theorem HT (H:ek L Z){m0:Bool}{k:Nat}{m:Bool}{t:TD}(hk:k<=L.length)(hP:P.1.length<=100000)(ho:m=false->m0=false/\t.1.size<=30/\∀c∈t.2,IW c):
  SimS L Z P m0 k (IH n (sH L Z k m E P) t) (II n P (iH L Z k m) t):=by
 have hL:=H.few;have w1:=xx (n:=n) (Z:=Z) (m:=m) (E:=E) (P:=P) hL hk ⟨#[46]⟩;have w2:=n7 (n:=n) (Z:=Z) (m:=m) hL hk ⟨#[46]⟩;rw[eL H (by simp[dA])]at w1
 by_cases c:ii (aR L k) ⟨#[46]⟩=true
 ·obtain⟨hlt,_,_⟩:=eM c
  rw[ab c]at w1 w2;rw[zF hP w1,zG hP w2];refine .inl ⟨E,_,k+1,_,rfl,rfl,by omega,by omega,by simp[sA];omega,λh=>?_⟩;simp only[Lp,vK]at h;obtain⟨h1,h2,h3⟩:=ho h.1;refine⟨h1,λq=>⟨λx hx=>?_,q.2⟩⟩;rcases KP.1 hx with hx|hx
  ·exact q.1 x hx
  ·rw[Kb.1 hx];exact⟨h2,by omega,h3⟩
 ·rw[ao c]at w1 w2
  rw[zF hP w1,zG hP w2];exact .inr ⟨gx L Z k,k,_,_,_,k,_,_,rfl,rfl,er H _,hk,hk⟩
theorem qW (H:ek L Z){m0:Bool}{b:Int}{k k1 k2:Nat}{m1 m2:Bool}{t1 t2:TD}{P2:PP}(hb:0<=b)(hk1:k1<=L.length)(hk2:k2<=L.length)(hP:P.1.length<=100000):
  SimS L Z P m0 k (IH n (sF L Z b k1 m1 E P) t1) (II n P (iF L Z b k2 m2) t2):=by
 rw[zF hP (su H.few hk1 _),zG hP (kB hb _)];exact .inr ⟨b,k1,_,_,_,k2,_,_,rfl,rfl,hb,hk1,hk2⟩
theorem AK (H:ek L Z)(hn:200000<=n){m0:Bool}(hP:P.1.length<=100000):∀f k m (t:TD),k<=L.length->L.length - k<f->t.2.length+(L.length - k)<=10000->(m=false->m0=false/\t.1.size<=30/\∀c∈t.2,IW c)->
  SimS L Z P m0 k (av.l0 n (IH n) f (sH L Z k m E P) t) (aF.l0 n P (II n P) f (iH L Z k m) t)
 |0,k,m,t,hk,hf,hB,ho=>by omega
 |f+1,k,m,t,hk,hf,hB,ho=>by
  have hL:=H.few;unfold av.l0 aF.l0;rw[qi hL hk,jB hL hk,Jp,Jp,eL H (by simp[dA])]
  by_cases c:ii (aR L k) ⟨#[124]⟩=true
  ·obtain⟨hlt,_,_⟩:=eM c
   simp only[c,if_true];rcases DQ (n:=n) (P:=P) (E:=E) H (by omega) (show k+1<=L.length by omega) (m:=m)with⟨a,k',m',e1,e2,h3,h4,h5,h6⟩|⟨a,a',p,k1,m1,k2,m2,e1,e2,h3,h4,h5⟩
   ·rw[e1,e2,Jp,Jp,ab (cC (by omega)),ab (cC (by omega))]
    refine(AK H hn hP f k' m' _ h4 (by omega) (by simp;omega) ?_).up (by omega);intro hm;obtain⟨q1,q2,q3⟩:=ho (h5 hm);refine⟨q1,q2,λx hx=>?_⟩;rcases KP.1 hx with hx|hx
    ·exact q3 x hx
    ·rw[Kb.1 hx];exact h6 hm
   ·rw[e1,e2,Jp,Jp,ab (cC (by omega)),ab (cC (by omega))]
    obtain⟨g,rfl⟩:∃g,f=g+1:=⟨f - 1,by omega⟩
    unfold av.l0 aF.l0;rw[kA hL h4,gy h3,Jp,Jp,ao (by simp),ao (by simp)];exact qW (P2:=P) H h3 h4 h5 hP
  ·simp only[JV.2 c,JI,if_false]
   exact HT H hk hP ho
abbrev modL:List ByteArray:=[⟨#[105,110,112,117,116]⟩,⟨#[111,117,116,112,117,116]⟩,⟨#[105,110,108,105,110,101]⟩]
abbrev modI:List ByteArray:=[Jq,⟨#[105,110,112,117,116]⟩,⟨#[111,117,116,112,117,116]⟩,⟨#[105,110,108,105,110,101]⟩]
def nK (t:Tk):Nat:=if mC t ⟨#[105,110,112,117,116]⟩=true then 1 else if mC t ⟨#[111,117,116,112,117,116]⟩=true then 2 else if mC t ⟨#[105,110,108,105,110,101]⟩=true then 3 else 0
theorem vz {K}{f:Nat}{st:RR}{d:RD}(i:Nat)(hi:i<3):
  av.l2 n modL (Jr modL:Int) K (f+1) (i:Int) st d=if(decide (d.2.2=0))=true then
   (aU.F n st (modL.getD i Jq)).bind λr=>if r.1=true then av.l2 n modL (Jr modL:Int) K f ((i+1:Nat):Int) r.2 (d.1,(d.2.1,((i+1:Nat):Int)))else av.l2 n modL (Jr modL:Int) K f ((i+1:Nat):Int) r.2 d
   else av.l2 n modL (Jr modL:Int) K f ((i+1:Nat):Int) st d:=by
 rw[av.l2];rw[ab (by simp;omega),ab (by simp;omega),ny (by omega)]
 rfl
theorem pP {K}{f:Nat}{st:RR}{d:RD}:av.l2 n modL (Jr modL:Int) K (f+1) 3 st d=K st d:=by
 rw[av.l2];rw[ao (by simp)]
theorem vA {K}{f:Nat}{st:RR}{d:RD}(hd:d.2.2≠0):∀i:Nat,i<=3->5<=f->av.l2 n modL (Jr modL:Int) K f (i:Int) st d=K st d:=by
 intro i hi hf;obtain⟨g,rfl⟩:∃g,f=g+5:=⟨f - 5,by omega⟩
 have st':=λ(i:Nat) (hi:i<3) (f:Nat)=>(vz (n:=n) (K:=K) (f:=f) (st:=st) (d:=d) i hi).trans (ao (by simp[hd]))
 rcases i with _|_|_|_|i
 ·rw[st' 0 (by omega),st' 1 (by omega),st' 2 (by omega)];exact pP
 ·rw[st' 1 (by omega),st' 2 (by omega)];exact pP
 ·rw[st' 2 (by omega)];exact pP
 ·exact pP
 ·omega
theorem HU (H:ek L Z){K}{f:Nat}{k:Nat}{m:Bool}{nm:ByteArray}{ts:List ByteArray}(hk:k<=L.length)(hf:20<=f):
  av.l2 n modL (Jr modL:Int) K f 0 (sH L Z k m E P) (nm,(ts,0))=K (sH L Z (if nK (aR L k)=0 then k else k+1) m E P) (nm,(ts,(nK (aR L k):Int))):=by
 have hL:=H.few;obtain⟨g,rfl⟩:∃g,f=g+8:=⟨f - 8,by omega⟩
 have st':=λ(i:Nat) (hi:i<3) (f:Nat)=>(vz (n:=n) (K:=K) (f:=f) (st:=sH L Z k m E P) (d:=(nm,(ts,0))) i hi).trans (ab (by simp))
 have tk:∀i,i<3->aU.F n (sH L Z k m E P) (modL.getD i Jq)=some (mC (aR L k) (modL.getD i Jq),sH L Z (if mC (aR L k) (modL.getD i Jq)=true then k+1 else k) m E P):=by
  intro i hi;rw[qi hL hk,pM H];rcases i with _|_|_|i
  ·simp[lP]
  ·simp[lP]
  ·simp[lP]
  ·omega
 refine(st' 0 (by omega) _).trans ?_;rw[tk 0 (by omega),Jp];unfold nK;show(if mC (aR L k) ⟨#[105,110,112,117,116]⟩=true then av.l2 n modL (Jr modL:Int) K _ _ (sH L Z (if mC (aR L k) ⟨#[105,110,112,117,116]⟩=true then k+1 else k) m E P) _ else av.l2 n modL (Jr modL:Int) K _ _ (sH L Z (if mC (aR L k) ⟨#[105,110,112,117,116]⟩=true then k+1 else k) m E P) _)=_;cases c0:mC (aR L k) ⟨#[105,110,112,117,116]⟩with
 |true=>
  simp only[if_true];exact vA (by simp) 1 (by omega) (by omega)
 |false=>
  simp only[JI,if_false];refine(st' 1 (by omega) _).trans ?_;rw[tk 1 (by omega),Jp];show(if mC (aR L k) ⟨#[111,117,116,112,117,116]⟩=true then av.l2 n modL (Jr modL:Int) K _ _ (sH L Z (if mC (aR L k) ⟨#[111,117,116,112,117,116]⟩=true then k+1 else k) m E P) _ else av.l2 n modL (Jr modL:Int) K _ _ (sH L Z (if mC (aR L k) ⟨#[111,117,116,112,117,116]⟩=true then k+1 else k) m E P) _)=_;cases c1:mC (aR L k) ⟨#[111,117,116,112,117,116]⟩with
  |true=>
   simp only[if_true];exact vA (by simp) 2 (by omega) (by omega)
  |false=>
   simp only[JI,if_false];refine(st' 2 (by omega) _).trans ?_;rw[tk 2 (by omega),Jp];show(if mC (aR L k) ⟨#[105,110,108,105,110,101]⟩=true then av.l2 n modL (Jr modL:Int) K _ _ (sH L Z (if mC (aR L k) ⟨#[105,110,108,105,110,101]⟩=true then k+1 else k) m E P) _ else av.l2 n modL (Jr modL:Int) K _ _ (sH L Z (if mC (aR L k) ⟨#[105,110,108,105,110,101]⟩=true then k+1 else k) m E P) _)=_;cases c2:mC (aR L k) ⟨#[105,110,108,105,110,101]⟩with
   |true=>
    simp only[if_true];exact vA (by simp) 3 (by omega) (by omega)
   |false=>
    simp only[JI,if_false];exact pP
theorem Jd (hL:L.length<=3000){K}{f:Nat}{b:Int}{k:Nat}{m:Bool}{nm:ByteArray}{ts:List ByteArray}(hk:k<=L.length)(hf:20<=f):
  av.l2 n modL (Jr modL:Int) K f 0 (sF L Z b k m E P) (nm,(ts,0))=K (sF L Z b k m E P) (nm,(ts,0)):=by
 obtain⟨g,rfl⟩:∃g,f=g+8:=⟨f - 8,by omega⟩
 have st':=λ(i:Nat) (hi:i<3) (f:Nat)=>(vz (n:=n) (K:=K) (f:=f) (st:=sF L Z b k m E P) (d:=(nm,(ts,0))) i hi).trans (ab (by simp))
 refine(st' 0 (by omega) _).trans ?_;rw[kA hL hk,Jp,ao (by simp),st' 1 (by omega),kA hL hk,Jp,ao (by simp),st' 2 (by omega),kA hL hk,Jp,ao (by simp)];exact pP
theorem AL {K}{f:Nat}{st:mh}{d:RD}{P:PP}(i:Nat)(hi:i<4)(h0:i≠0):
  aF.l2 n modI (Jr modI:Int) st P d K (f+1) (i:Int)=
   (bP.F n st (modI.getD i Jq)).bind λr=>if r=true then K (st.1,(Ju.wrap (st.2.1+1),st.2.2)) (d.1,(d.2.1,(i:Int)))else aF.l2 n modI (Jr modI:Int) st P d K f ((i+1:Nat):Int):=by
 rw[aF.l2];rw[ab (by simp;omega),ab (by simp;omega),ab (by simp;omega),ny (by omega)]
 rfl
theorem im_0 {K}{f:Nat}{st:mh}{d:RD}{P:PP}:
  aF.l2 n modI (Jr modI:Int) st P d K (f+1) 0=aF.l2 n modI (Jr modI:Int) st P d K f 1:=by
 rw[aF.l2];rw[ab (by simp),ab (by simp),ao (by simp)]
 rfl
theorem DV {K}{f:Nat}{st:mh}{d:RD}{P:PP}:aF.l2 n modI (Jr modI:Int) st P d K (f+1) 4=K st d:=by
 rw[aF.l2];rw[ao (by simp)]
theorem HV (H:ek L Z){K}{f:Nat}{k:Nat}{m:Bool}{nm:ByteArray}{ts:List ByteArray}{P:PP}(hk:k<=L.length)(hf:20<=f):
  aF.l2 n modI (Jr modI:Int) (iH L Z k m) P (nm,(ts,0)) K f 0=K (iH L Z (if nK (aR L k)=0 then k else k+1) m) (nm,(ts,(nK (aR L k):Int))):=by
 have hL:=H.few;obtain⟨g,rfl⟩:∃g,f=g+8:=⟨f - 8,by omega⟩
 have st':=λ(i:Nat) (hi:i<4) (h0:i≠0) (f:Nat)=>AL (n:=n) (K:=K) (f:=f) (st:=iH L Z k m) (d:=(nm,(ts,0))) (P:=P) i hi h0
 refine im_0.trans ?_;refine(st' 1 (by omega) (by omega) _).trans ?_;rw[o5 hL hk,Jp];unfold nK;simp only[ny (show k<=1000000000 by omega)];show(if mC (aR L k) ⟨#[105,110,112,117,116]⟩=true then _ else _)=_;cases c0:mC (aR L k) ⟨#[105,110,112,117,116]⟩with
 |true=>rfl
 |false=>
  simp only[JI,if_false];refine(st' 2 (by omega) (by omega) _).trans ?_;rw[o5 hL hk,Jp];simp only[ny (show k<=1000000000 by omega)];show(if mC (aR L k) ⟨#[111,117,116,112,117,116]⟩=true then _ else _)=_;cases c1:mC (aR L k) ⟨#[111,117,116,112,117,116]⟩with
  |true=>rfl
  |false=>
   simp only[JI,if_false];refine(st' 3 (by omega) (by omega) _).trans ?_;rw[o5 hL hk,Jp];simp only[ny (show k<=1000000000 by omega)];show(if mC (aR L k) ⟨#[105,110,108,105,110,101]⟩=true then _ else _)=_;cases c2:mC (aR L k) ⟨#[105,110,108,105,110,101]⟩with
   |true=>rfl
   |false=>
    simp only[JI,if_false];exact DV
theorem Je {K}{f:Nat}{b:Int}(hb:0<=b){k:Nat}{m:Bool}{nm:ByteArray}{ts:List ByteArray}{P:PP}(hf:20<=f):
  aF.l2 n modI (Jr modI:Int) (iF L Z b k m) P (nm,(ts,0)) K f 0=K (iF L Z b k m) (nm,(ts,0)):=by
 obtain⟨g,rfl⟩:∃g,f=g+8:=⟨f - 8,by omega⟩
 have st':=λ(i:Nat) (hi:i<4) (h0:i≠0) (f:Nat)=>AL (n:=n) (K:=K) (f:=f) (st:=iF L Z b k m) (d:=(nm,(ts,0))) (P:=P) i hi h0
 refine im_0.trans ((st' 1 (by omega) (by omega) _).trans ?_);rw[oQ hb,Jp,ao (by simp),st' 2 (by omega) (by omega),oQ hb,Jp,ao (by simp),st' 3 (by omega) (by omega),oQ hb,Jp,ao (by simp)];exact DV
theorem DW {k:Nat}(hk:k<=L.length):(if nK (aR L k)=0 then k else k+1)<=L.length:=by
 split
 ·exact hk
 ·rename_i h
  rcases Nat.lt_or_ge k L.length with h1|h1
  ·omega
  ·refine bH ?_ h
   rw[j7 (by omega)];unfold nK mC
   simp
abbrev FR (n:Nat)(st:RR)(d:RD):Option RR:=av.j1 n st d (λt=>some t)
def DX (n:Nat)(P:PP)(st:mh)(d:RD):Option (mh×PP):=
 aF.l2 n modI (Jr modI:Int) st P d (λt32 t33=>(aA.F n t32 ⟨#[46]⟩).bind λr34=>if Jr P.2.1+Jr [t33]<=aT then some (r34,(P.1,(P.2.1++[t33],P.2.2)))else none) n 0
theorem DY (H:ek L Z)(hn:200000<=n){m0:Bool}{k:Nat}{m:Bool}{nm:ByteArray}{ts:List ByteArray}(hk:k<=L.length)(hP:P.2.1.length<=100000)(ho:m=false->m0=false/\nm.size<=30/\Cc ts):
  SimS L Z P m0 k (FR n (sH L Z k m E P) (nm,(ts,0))) (DX n P (iH L Z k m) (nm,(ts,0))):=by
 have hL:=H.few;unfold FR av.j1 DX;rw[HU H hk (by omega),HV H hk (by omega)];have hk':=DW hk;have hkk:k<=(if nK (aR L k)=0 then k else k+1):=by split<;>omega
 generalize hk2:(if nK (aR L k)=0 then k else k+1)=k2 at hk' hkk;rw[xx hL hk',n7 hL hk',Jp,Jp,eL H (by simp[dA])]
 by_cases c:ii (aR L k2) ⟨#[46]⟩=true
 ·obtain⟨hlt,_,_⟩:=eM c
  simp only[c,if_true];rw[ab (cC hP),ab (cC hP)];refine .inl ⟨E,_,k2+1,m,rfl,rfl,by omega,by omega,by simp[sA];omega,λh=>?_⟩;obtain⟨h1,h2,h3⟩:=ho h;refine⟨h1,λq=>⟨q.1,λx hx=>?_,q.2.2⟩⟩;rcases KP.1 hx with hx|hx
  ·exact q.2.1 x hx
  ·rw[Kb.1 hx];exact⟨h2,h3⟩
 ·simp only[JV.2 c,JI,if_false]
  rw[ab (cC hP),ab (cC hP)];exact .inr ⟨gx L Z k2,k2,_,_,_,k2,_,_,rfl,rfl,er H _,hk',hk'⟩
theorem AN (H:ek L Z)(hn:200000<=n){m0:Bool}{b:Int}{k k1 k2:Nat}{m1 m2:Bool}{nm1 nm2:ByteArray}{ts1 ts2:List ByteArray}(hb:0<=b)(hk1:k1<=L.length)(hk2:k2<=L.length)(hP:P.2.1.length<=100000):
  SimS L Z P m0 k (FR n (sF L Z b k1 m1 E P) (nm1,(ts1,0))) (DX n P (iF L Z b k2 m2) (nm2,(ts2,0))):=by
 have hL:=H.few;unfold FR av.j1 DX;rw[Jd hL hk1 (by omega),Je hb (by omega),su hL hk1,kB hb,Jp,Jp,ab (cC hP),ab (cC hP)];exact .inr ⟨b,k1,_,_,_,k2,_,_,rfl,rfl,hb,hk1,hk2⟩
abbrev HW (n:Nat)(P:PP)(st:mh)(d:RD):Option (mh×PP):=aF.j1 n st P d (λa b=>some (a,b))
theorem vB {P:PP}{st st':mh}{d:RD}(h:aA.F n st ⟨#[41]⟩=some st'):HW n P st d=DX n P st' d:=by
 unfold HW aF.j1;rw[h,Jp];unfold fu.F;rw[Jp]
 rfl
theorem FT (H:ek L Z)(hn:200000<=n){k:Nat}{m:Bool}(hk:k<L.length)(hP:sA P<=10000):
  SimS L Z P m (k+1) (av.F n (sH L Z k m E P)) (aF.F n (iH L Z k m) P):=by
 have hL:=H.few;have hk0:k<=L.length:=by omega
 have hk1:k+1<=L.length:=by omega
 have p1:P.1.length<=100000:=by unfold sA at hP;omega
 have p2:P.2.1.length<=100000:=by unfold sA at hP;omega
 have p3:P.2.2.length<=100000:=by unfold sA at hP;omega
 unfold av.F aF.F;rw[qi hL hk0,o5 hL hk0,Jp,Jp,pM H (by simp[lP])]
 by_cases ct:mC (aR L k) ⟨#[116,121,112,101]⟩=true
 ·-- a type
  simp only[ct,if_true];simp only[ny (show k<=1000000000 by omega)];rw[sv hL hk1 (by decide),xB hL hk1 (by decide),Jp,Jp]
  by_cases c2:(aR L (k+1)).1=2
  ·have hlt:=lQ (L:=L) (k:=k+1) (by rw[c2];decide)
   have hk2:k+1+1<=L.length:=by omega
   simp only[c2,if_true];rw[xx hL hk2,n7 hL hk2,Jp,Jp,eL H (by simp[dA])]
   by_cases ce:ii (aR L (k+1+1)) ⟨#[61]⟩=true
   ·obtain⟨hlt2,_,_⟩:=eM ce
    simp only[ce,if_true];rcases DQ (n:=n) (P:=P) (E:=E) H (by omega) (show k+1+1+1<=L.length by omega) (m:=m)with⟨a,k',m',e1,e2,h3,h4,h5,h6⟩|⟨a,a',p,k1,m1,k2,m2,e1,e2,h3,h4,h5⟩
    ·rw[e1,e2,Jp,Jp,ab (cC (by simp)),ab (cC (by simp))]
     refine(AK (E:=E) H hn p1 n k' m' _ h4 (by omega) (by simp;omega) ?_).up (by omega);intro hm;refine⟨h5 hm,H.txt _ (eK hlt),λx hx=>?_⟩;rw[Kx,Kb]at hx;rw[hx];exact h6 hm
    ·rw[e1,e2,Jp,Jp,ab (cC (by simp)),ab (cC (by simp))]
     obtain⟨g,rfl⟩:∃g,n=g+1:=⟨n - 1,by omega⟩
     unfold av.l0 aF.l0;rw[kA hL h4,gy h3,Jp,Jp,ao (by simp),ao (by simp)];exact qW (P2:=P) H h3 h4 h5 p1
   ·simp only[JV.2 ce,JI,if_false]
    have hb:=er H (k+1+1);rw[GO hL hk2,GP hb,Jp,Jp,ab (cC (by simp)),ab (cC (by simp))];obtain⟨g,rfl⟩:∃g,n=g+1:=⟨n - 1,by omega⟩
    unfold av.l0 aF.l0;rw[kA hL hk2,gy hb,Jp,Jp,ao (by simp),ao (by simp)];exact qW (P2:=P) H hb hk2 hk2 p1
  ·simp only[c2,if_false]
   have hb:=er H (k+1);rw[su hL hk1,kB hb,Jp,Jp,GO hL hk1,GP hb,Jp,Jp,ab (cC (by simp)),ab (cC (by simp))];obtain⟨g,rfl⟩:∃g,n=g+1:=⟨n - 1,by omega⟩
   unfold av.l0 aF.l0;rw[kA hL hk1,gy hb,Jp,Jp,ao (by simp),ao (by simp)];exact qW (P2:=P) H hb hk1 hk1 p1
 simp only[JV.2 ct,JI,if_false];rw[qi hL hk0,o5 hL hk0,Jp,Jp,pM H (by simp[lP])]
 by_cases cr:mC (aR L k) ⟨#[114,101,108]⟩=true
 ·-- a relation
  simp only[cr,if_true];simp only[ny (show k<=1000000000 by omega)];have fault:∀(b:Int) (k0:Nat) (nm nm2:ByteArray),0<=b->k0<=L.length->SimS L Z P m (k+1)
    ((aU.F n (sF L Z b k0 m E P) ⟨#[41]⟩).bind λr17=>if(!r17.1)=true then(bu.F n r17.2).bind λr18=>FR n r18.2 (nm,(r18.1,0))else FR n r17.2 (nm,([],0)))
    ((bV.F n (iF L Z b k0 m) ⟨#[41]⟩).bind λr18=>if(!r18)=true then(bQ.F n (iF L Z b k0 m)).bind λr19=>HW n P r19.2 (nm2,(r19.1,0))else HW n P (iF L Z b k0 m) (nm2,([],0))):=by
   intro b k0 nm nm2 hb hk0;obtain⟨o1,m1,l1⟩:=FM (n:=n) (Z:=Z) (E:=E) (P:=P) (b:=b) (m:=m) hL (by omega) hk0;obtain⟨o2,m2,l2⟩:=FN (n:=n) (L:=L) (Z:=Z) (k:=k0) (m:=m) (by omega) hb;rw[kA hL hk0,C8 hb,Jp,Jp,ab (by simp),ab (by simp),l1,l2,Jp,Jp,vB (kB hb _)];exact AN H hn hb hk0 hk0 p2
  rw[sv hL hk1 (by decide),xB hL hk1 (by decide),Jp,Jp]
  by_cases c1:(aR L (k+1)).1=1
  ·have hlt:=lQ (L:=L) (k:=k+1) (by rw[c1];decide)
   have hk2:k+1+1<=L.length:=by omega
   simp only[c1,if_true];rw[xx hL hk2,n7 hL hk2,Jp,Jp,eL H (by simp[dA])]
   by_cases cp:ii (aR L (k+1+1)) ⟨#[40]⟩=true
   ·obtain⟨hlt2,_,_⟩:=eM cp
    have hk3:k+1+1+1<=L.length:=by omega
    simp only[cp,if_true];rw[qi hL hk3,HJ hL hk3,Jp,Jp,eL H (by simp[dA])]
    by_cases cq:ii (aR L (k+1+1+1)) ⟨#[41]⟩=true
    ·obtain⟨hlt3,_,_⟩:=eM cq
     simp only[cq,if_true];rw[ao (by simp),ao (by simp)];have w:=n7 (n:=n) (Z:=Z) (m:=m) hL hk3 ⟨#[41]⟩;rw[cq,ab rfl]at w;show SimS L Z P m (k+1) (FR n _ _) (HW n P _ _);rw[vB w];exact(DY H hn (by omega) p2 λhm=>⟨hm,H.txt _ (eK hlt),by simp[Cc]⟩).up (by omega)
    ·simp only[JV.2 cq,JI,if_false]
     rw[ab (by simp),ab (by simp)];rcases xF (n:=n) (P:=P) (E:=E) H (by omega) hk3 (m:=m)with⟨a,k',m',e1,e2,h3,h4,h5,h6⟩|⟨a,a',p,k1,m1,k2,m2,e1,e2,h3,h4,h5⟩
     ·obtain⟨r,i1,i2⟩:=lx e2
      rw[e1,i1,Jp,Jp];show SimS L Z P m (k+1) (FR n _ _) (HW n P _ _);rw[vB i2];exact(DY H hn h4 p2 λhm=>⟨h5 hm,H.txt _ (eK hlt),h6 hm⟩).up (by omega)
     ·obtain⟨r,i1,i2⟩:=lx e2
      rw[e1,i1,Jp,Jp];show SimS L Z P m (k+1) (FR n _ _) (HW n P _ _);rw[vB i2];exact AN H hn h3 h4 h5 p2
   ·simp only[JV.2 cp,JI,if_false]
    exact fault _ _ _ _ (er H _) hk2
  ·simp only[c1,if_false]
   have hb:=er H (k+1);rw[su hL hk1,kB hb,Jp,Jp];exact fault _ _ _ _ hb hk1
 ·-- a rule
  simp only[JV.2 cr,JI,if_false];show SimS L Z P m (k+1) (DU n (sH L Z k m [] P)) _;rcases FQ H hn hk0 p3 (m:=m)with⟨r,k',m',e1,e2,h3,h4,h5⟩|⟨r,b,k1,m1,E1,P1,k2,m2,e1,e2,h3,h4,h5⟩
  ·rw[e1,e2,Jp,ab (cC p3)]
   refine .inl ⟨_,_,k',m',rfl,rfl,h3,h4,by simp[sA];omega,λhm=>?_⟩;obtain⟨q1,q2⟩:=h5 hm;refine⟨q1,λq=>⟨q.1,q.2.1,λx hx=>?_⟩⟩;rcases KP.1 hx with hx|hx
   ·exact q.2.2 x hx
   ·rw[Kb.1 hx];exact q2
  ·rw[e1,e2,Jp,ab (cC p3)]
   exact .inr ⟨b,k1,m1,E1,P1,k2,m2,_,rfl,rfl,h3,h4,h5⟩
end
section
variable {L:List Tk} {Z:Int} {n:Nat}
abbrev P0:PP:=([],([],[]))
abbrev FU:Type:=PP×Int×Int
def AO (R:FU):Prop:=(R.2.2=0/\IG R.1/\R.1.1.length<=20/\R.1.2.1.length<=20/\R.1.2.2.length<=40)\/(R.2.2≠0/\R.1=P0)
def pS (n:Nat)(t7:RR):Option FU:=
 if t7.2.2.2.2.1=true then
 some (([],([],[])),t7.2.2.2.1,5)
 else
 (aW.F n t7 (Jr t7.2.2.2.2.2.2.2.1:Int) 20).bind λr8=>
 (aW.F n r8 (Jr r8.2.2.2.2.2.2.2.2.1:Int) 20).bind λr9=>
 (aW.F n r9 (Jr r9.2.2.2.2.2.2.2.2.2:Int) 40).bind λr10=>
 if r10.2.2.2.2.2.1=true then
 some (([],([],[])),0,6)
 else
 some (r10.2.2.2.2.2.2.2,0,0)
def pI (n:Nat)(t8:mh)(t9:PP):Option FU:=
 if decide (t8.2.2.2.1>=0)=true then
 some (([],([],[])),t8.2.2.2.1,5)
 else
 if t8.2.2.2.2=false then
 if(decide ((Jr t9.1:Int)>20))=false then
 if(decide ((Jr t9.2.1:Int)>20))=false then
 dy.j1 n (decide ((Jr t9.2.2:Int)>40)) ([],([],[])) t9 (λ_=>
 some (t9,0,0))
 else
 dy.j1 n true ([],([],[])) t9 (λ_=>
 some (t9,0,0))
 else
 dy.j1 n true ([],([],[])) t9 (λ_=>
 some (t9,0,0))
 else
 dy.j1 n true ([],([],[])) t9 (λ_=>
 some (t9,0,0))
def DZ (m:Bool)(P:PP):FU:=if(m||decide ((P.1.length:Int)>20)||decide ((P.2.1.length:Int)>20)||decide ((P.2.2.length:Int)>40))=true then(P0,0,6)else(P,0,0)
theorem GQ {k:Nat}{m:Bool}{E:List Xp}{P:PP}:pS n (sH L Z k m E P)=some (DZ m P):=by
 unfold pS;rw[ao (by simp),mi,Jp,mi,Jp,mi,Jp];unfold DZ;show(if(m||_||_||_)=true then _ else _)=some (if _ then _ else _)
 split<;>rfl
theorem IJ {k:Nat}{m:Bool}{P:PP}:pI n (iH L Z k m) P=some (DZ m P):=by
 unfold pI;rw[ao (by simp)];unfold DZ;cases m with
 |true=>rw[ao (by simp)];rfl
 |false=>
  rw[ab rfl]
  by_cases c1:(P.1.length:Int)>20
  ·rw[ao (by simp;omega),iX c1];rfl
  ·rw[ab (by simp;omega),dq c1]
   by_cases c2:(P.2.1.length:Int)>20
   ·rw[ao (by simp;omega),iX c2];rfl
   ·rw[ab (by simp;omega),dq c2]
    unfold dy.j1
    by_cases c3:(P.2.2.length:Int)>40
    ·rw[iX c3];rfl
    ·rw[dq c3];rfl
theorem sB (H:ek L Z)(hn:200000<=n):∀f k m E P,k<=L.length->sA P<=k->L.length - k<f->(m=false->IG P)->
  ∃R,ea.l0 n L P0 (pS n) f (sH L Z k m E P)=some R/\dy.l0 n L P0 (pI n) f (iH L Z k m) P=some R/\AO R
 |0,k,m,E,P,hk,hP,hf,ho=>by omega
 |f+1,k,m,E,P,hk,hP,hf,ho=>by
  have hL:=H.few;unfold ea.l0 dy.l0;rw[ab (show(!false)=true from rfl)]
  by_cases c:k<L.length
  ·have c':decide ((k:Int)<(L.length:Int))=true:=by simp;omega
   rw[ab c',ab (show decide ((-1:Int)<0)=true by decide),ab c'];rcases FT (n:=n) (E:=E) (P:=P) (m:=m) H hn c (by omega)with⟨E',P',k',m',e1,e2,h3,h4,h5,h6⟩|⟨b,k1,m1,E1,P1,k2,m2,P2,e1,e2,h3,h4,h5⟩
   ·rw[e1,e2,Jp,Jp]
    exact sB H hn f k' m' E' P' h4 (by omega) (by omega) λhm=>(h6 hm).2 (ho (h6 hm).1)
   ·rw[e1,e2,Jp,Jp]
    obtain⟨g,rfl⟩:∃g,f=g+1:=⟨f - 1,by omega⟩
    refine⟨(P0,b,5),?_,?_,.inr ⟨by simp,rfl⟩⟩
    ·unfold ea.l0
     rw[ao (by simp)]
     rfl
    ·unfold dy.l0
     rw[ao (by simp;omega)];unfold pI;rw[ab (by simp;omega)]
  ·have c':¬decide ((k:Int)<(L.length:Int))=true:=by simp;omega
   rw[ao c',ab (show decide ((-1:Int)<0)=true by decide),ao c',GQ,IJ];refine⟨_,rfl,rfl,?_⟩;unfold DZ
   split
   ·exact .inr ⟨by simp,rfl⟩
   ·rename_i h
    simp only[Bool.or_eq_true,dg,not_or,Bool.not_eq_true]at h;obtain⟨⟨⟨h1,h2⟩,h3⟩,h4⟩:=h;exact .inl ⟨rfl,ho h1,by simp only;omega,by simp only;omega,by simp only;omega⟩
theorem E3 {s:ByteArray}(H:ek L (s.size:Int))(hn:200000<=n)(h1:az.F n s=some (L,0,0))(h2:db.F n s=some (L,0,0)):
  ∃R,ea.F n s=some R/\dy.F n s=some R/\AO R:=by
 have hL:=H.few;obtain⟨R,e1,e2,e3⟩:=sB (n:=n) H hn n 0 false [] P0 (by omega) (by simp[sA]) (by omega) (λ_=>⟨by simp,by simp,by simp⟩);refine⟨R,?_,?_,e3⟩
 ·unfold ea.F
  rw[h1,Jp,ao (by simp)];exact e1
 ·unfold dy.F
  rw[h2,Jp,ao (by simp)];exact e2
theorem Ce {s:ByteArray}{L1 L2:List Tk}{p c:Int}(hc:c≠0)(h1:az.F n s=some (L1,p,c))(h2:db.F n s=some (L2,p,c)):
  ∃R,ea.F n s=some R/\dy.F n s=some R/\AO R:=by
 refine⟨(P0,p,c),?_,?_,.inr ⟨hc,rfl⟩⟩
 ·unfold ea.F
  rw[h1,Jp,ab (by simp[hc])]
 ·unfold dy.F
  rw[h2,Jp,ab (by simp[hc])]
end
end Go.Abs
