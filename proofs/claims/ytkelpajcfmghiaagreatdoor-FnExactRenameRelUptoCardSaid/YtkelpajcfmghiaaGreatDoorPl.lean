/- Words for what the printed functions answer: loops, lists, numbers. Conditions: none. -/
import Derived.Test.YtkelpajcfmghiaaGreatDoorRow
open List renaming getD → Ji,length → Je,map → KI,map_cons → Jy,sum_cons → JY
open Nat renaming le_refl → JG
set_option linter.unusedVariables false
set_option linter.unusedSimpArgs false
namespace Go.Abs
def dh:Nat:=4294967296
theorem aJ (z:Int)(h0:-4611686018427387904<=z)(h1:z<=4611686018427387904):IntKind.i64.wrap z=z:=by
 simp only[IntKind.wrap,IntKind.signed,IntKind.bits]
 simp
 omega
theorem bP {α β:Type}{o:Option α}{f:α->Option β}{a:α}{b:Option β}(h:o=some a)(h2:f a=b):o.bind f=b:=by rw[h];exact h2
theorem di {α β:Type}{o:Option α}{f:α->Option β}(h:∃r,o=some r)(h2:∀r,∃s,f r=some s):∃s,o.bind f=some s:=by
 obtain⟨r,hr⟩:=h;rw[hr];exact h2 r
theorem vb {α β:Type}{o:Option α}{f:α->Option β}{b:β}(h:∃r,o=some r)(h2:∀r,f r=some b):o.bind f=some b:=by
 obtain⟨r,hr⟩:=h;rw[hr];exact h2 r
theorem bp (a:ByteArray):Abs.seq a a=true:=by simp[Abs.seq]
section
variable {α:Type}
theorem cR (pre post:List α)(x d:α):Ji (pre++x::post) pre.length d=x:=by simp[Ji]
theorem dP (pre post:List α)(x y:α):List.set (pre++x::post) pre.length y=pre++y::post:=by simp
theorem eU (pre post:List α)(x:α):(0<=(Je pre:Int)/\(Je pre:Int)<(Je (pre++x::post):Int))=True:=by
 simp;omega
theorem eV (pre post:List α)(x:α):((Je pre:Int)<(Je (pre++x::post):Int))=True:=by
 simp;omega
theorem nn (n:Nat):(0<=(n:Int))=True:=by simp
theorem eW (pre:List α):((Je pre:Int)<(Je (pre++[]):Int))=False:=by
 simp
end
theorem dj {e:Kd}{l:List e.T}{x:e.T}(h:x∈l):e.bulk x<=(KI e.bulk l).sum:=by
 induction l with
 |nil=>cases h
 |cons y l ih=>
  simp only[Jy,JY];cases h with
  |head=>omega
  |tail _ h=>have:=ih h;omega
theorem kb:∀(K:Kd) (x:K.T),1<=K.bulk x
 | .int _,_=>JG _
 | .bool,_=>JG _
 | .str,_=>Nat.le_add_left _ _
 | .err,_=>JG _
 | .raw _,_=>JG _
 | .mp _ _,_=>JG _
 | .fcell _ _ _,_=>JG _
 | .sl _,_=>Nat.le_add_left _ _
 | .st k,x=>kb k x
 | .pair a b,x=>Nat.le_trans (kb a x.1) (Nat.le_add_right _ _)
theorem cy {e:Kd}(l:List e.T):Je l<=(KI e.bulk l).sum:=by
 induction l with
 |nil=>exact JG _
 |cons x l ih=>
  have:=kb e x;simp only[Jy,JY,List.length_cons];omega
theorem cL {e:Kd}(l:List e.T):Kd.bulk (.sl e) l=(KI e.bulk l).sum+1:=rfl
theorem getD_mem' {α:Type}(l:List α)(i:Int)(d:α)(h0:0<=i)(h:i<(Je l:Int)):Ji l (Int.toNat i) d∈l:=by
 have hlt:Int.toNat i<l.length:=by omega
 rw[List.getD_eq_getElem?_getD,List.getElem?_eq_getElem hlt];exact List.getElem_mem hlt
end Go.Abs
