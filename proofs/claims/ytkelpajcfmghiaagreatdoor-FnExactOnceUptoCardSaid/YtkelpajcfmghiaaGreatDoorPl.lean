/- Words for what the printed functions answer: loops, lists, numbers. Conditions: none. -/
import Derived.Test.YtkelpajcfmghiaaGreatDoorRow
open List renaming getD → Jt,length → Jp,map → KW,map_cons → JK,sum_cons → Kl
open Nat renaming le_refl → JS
namespace Go.Abs
def cZ:Nat:=4294967296
theorem aK (z:Int)(h0:-4611686018427387904<=z)(h1:z<=4611686018427387904):IntKind.i64.wrap z=z:=by
 simp only[IntKind.wrap,IntKind.signed,IntKind.bits]
 simp
 omega
theorem bS {α β:Type}{o:Option α}{f:α->Option β}{a:α}{b:Option β}(h:o=some a)(h2:f a=b):o.bind f=b:=by rw[h];exact h2
theorem dj {α β:Type}{o:Option α}{f:α->Option β}(h:∃r,o=some r)(h2:∀r,∃s,f r=some s):∃s,o.bind f=some s:=by
 obtain⟨r,hr⟩:=h;rw[hr];exact h2 r
theorem vB {α β:Type}{o:Option α}{f:α->Option β}{b:β}(h:∃r,o=some r)(h2:∀r,f r=some b):o.bind f=some b:=by
 obtain⟨r,hr⟩:=h;rw[hr];exact h2 r
theorem bJ (a:ByteArray):Abs.seq a a=true:=by simp[Abs.seq]
section
variable {α:Type}
theorem cR (pre post:List α)(x d:α):Jt (pre++x::post) pre.length d=x:=by simp[Jt]
theorem dU (pre post:List α)(x y:α):List.set (pre++x::post) pre.length y=pre++y::post:=by simp
theorem eX (pre post:List α)(x:α):(0<=(Jp pre:Int)/\(Jp pre:Int)<(Jp (pre++x::post):Int))=True:=by
 simp;omega
theorem eY (pre post:List α)(x:α):((Jp pre:Int)<(Jp (pre++x::post):Int))=True:=by
 simp;omega
theorem nn (n:Nat):(0<=(n:Int))=True:=by simp
theorem eZ (pre:List α):((Jp pre:Int)<(Jp (pre++[]):Int))=False:=by
 simp
end
theorem dk {e:Kd}{l:List e.T}{x:e.T}(h:x∈l):e.bulk x<=(KW e.bulk l).sum:=by
 induction l with
 |nil=>cases h
 |cons y l ih=>
  simp only[JK,Kl];cases h with
  |head=>omega
  |tail _ h=>have:=ih h;omega
theorem kh:∀(K:Kd) (x:K.T),1<=K.bulk x
 | .int _,_=>JS _
 | .bool,_=>JS _
 | .str,_=>Nat.le_add_left _ _
 | .err,_=>JS _
 | .raw _,_=>JS _
 | .mp _ _,_=>JS _
 | .fcell _ _ _,_=>JS _
 | .sl _,_=>Nat.le_add_left _ _
 | .st k,x=>kh k x
 | .pair a b,x=>Nat.le_trans (kh a x.1) (Nat.le_add_right _ _)
theorem cy {e:Kd}(l:List e.T):Jp l<=(KW e.bulk l).sum:=by
 induction l with
 |nil=>exact JS _
 |cons x l ih=>
  have:=kh e x;simp only[JK,Kl,List.length_cons];omega
theorem cM {e:Kd}(l:List e.T):Kd.bulk (.sl e) l=(KW e.bulk l).sum+1:=rfl
theorem getD_mem' {α:Type}(l:List α)(i:Int)(d:α)(h0:0<=i)(h:i<(Jp l:Int)):Jt l (Int.toNat i) d∈l:=by
 have hlt:Int.toNat i<l.length:=by omega
 rw[List.getD_eq_getElem?_getD,List.getElem?_eq_getElem hlt];exact List.getElem_mem hlt
end Go.Abs
