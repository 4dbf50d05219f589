/- Words for what the printed functions answer: loops, lists, numbers. Conditions: none. -/
import Derived.Test.YtkelpajcfmghiaaGreatDoorRow
open List renaming getD → Jv,length → Jr,map → KZ,map_cons → JM,sum_cons → Ko
open Nat renaming le_refl → JU
set_option linter.unusedVariables false
set_option linter.unusedSimpArgs false
namespace Go.Abs
def cZ:Nat:=4294967296
theorem aK (z:Int)(h0:-4611686018427387904<=z)(h1:z<=4611686018427387904):IntKind.i64.wrap z=z:=by
 simp only[IntKind.wrap,IntKind.signed,IntKind.bits]
 simp
 omega
theorem bS {α β:Type}{o:Option α}{f:α->Option β}{a:α}{b:Option β}(h:o=some a)(h2:f a=b):o.bind f=b:=by rw[h];exact h2
theorem dj {α β:Type}{o:Option α}{f:α->Option β}(h:∃r,o=some r)(h2:∀r,∃s,f r=some s):∃s,o.bind f=some s:=by
 obtain⟨r,hr⟩:=h;rw[hr];exact h2 r
theorem vC {α β:Type}{o:Option α}{f:α->Option β}{b:β}(h:∃r,o=some r)(h2:∀r,f r=some b):o.bind f=some b:=by
 obtain⟨r,hr⟩:=h;rw[hr];exact h2 r
theorem bJ (a:ByteArray):Abs.seq a a=true:=by simp[Abs.seq]
section
variable {α:Type}
theorem cR (pre post:List α)(x d:α):Jv (pre++x::post) pre.length d=x:=by simp[Jv]
theorem dU (pre post:List α)(x y:α):List.set (pre++x::post) pre.length y=pre++y::post:=by simp
theorem eX (pre post:List α)(x:α):(0<=(Jr pre:Int)/\(Jr pre:Int)<(Jr (pre++x::post):Int))=True:=by
 simp;omega
theorem eY (pre post:List α)(x:α):((Jr pre:Int)<(Jr (pre++x::post):Int))=True:=by
 simp;omega
theorem nn (n:Nat):(0<=(n:Int))=True:=by simp
theorem eZ (pre:List α):((Jr pre:Int)<(Jr (pre++[]):Int))=False:=by
 simp
end
theorem dk {e:Kd}{l:List e.T}{x:e.T}(h:x∈l):e.bulk x<=(KZ e.bulk l).sum:=by
 induction l with
 |nil=>cases h
 |cons y l ih=>
  simp only[JM,Ko];cases h with
  |head=>omega
  |tail _ h=>have:=ih h;omega
theorem ki:∀(K:Kd) (x:K.T),1<=K.bulk x
 | .int _,_=>JU _
 | .bool,_=>JU _
 | .str,_=>Nat.le_add_left _ _
 | .err,_=>JU _
 | .raw _,_=>JU _
 | .mp _ _,_=>JU _
 | .fcell _ _ _,_=>JU _
 | .sl _,_=>Nat.le_add_left _ _
 | .st k,x=>ki k x
 | .pair a b,x=>Nat.le_trans (ki a x.1) (Nat.le_add_right _ _)
theorem cy {e:Kd}(l:List e.T):Jr l<=(KZ e.bulk l).sum:=by
 induction l with
 |nil=>exact JU _
 |cons x l ih=>
  have:=ki e x;simp only[JM,Ko,List.length_cons];omega
theorem cM {e:Kd}(l:List e.T):Kd.bulk (.sl e) l=(KZ e.bulk l).sum+1:=rfl
theorem getD_mem' {α:Type}(l:List α)(i:Int)(d:α)(h0:0<=i)(h:i<(Jr l:Int)):Jv l (Int.toNat i) d∈l:=by
 have hlt:Int.toNat i<l.length:=by omega
 rw[List.getD_eq_getElem?_getD,List.getElem?_eq_getElem hlt];exact List.getElem_mem hlt
end Go.Abs
