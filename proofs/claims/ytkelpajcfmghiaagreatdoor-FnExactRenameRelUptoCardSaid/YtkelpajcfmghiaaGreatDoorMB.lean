/- What both sides answer of a rule's form. Conditions: none. -/
import Derived.Test.YtkelpajcfmghiaaGreatDoorY8
import Derived.Test.YtkelpajcfmghiaaGreatDoorPl
open Go.Abs.Kd renaming bulk → Jr
open List renaming length_cons → Jj,map_cons → Jy,sum_cons → JY
set_option linter.unusedVariables false
set_option linter.unusedSimpArgs false
namespace Go.Abs
abbrev EU:Kd:=.st (.pair (.int .i64) (.pair (.str) (.sl (.int .i64))))
abbrev qF:Kd:=.st (.pair (.sl EU) (.pair EU (.sl EU)))
theorem wL:∀l:List Int,(l.map (Jr (.int .i64))).sum=l.length
 |[]=>rfl
 |x::l=>by
  simp only[Jy,JY,Jj,wL l];simp only[Jr];omega
theorem Ab (e:Ex):Jr EU e=bx e:=by
 have h:Jr (.sl (.int .i64)) e.2.2=e.2.2.length+1:=by rw[cL];exact congrArg (·+1) (wL e.2.2)
 have h1:Jr EU e=Jr (.int .i64) e.1+(Jr .str e.2.1+Jr (.sl (.int .i64)) e.2.2):=rfl;rw[h1,h];unfold bx;have h2:Jr (.int .i64) e.1=1:=rfl;have h3:Jr .str e.2.1=e.2.1.size+1:=rfl;rw[h2,h3];omega
theorem Ac (r:Ru):Jr qF r=DJ r+2:=by
 have e:∀l:List Ex,(l.map (Jr EU)).sum=(l.map bx).sum:=λl=>by rw[List.map_congr_left λx _=>Ab x]
 have h:Jr qF r=Jr (.sl EU) r.1+(Jr EU r.2.1+Jr (.sl EU) r.2.2):=rfl;rw[h,cL,cL,e,e,Ab];unfold DJ;omega
theorem rR (e:Ex):bx e=3+e.2.1.size+e.2.2.length:=rfl
theorem EV (r:Ru):DJ r=(r.1.map bx).sum+bx r.2.1+(r.2.2.map bx).sum:=rfl
theorem yU:∀l:List Ex,l.length<=(l.map bx).sum
 |[]=>Nat.le_refl _
 |x::l=>by
  have:=yU l;simp only[Jy,JY,Jj];have:=rR x;omega
theorem pp {r:Ru}(h:Jr qF r<=1048576):HT r:=by
 rw[Ac]at h;have h1:=yU r.1;have h2:=yU r.2.2;have hx:∀e∈r.1,bx e<=DJ r:=λe he=>by have:=qJ bx he;unfold DJ;omega
 have hl:∀l∈dQ r,bx l<=DJ r:=λl hl=>by
  unfold DJ;rcases List.mem_cons.1 hl with rfl|hl
  ·omega
  ·have:=qJ bx hl
   omega
 have hR:=EV r;refine⟨⟨by omega,by omega,λe he=>?_,λl hl'=>?_,by omega⟩,λe he=>?_,λl hl'=>?_⟩
 ·have:=hx e he;have:=rR e;omega
 ·have:=hl l hl';have:=rR l;omega
 ·have:=hx e he;have:=rR e;omega
 ·have:=hl l hl';have:=rR l;omega
section
variable {n:Nat} (hn:dh<=n)
theorem CU (hn:dh<=n){r:Ru}(h:Jr qF r<=1048576):ca.F n r=some (gh r):=xL n r (by unfold dh at hn;omega) (pp h)
end
end Go.Abs
