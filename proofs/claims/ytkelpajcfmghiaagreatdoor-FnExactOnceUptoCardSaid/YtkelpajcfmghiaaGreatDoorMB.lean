/- What both sides answer of a rule's form. Conditions: none. -/
import Derived.Test.YtkelpajcfmghiaaGreatDoorY8
import Derived.Test.YtkelpajcfmghiaaGreatDoorPl
open Go.Abs.Kd renaming bulk → JE
open List renaming length_cons → Jw,map_cons → JM,sum_cons → Ko
set_option linter.unusedVariables false
set_option linter.unusedSimpArgs false
namespace Go.Abs
abbrev FB:Kd:=.st (.pair (.int .i64) (.pair (.str) (.sl (.int .i64))))
abbrev oa:Kd:=.st (.pair (.sl FB) (.pair FB (.sl FB)))
theorem xh:∀l:List Int,(l.map (JE (.int .i64))).sum=l.length
 |[]=>rfl
 |x::l=>by
  simp only[JM,Ko,Jw,xh l];simp only[JE];omega
theorem Ax (e:Ex):JE FB e=bx e:=by
 have h:JE (.sl (.int .i64)) e.2.2=e.2.2.length+1:=by rw[cM];exact congrArg (·+1) (xh e.2.2)
 have h1:JE FB e=JE (.int .i64) e.1+(JE .str e.2.1+JE (.sl (.int .i64)) e.2.2):=rfl;rw[h1,h];unfold bx;have h2:JE (.int .i64) e.1=1:=rfl;have h3:JE .str e.2.1=e.2.1.size+1:=rfl;rw[h2,h3];omega
theorem Ay (r:Ru):JE oa r=zO r+2:=by
 have e:∀l:List Ex,(l.map (JE FB)).sum=(l.map bx).sum:=λl=>by rw[List.map_congr_left λx _=>Ax x]
 have h:JE oa r=JE (.sl FB) r.1+(JE FB r.2.1+JE (.sl FB) r.2.2):=rfl;rw[h,cM,cM,e,e,Ax];unfold zO;omega
theorem pC (e:Ex):bx e=3+e.2.1.size+e.2.2.length:=rfl
theorem Az (r:Ru):zO r=(r.1.map bx).sum+bx r.2.1+(r.2.2.map bx).sum:=rfl
theorem zt:∀l:List Ex,l.length<=(l.map bx).sum
 |[]=>Nat.le_refl _
 |x::l=>by
  have:=zt l;simp only[JM,Ko,Jw];have:=pC x;omega
theorem kV {r:Ru}(h:JE oa r<=1048576):I8 r:=by
 rw[Ay]at h;have h1:=zt r.1;have h2:=zt r.2.2;have hx:∀e∈r.1,bx e<=zO r:=λe he=>by have:=ra bx he;unfold zO;omega
 have hl:∀l∈dV r,bx l<=zO r:=λl hl=>by
  unfold zO;rcases List.mem_cons.1 hl with rfl|hl
  ·omega
  ·have:=ra bx hl
   omega
 have hR:=Az r;refine⟨⟨by omega,by omega,λe he=>?_,λl hl'=>?_,by omega⟩,λe he=>?_,λl hl'=>?_⟩
 ·have:=hx e he;have:=pC e;omega
 ·have:=hl l hl';have:=pC l;omega
 ·have:=hx e he;have:=pC e;omega
 ·have:=hl l hl';have:=pC l;omega
section
variable {n:Nat} (hn:cZ<=n)
theorem sf (hn:cZ<=n){r:Ru}(h:JE oa r<=1048576):bN.F n r=some (fP r):=yg n r (by unfold cZ at hn;omega) (kV h)
theorem AA {r:Ru}(h:JE oa r<=1048576):zO r<=1048576:=by rw[Ay]at h;omega
end
end Go.Abs
