/- What both sides answer of a rule's form. Conditions: none. -/
import Derived.Test.YtkelpajcfmghiaaGreatDoorY8
import Derived.Test.YtkelpajcfmghiaaGreatDoorPl
open Go.Abs.Kd renaming bulk → JC
open List renaming length_cons → Ju,map_cons → JK,sum_cons → Kl
namespace Go.Abs
abbrev FA:Kd:=.st (.pair (.int .i64) (.pair (.str) (.sl (.int .i64))))
abbrev o9:Kd:=.st (.pair (.sl FA) (.pair FA (.sl FA)))
theorem xg:∀l:List Int,(l.map (JC (.int .i64))).sum=l.length
 |[]=>rfl
 |x::l=>by
  simp only[JK,Kl,Ju,xg l];simp only[JC];omega
theorem Aw (e:Ex):JC FA e=bx e:=by
 have h:JC (.sl (.int .i64)) e.2.2=e.2.2.length+1:=by rw[cM];exact congrArg (·+1) (xg e.2.2)
 have h1:JC FA e=JC (.int .i64) e.1+(JC .str e.2.1+JC (.sl (.int .i64)) e.2.2):=rfl;rw[h1,h];unfold bx;have h2:JC (.int .i64) e.1=1:=rfl;have h3:JC .str e.2.1=e.2.1.size+1:=rfl;rw[h2,h3];omega
theorem Ax (r:Ru):JC o9 r=zN r+2:=by
 have e:∀l:List Ex,(l.map (JC FA)).sum=(l.map bx).sum:=λl=>by rw[List.map_congr_left λx _=>Aw x]
 have h:JC o9 r=JC (.sl FA) r.1+(JC FA r.2.1+JC (.sl FA) r.2.2):=rfl;rw[h,cM,cM,e,e,Aw];unfold zN;omega
theorem pC (e:Ex):bx e=3+e.2.1.size+e.2.2.length:=rfl
theorem Ay (r:Ru):zN r=(r.1.map bx).sum+bx r.2.1+(r.2.2.map bx).sum:=rfl
theorem zr:∀l:List Ex,l.length<=(l.map bx).sum
 |[]=>Nat.le_refl _
 |x::l=>by
  have:=zr l;simp only[JK,Kl,Ju];have:=pC x;omega
theorem kU {r:Ru}(h:JC o9 r<=1048576):I6 r:=by
 rw[Ax]at h;have h1:=zr r.1;have h2:=zr r.2.2;have hx:∀e∈r.1,bx e<=zN r:=λe he=>by have:=ra bx he;unfold zN;omega
 have hl:∀l∈dV r,bx l<=zN r:=λl hl=>by
  unfold zN;rcases List.mem_cons.1 hl with rfl|hl
  ·omega
  ·have:=ra bx hl
   omega
 have hR:=Ay r;refine⟨⟨by omega,by omega,λe he=>?_,λl hl'=>?_,by omega⟩,λe he=>?_,λl hl'=>?_⟩
 ·have:=hx e he;have:=pC e;omega
 ·have:=hl l hl';have:=pC l;omega
 ·have:=hx e he;have:=pC e;omega
 ·have:=hl l hl';have:=pC l;omega
theorem seq_dec (a b:ByteArray):Abs.seq a b=decide (a=b):=by
 rw[jl a,jl b,ge]
 by_cases h:a.data.toList=b.data.toList
 ·rw[h];simp
 ·have:¬bt a.data.toList=bt b.data.toList:=λe=>h (by have:=congrArg (λx=>x.data.toList) e;simpa[ek]using this)
  rw[dq this,beq_eq_false_iff_ne];exact h
section
variable {n:Nat} (hn:cZ<=n)
theorem sf (hn:cZ<=n){r:Ru}(h:JC o9 r<=1048576):bN.F n r=some (fP r):=yf n r (by unfold cZ at hn;omega) (kU h)
theorem Az {r:Ru}(h:JC o9 r<=1048576):zN r<=1048576:=by rw[Ax]at h;omega
end
end Go.Abs
