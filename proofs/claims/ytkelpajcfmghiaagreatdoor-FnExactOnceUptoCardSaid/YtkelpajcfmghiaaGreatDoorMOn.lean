/- Once: the program's answers what the reference's does. Conditions: none. -/
import Derived.Test.YtkelpajcfmghiaaGreatDoorN5
import Derived.Test.YtkelpajcfmghiaaGreatDoorHP
open Go.Abs.Kd renaming bulk → JE
set_option linter.unusedVariables false
set_option linter.unusedSimpArgs false
namespace Go.Abs
theorem law_laws_FnExactOnce {n:Nat}(hn:cZ<=n)(a0:Wb)(ho0:Kd.okv Qc a0)(hb0:JE Qc a0<=1048576):laws_FnExactOnce.F n a0=some true:=by
 obtain⟨w,hs,hi,hw'⟩:=C7 hn a0 hb0;have hw:JE Qc w<=1048576:=hw';clear hw';unfold laws_FnExactOnce.F;refine vC (Fc hn _ (by first|omega|(simp only[JE]at*;omega)) _) λz1=>?_
 split
 ·rfl
 refine bS (qU hn _ (by first|omega|(simp only[JE]at*;omega))) ?_
 try dsimp only
 refine bS hs ?_
 try dsimp only
 refine bS (qU hn _ (by first|omega|(simp only[JE]at*;omega))) ?_
 try dsimp only
 refine bS hi ?_
 try dsimp only
 refine bS (qV hn _ (by first|omega|(simp only[JE]at*;omega))) ?_
 try dsimp only
 rw[ao (by simp[bJ])];refine bS (qU hn _ (by first|omega|(simp only[JE]at*;omega))) ?_
 try dsimp only
 refine bS (qV hn _ (by first|omega|(simp only[JE]at*;omega))) ?_
 try dsimp only
 rw[ao (by simp[bJ])];obtain⟨q2,y2,a2,b2,c2,d2⟩:=Au hn a0 (by first|omega|(simp only[JE]at*;omega)) 1 (by omega) (by first|omega|(simp only[JE]at*;omega));refine bS a2 ?_
 try dsimp only
 rw[ab (by simp only[vK];omega)];refine bS (qV hn _ (by first|omega|(simp only[JE]at*;omega))) ?_
 try dsimp only
 rw[ao (by simp[bJ])];unfold laws_FnExactOnce.j0;obtain⟨q3,y3,a3,b3,c3,d3⟩:=Au hn w (by first|omega|(simp only[JE]at*;omega)) 1 (by omega) (by first|omega|(simp only[JE]at*;omega));refine bS a3 ?_
 try dsimp only
 refine bS d3 ?_
 try dsimp only
 rw[ao (by simp only[dg];omega)];rw[ao (by simp[bJ])];refine bS (qU hn _ (by first|omega|(simp only[JE]at*;omega))) ?_
 try dsimp only
 refine bS hi ?_
 try dsimp only
 refine bS (qV hn _ (by first|omega|(simp only[JE]at*;omega))) ?_
 try dsimp only
 rw[ao (by simp[bJ])];refine bS d3 ?_
 try dsimp only
 rw[ao (by simp only[dg];omega)];rw[ao (by simp[bJ])]
 all_goals rfl
end Go.Abs
