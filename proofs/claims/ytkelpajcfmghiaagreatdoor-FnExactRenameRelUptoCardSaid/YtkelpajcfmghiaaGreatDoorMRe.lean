/- RenameRel: the program's answers what the reference's does. Conditions: none. -/
import Derived.Test.YtkelpajcfmghiaaGreatDoorN7
import Derived.Test.YtkelpajcfmghiaaGreatDoorHP
open Go.Abs.Kd renaming bulk → Jr
set_option linter.unusedVariables false
set_option linter.unusedSimpArgs false
namespace Go.Abs
theorem law_laws_FnExactRenameRel {n:Nat}(hn:dh<=n)(a0:Wc)(a1:ByteArray)(a2:ByteArray)(ho0:Kd.okv Qc a0)(ho1:Kd.okv .str a1)(ho2:Kd.okv .str a2)(hb0:Jr Qc a0<=1048576)(hb1:Jr .str a1<=1048576)(hb2:Jr .str a2<=1048576):laws_FnExactRenameRel.F n a0 a1 a2=some true:=by
 obtain⟨w,hs,hi,hw'⟩:=x5 n hn a0 a1 a2 hb0 (by have h:a2.size+1<=1048576:=hb2;omega);have hw:Jr Qc w.1<=1048576:=hw';clear hw';unfold laws_FnExactRenameRel.F
 split
 ·rfl
 split
 ·rfl
 refine vb (EA hn _ (by first|omega|(simp only[Jr]at*;omega)) _) λz1=>?_
 split
 ·rfl
 refine bP (qD hn _ (by first|omega|(simp only[Jr]at*;omega))) ?_
 try dsimp only
 refine bP hs ?_
 try dsimp only
 refine bP (qD hn _ (by first|omega|(simp only[Jr]at*;omega))) ?_
 try dsimp only
 refine bP hi ?_
 try dsimp only
 refine bP (qE hn _ (by first|omega|(simp only[Jr]at*;omega))) ?_
 try dsimp only
 rw[ab (by simp[bp])];rw[ao (by simp[bp])];unfold laws_FnExactRenameRel.j0;refine bP (qD hn _ (by first|omega|(simp only[Jr]at*;omega))) ?_
 try dsimp only
 refine bP (qE hn _ (by first|omega|(simp only[Jr]at*;omega))) ?_
 try dsimp only
 rw[ao (by simp[bp])];obtain⟨q2,y2,a2,b2,c2,d2⟩:=A8 hn a0 (by first|omega|(simp only[Jr]at*;omega)) 1 (by omega) (by first|omega|(simp only[Jr]at*;omega));refine bP a2 ?_
 try dsimp only
 rw[ab (by simp only[vk];omega)];refine bP (qE hn _ (by first|omega|(simp only[Jr]at*;omega))) ?_
 try dsimp only
 rw[ab (by simp[bp])];rw[ao (by simp[bp])];unfold laws_FnExactRenameRel.j1;obtain⟨q3,y3,a3,b3,c3,d3⟩:=A8 hn w.1 (by first|omega|(simp only[Jr]at*;omega)) 1 (by omega) (by first|omega|(simp only[Jr]at*;omega));refine bP a3 ?_
 try dsimp only
 refine bP d3 ?_
 try dsimp only
 rw[ao (by simp only[db];omega)];rw[ao (by simp[bp])];refine bP (qD hn _ (by first|omega|(simp only[Jr]at*;omega))) ?_
 try dsimp only
 refine bP hi ?_
 try dsimp only
 refine bP (qE hn _ (by first|omega|(simp only[Jr]at*;omega))) ?_
 try dsimp only
 rw[ab (by simp[bp])];rw[ao (by simp[bp])];unfold laws_FnExactRenameRel.j2;refine bP d3 ?_
 try dsimp only
 rw[ao (by simp only[db];omega)];rw[ao (by simp[bp])]
 all_goals rfl
end Go.Abs
