/- Functions of the library, by their contracts. Conditions: none. -/
import Derived.Test.YtgdlicpmbgodjaaGreatDoorTy
import Derived.Test.YtgdlicpmbgodjaaGreatDoorSh
import Derived.Test.YtgdlicpmbgodjaaGreatDoorDr
namespace Go.Abs
open Go.Proofs
set_option linter.unusedVariables false
namespace strconv_Itoa
def F (n:Nat) (a:Int):Option (ByteArray):=if -9223372036854775808 ≤ a ∧ a ≤ 9223372036854775807 then some ⟨(Lib.itoa a).toArray⟩ else none
def ent (n:Nat):Z0W:=⟨roA [.int .i64],roR [.str],fun v=>F n v.1⟩
theorem ok (n:Nat):Z07 Tryz.prog 110 (ent n):=by
 refine Z8Y (Ks:=[.int .i64]) (Rs:=[.str]) Tryz.f110 (by kernel_rfl) (by kernel_rfl) (by kernel_rfl) rfl ?_;rintro ⟨a,_⟩ r hr S w hG;have hr:F n a = some r:=hr;unfold F at hr
 split at hr
 ·rename_i hs
  cases hr;refine (Tryz.strconv_Itoa a hs.1 hs.2 w (hG.pow10 (g:=0) (by kernel_rfl))).mono ?_;rintro e w2 ⟨rfl,k,os,rfl⟩;exact ⟨⟨_,rfl,.str⟩,Ext.grow _ _ _ _⟩
 ·cases hr
end strconv_Itoa
namespace strconv_Atoi
def F (n:Nat) (a:ByteArray):Option (Int × Bool):=if a.size ≤ 281474976710656 then some (match Lib.atoiAll a.data.toList with | .ok v=>(v,false) | .range=>(Lib.atoiSat a.data.toList,true) | _=>(0,true)) else none
def ent (n:Nat):Z0W:=⟨roA [.str],roR [.int .i64,.err],fun v=>F n v.1⟩
theorem ok (n:Nat):Z07 Tryz.prog 161 (ent n):=by
 refine Z8Y (Ks:=[.str]) (Rs:=[.int .i64,.err]) Tryz.f161 (by kernel_rfl) (by kernel_rfl) (by kernel_rfl) rfl ?_;rintro ⟨a,_⟩ r hr S w hG;have hr:F n a = some r:=hr;unfold F at hr
 split at hr
 ·rename_i hs
  cases hr;rcases h:Lib.atoiAll a.data.toList with v | _ | _
  ·refine (Tryz.strconv_Atoi_ok a (by omega) v h w).mono ?_
   rintro e w2 ⟨rfl,hw⟩;refine ⟨⟨_,rfl,_,_,rfl,.int,.noErr⟩,?_⟩;rcases hw with rfl | ⟨t,rfl⟩
   ·exact Ext.refl _ _
   ·exact Ext.below (Go.Proofs.bytesD _ _ _).below (Go.Proofs.bytesD _ _ _).drawn
  ·obtain ⟨tp,p,hv⟩:=hG.errS (g:=1) (by kernel_rfl)
   refine (Go.Proofs.atoiSD Tryz.laysC172 a hs (by rw [h]; intro v e; cases e) (by rw [h]; intro e; cases e) tp p w hv).mono ?_;rintro e w2 ⟨N,rfl,hb⟩;exact ⟨⟨_,rfl,_,_,rfl,.int,.anErr⟩,Ext.below hb.below hb.drawn⟩
  ·obtain ⟨tp,p,hv⟩:=hG.errR (g:=2) (by kernel_rfl)
   refine (Go.Proofs.atoiRD Tryz.laysC172 a hs h tp p w hv).mono ?_;rintro e w2 ⟨N,rfl,hb⟩;exact ⟨⟨_,rfl,_,_,rfl,.int,.anErr⟩,Ext.below hb.below hb.drawn⟩
 ·cases hr
end strconv_Atoi
namespace strings_Cut
def F (n:Nat) (a:ByteArray) (b:ByteArray):Option (ByteArray × ByteArray × Bool):=if a.size < 4294967281 then some (⟨(Lib.cut a.data.toList b.data.toList).1.toArray⟩,⟨(Lib.cut a.data.toList b.data.toList).2.1.toArray⟩,(Lib.cut a.data.toList b.data.toList).2.2) else none
def ent (n:Nat):Z0W:=⟨roA [.str,.str],roR [.str,.str,.bool],fun v=>F n v.1 v.2.1⟩
theorem ok (n:Nat):Z07 Tryz.prog 232 (ent n):=by
 refine Z8Y (Ks:=[.str,.str]) (Rs:=[.str,.str,.bool]) Tryz.f232 (by kernel_rfl) (by kernel_rfl) (by kernel_rfl) rfl ?_;rintro ⟨a,b,_⟩ r hr S w hG;have hr:F n a b = some r:=hr;unfold F at hr
 split at hr
 ·rename_i hs
  cases hr;obtain ⟨m,hm⟩:=hG.maxLen (g:=5) (by kernel_rfl);refine (Tryz.strings_Cut a b m w hs hm).mono ?_;rintro e w2 ⟨rfl,k,rfl⟩;exact ⟨⟨_,rfl,_,_,_,rfl,.str,.str,.bool⟩,Ext.of_heap rfl rfl rfl rfl (Nat.le_add_right _ _)⟩
 ·cases hr
end strings_Cut
end Go.Abs
