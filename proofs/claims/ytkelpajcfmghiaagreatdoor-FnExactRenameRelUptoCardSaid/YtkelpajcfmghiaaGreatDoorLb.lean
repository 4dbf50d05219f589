/- Functions of the library, by their contracts. Conditions: none. -/
import Derived.Test.YtkelpajcfmghiaaGreatDoorTy
import Derived.Test.YtkelpajcfmghiaaGreatDoorSh
import Derived.Shelf.Strconv.ErrVarAll
open Go.Abs.Ext renaming below → NU,refl → Ns
open Go.Proofs.Tryz renaming prog → Jp
set_option linter.unusedVariables false
set_option linter.unusedSimpArgs false
namespace Go.Abs
open Go.Proofs
namespace cJ
def F (n:Nat)(a:WL)(b:ByteArray):Option (ByteArray):=if List.length a<=aU/\(Lib.join (a.map (·.data.toList)) b.data.toList).length<=aU then some ⟨(Lib.join (a.map (·.data.toList)) b.data.toList).toArray⟩else none
def ent (n:Nat):ij:=⟨wv [.sl QC,.str],Bh [.str],λv=>F n v.1 v.2.1⟩
theorem ok (n:Nat):aq Jp 107 (ent n):=by
 refine A0 (Ks:=[.sl .str,.str]) (Rs:=[.str]) Tryz.f107 (by kernel_rfl) (by kernel_rfl) (by kernel_rfl) ?_;rintro⟨a,b,_⟩ r hr S w vals hS hG ⟨v,r1,cs,rfl,h1,h2,v2,r2,cs2,rfl,k1,k2,rfl⟩;have hr:F n a b=some r:=hr;unfold F at hr
 split at hr
 case isFalse=>cases hr
 rename_i hs;cases hr;obtain rfl:v2= .string b:=RO.pv (K:=.str) rfl k1 k2;obtain⟨B,cap,L,rfl,l1,l2,l3,l4,l5⟩:=C6 (show RO S w (.sl .str) a cs from h1);obtain rfl:v= .slice B a.length cap:=h2.1
 by_cases h0:0<a.length
 ·obtain⟨bk,o,rfl,hb⟩:=l4 h0
  refine(Tryz.strings_Join bk o cap a b w (λj x hx=>?_) (hS bk hb) (by simp only[aU]at hs;omega) l1 (by simp only[aU]at hs;omega)).mono ?_
  ·obtain⟨hj,rfl⟩:=List.getElem?_eq_some_iff.1 hx
   have e1:cH L 1 j=[.string a[j]]:=l5 j hj;have hL:j<L.length:=by rw[l2];simpa[Kd.size]using hj
   rw[l3 bk o rfl j hL];simp only[cH,Nat.mul_one]at e1;rw[List.drop_eq_getElem_cons hL]at e1;simp only[List.take_succ_cons,List.take_zero,List.cons.injEq,and_true]at e1;rw[e1]
  ·rintro e w2 ⟨rfl,hb2⟩
   exact⟨⟨_,rfl,.str⟩,NU hb2⟩
 ·obtain rfl:a=[]:=List.length_eq_zero_iff.1 (by omega)
  refine(Tryz.strings_Join_none B cap b w).mono ?_;rintro e w2 ⟨rfl,rfl⟩;exact⟨⟨_,rfl,.str⟩,Ns _ _⟩
def E:En:=⟨107,ent,ok⟩
end cJ
namespace de
def F (n:Nat)(a:Int):Option (ByteArray):=if -9223372036854775808<=a/\a<=9223372036854775807 then some ⟨(Lib.itoa a).toArray⟩else none
def ent (n:Nat):ij:=⟨wv [.int .i64],Bh [.str],λv=>F n v.1⟩
theorem ok (n:Nat):aq Jp 128 (ent n):=by
 refine uG (Ks:=[.int .i64]) (Rs:=[.str]) Tryz.f128 (by kernel_rfl) (by kernel_rfl) (by kernel_rfl) rfl ?_;rintro⟨a,_⟩ r hr S w hG;have hr:F n a=some r:=hr;unfold F at hr
 split at hr
 ·rename_i hs
  cases hr;refine(Tryz.strconv_Itoa a hs.1 hs.2 w (hG.pow10 (g:=1) (by kernel_rfl))).mono ?_;rintro e w2 ⟨rfl,k,os,rfl⟩;exact⟨⟨_,rfl,.str⟩,Ext.grow _ _ _ _⟩
 ·cases hr
def E:En:=⟨128,ent,ok⟩
end de
namespace iu
def F (n:Nat)(a:ByteArray)(b:Int):Option (Int):=some (Lib.indexByte a.data.toList (Int.toNat b).toUInt8)
def ent (n:Nat):ij:=⟨wv [.str,.int .u8],Bh [.int .i64],λv=>F n v.1 v.2.1⟩
theorem ok (n:Nat):aq Jp 222 (ent n):=by
 refine uG (Ks:=[.str,.int .u8]) (Rs:=[.int .i64]) Tryz.f222 (by kernel_rfl) (by kernel_rfl) (by kernel_rfl) rfl ?_;rintro⟨a,b,_⟩ r hr S w hG;have hr:F n a b=some r:=hr;unfold F at hr;cases hr;refine(Tryz.strings_IndexByte a b w).mono ?_;rintro e w2 ⟨rfl,rfl⟩;exact⟨⟨_,rfl,.int⟩,Ns _ _⟩
def E:En:=⟨222,ent,ok⟩
end iu
namespace eX
def F (n:Nat)(a:ByteArray):Option (Int×Bool):=if a.size<=281474976710656 then some (match Lib.atoiAll a.data.toList with| .ok v=>(v,false)| .range=>(Lib.atoiSat a.data.toList,true)|_=>(0,true))else none
def ent (n:Nat):ij:=⟨wv [.str],Bh [.int .i64,.err],λv=>F n v.1⟩
theorem ok (n:Nat):aq Jp 292 (ent n):=by
 refine uG (Ks:=[.str]) (Rs:=[.int .i64,.err]) Tryz.f292 (by kernel_rfl) (by kernel_rfl) (by kernel_rfl) rfl ?_;rintro⟨a,_⟩ r hr S w hG;have hr:F n a=some r:=hr;unfold F at hr
 split at hr
 ·rename_i hs
  cases hr;rcases h:Lib.atoiAll a.data.toList with v|_|_
  ·refine(Tryz.strconv_Atoi_ok a (by omega) v h w).mono ?_
   rintro e w2 ⟨rfl,hw⟩;refine⟨⟨_,rfl,_,_,rfl,.int,.noErr⟩,?_⟩;rcases hw with rfl|⟨t,rfl⟩
   ·exact Ns _ _
   ·exact NU (Lib.bytesWorld_below _ _ _)
  ·obtain⟨tp,p,hv⟩:=hG.errS (g:=4) (by kernel_rfl)
   refine(Go.Proofs.Any.strconv_Atoi_syntax_var Tryz.laysC172 a hs h tp p w hv).mono ?_;rintro e w2 ⟨N,rfl,hb⟩;exact⟨⟨_,rfl,_,_,rfl,.int,.anErr⟩,NU hb.2.2⟩
  ·obtain⟨tp,p,hv⟩:=hG.errR (g:=5) (by kernel_rfl)
   refine(Go.Proofs.Any.strconv_Atoi_range_var Tryz.laysC172 a hs h tp p w hv).mono ?_;rintro e w2 ⟨N,rfl,hb⟩;exact⟨⟨_,rfl,_,_,rfl,.int,.anErr⟩,NU hb.2.2⟩
 ·cases hr
def E:En:=⟨292,ent,ok⟩
end eX
end Go.Abs
