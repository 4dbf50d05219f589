/- The functions, and that a call of each comes to it. Conditions: none. -/
import Derived.Test.YtkelpajcfmghiaaGreatDoorHd
open ByteArray renaming empty → Jd,extract → Jz,size → Jf
open Go.Abs renaming seq → JL
open Go.Abs.Code renaming l → Jn,r → Jl
open Go.Abs.ES renaming on → L7
open Go.IntKind renaming i64 → Jh,u8 → L8
open Go.Proofs.Tryz renaming prog → Jp
open Int renaming tmod → Nv,toNat → Jg
open List renaming getD → Ji,length → Je,replicate → JZ,set → Kl
set_option linter.unusedVariables false
set_option linter.unusedSimpArgs false
namespace Go.Abs
noncomputable section
open Go.Proofs
namespace iC
def F (n:Nat)(a1:WN)(left2:Int):Option Int:=
 if decide ((Jh.wrap (left2 - (Je a1:Int)))<0)=true then
 some (-1)
 else
 some (Jh.wrap (left2 - (Je a1:Int)))
def code:=Tryz.f91.body.getD .skip
abbrev ash:List ASh:=[.ro Qy,.ro QA]
abbrev rsh:List RSh:=[.ro QA]
def B:Bd:=⟨ash,rsh,[],⟨code,12,.nil,[(.tmp 4,.int .i64,.ro)]⟩,[]⟩
def E:En:=⟨91,λn=>⟨B.a,B.r,λv=>F n v.1 v.2.1⟩,cG B WY Tryz.func91 mn⟩
end iC
namespace kU
def F (n:Nat)(a1:WG)(left2:Int):Option Int:=
 if decide ((Jh.wrap (left2 - (Jf a1.2.1:Int)))<0)=true then
 some (-1)
 else
 (iC.F n a1.2.2 (Jh.wrap (left2 - (Jf a1.2.1:Int)))).bind λr3=>
 if decide (r3<0)=true then
 some (-1)
 else
 some r3
def code:=Tryz.f90.body.getD .skip
abbrev ash:List ASh:=[.ro Qn,.ro QA]
abbrev rsh:List RSh:=[.ro QA]
def B:Bd:=⟨ash,rsh,[iC.E],⟨code,19,.nil,[(.tmp 4,.int .i64,.ro)]⟩,[]⟩
def E:En:=⟨90,λn=>⟨B.a,B.r,λv=>F n v.1 v.2.1⟩,cG B WS Tryz.func90 mn⟩
end kU
namespace gD
def l0 (n:Nat)(a3:WD)(K0:Int->Option Int):Nat->Int->Int->Option Int
 |0,_,_=>none
 |k+1,left4,i5=>
 if decide (i5<(Je a3:Int))=true then
 if(0:Int)<=i5/\i5<(Je a3:Int)then
 (kU.F n (Ji a3 (Jg i5) (0,(Jd,[]))) left4).bind λr6=>
 if decide (r6<0)=true then
 some (-1)
 else
 l0 n a3 K0 k r6 (Jh.wrap (i5+1))
 else
 none
 else
 K0 left4
def F (n:Nat)(a1:WD)(left2:Int):Option Int:=
 if decide ((Jh.wrap (left2 - (Je a1:Int)))<0)=true then
 some (-1)
 else
 l0 n a1 (λleft7=>
 some left7) n (Jh.wrap (left2 - (Je a1:Int))) 0
def code:=Tryz.f25.body.getD .skip
abbrev ash:List ASh:=[.ro Qk,.ro QA]
abbrev rsh:List RSh:=[.ro QA]
def b0:=Jn (Jn (Jl (Jn (Jl (Jl (Jl code))))))
abbrev sh0:ES:=⟨[(0,.v Qk),(1,.v QA),(5,.v QA)],[]⟩
abbrev sh0_0:ES:=⟨[(1,.v QA)],[]⟩
def g0:GL rsh sh0:=λn m x kn kx=>l0 n x.1.1 (λy0=>kx 0 (sh0_0.enc ((y0,()),(())))) m x.1.2.1 x.1.2.2.1
def B:Bd:=⟨ash,rsh,[kU.E],⟨code,27,.nil,[(.tmp 4,.int .i64,.ro)]⟩,[⟨0,sh0,g0⟩]⟩
theorem u0:UO B 0 (.loop b0):=
 lu (.seq Vi (.seq (.block (some [0,1,5]) Vb) .nil)) [(0,[1])] [0,1,5] sh0 g0 mn
def E:En:=⟨25,λn=>⟨B.a,B.r,λv=>F n v.1 v.2.1⟩,cG B (.seq .nil (.seq .nil (.seq Vf (.seq (.seq .nil (.block (some [1]) (.cut 0 [0,1,5]))) Vm)))) Tryz.func25 (mc u0 mn)⟩
end gD
namespace jd
def F (n:Nat)(a1:WG)(left2:Int):Option Int:=
 if decide ((Jh.wrap (left2 - (Jf a1.2.1:Int)))<0)=true then
 some (-1)
 else
 (iC.F n a1.2.2 (Jh.wrap (left2 - (Jf a1.2.1:Int)))).bind λr3=>
 if decide (r3<0)=true then
 some (-1)
 else
 some r3
def code:=Tryz.f26.body.getD .skip
abbrev ash:List ASh:=[.ro Qn,.ro QA]
abbrev rsh:List RSh:=[.ro QA]
def B:Bd:=⟨ash,rsh,[iC.E],⟨code,19,.nil,[(.tmp 4,.int .i64,.ro)]⟩,[]⟩
def E:En:=⟨26,λn=>⟨B.a,B.r,λv=>F n v.1 v.2.1⟩,cG B WS Tryz.func26 mn⟩
end jd
namespace gz
def l0 (n:Nat)(a3:WD)(K0:Int->Option Int):Nat->Int->Int->Option Int
 |0,_,_=>none
 |k+1,left4,i5=>
 if decide (i5<(Je a3:Int))=true then
 if(0:Int)<=i5/\i5<(Je a3:Int)then
 (jd.F n (Ji a3 (Jg i5) (0,(Jd,[]))) left4).bind λr6=>
 if decide (r6<0)=true then
 some (-1)
 else
 l0 n a3 K0 k r6 (Jh.wrap (i5+1))
 else
 none
 else
 K0 left4
def F (n:Nat)(a1:WD)(left2:Int):Option Int:=
 if decide ((Jh.wrap (left2 - (Je a1:Int)))<0)=true then
 some (-1)
 else
 l0 n a1 (λleft7=>
 some left7) n (Jh.wrap (left2 - (Je a1:Int))) 0
def code:=Tryz.f27.body.getD .skip
abbrev ash:List ASh:=[.ro Qk,.ro QA]
abbrev rsh:List RSh:=[.ro QA]
def b0:=Jn (Jn (Jl (Jn (Jl (Jl (Jl code))))))
abbrev sh0:ES:=⟨[(0,.v Qk),(1,.v QA),(5,.v QA)],[]⟩
abbrev sh0_0:ES:=⟨[(1,.v QA)],[]⟩
def g0:GL rsh sh0:=λn m x kn kx=>l0 n x.1.1 (λy0=>kx 0 (sh0_0.enc ((y0,()),(())))) m x.1.2.1 x.1.2.2.1
def B:Bd:=⟨ash,rsh,[jd.E],⟨code,27,.nil,[(.tmp 4,.int .i64,.ro)]⟩,[⟨0,sh0,g0⟩]⟩
theorem u0:UO B 0 (.loop b0):=
 lu (.seq Vi (.seq (.block (some [0,1,5]) Vb) .nil)) [(0,[1])] [0,1,5] sh0 g0 mn
def E:En:=⟨27,λn=>⟨B.a,B.r,λv=>F n v.1 v.2.1⟩,cG B (.seq .nil (.seq .nil (.seq Vf (.seq (.seq .nil (.block (some [1]) (.cut 0 [0,1,5]))) Vm)))) Tryz.func27 (mc u0 mn)⟩
end gz
namespace ki
def F (n:Nat)(a1:Wk)(left2:Int):Option Int:=
 (gD.F n a1.1 left2).bind λr3=>
 if decide (r3<0)=true then
 some (-1)
 else
 (jd.F n a1.2.1 r3).bind λr4=>
 if decide (r4<0)=true then
 some (-1)
 else
 (gz.F n a1.2.2 r4).bind λr5=>
 if decide (r5<0)=true then
 some (-1)
 else
 some r5
def code:=Tryz.f7.body.getD .skip
abbrev ash:List ASh:=[.ro Qf,.ro QA]
abbrev rsh:List RSh:=[.ro QA]
def B:Bd:=⟨ash,rsh,[gD.E,jd.E,gz.E],⟨code,24,.nil,[(.tmp 4,.int .i64,.ro)]⟩,[]⟩
def E:En:=⟨7,λn=>⟨B.a,B.r,λv=>F n v.1 v.2.1⟩,cG B WO Tryz.func7 mn⟩
end ki
namespace fb
def l0 (n:Nat)(a2:WN)(K0:WN->Option WN):Nat->Int->WN->Option WN
 |0,_,_=>none
 |k+1,i3,out4=>
 if decide (i3<(Je a2:Int))=true then
 if(0:Int)<=i3/\i3<(Je a2:Int)then
 if(0:Int)<=i3/\i3<(Je out4:Int)then
 let w5:List Int:=Kl out4 (Jg i3) (Ji a2 (Jg i3) 0)
 l0 n a2 K0 k (Jh.wrap (i3+1)) w5
 else
 none
 else
 none
 else
 K0 out4
def F (n:Nat)(a1:WN):Option WN:=
 if(0:Int)<=(Je a1:Int)/\(Je a1:Int)<=(Je a1:Int)/\(Je a1:Int)<=(aU:Int)then
 l0 n a1 (λout6=>
 some out6) n 0 (JZ (Jg (Je a1:Int)) 0)
 else
 none
def code:=Tryz.f95.body.getD .skip
abbrev ash:List ASh:=[.ro Qy]
abbrev rsh:List RSh:=[.own Qy QZ]
def b0:=Jn (Jn (Jl (Jn (Jl (Jl code)))))
abbrev sh0:ES:=⟨[(0,.v Qy),(3,.al 3 []),(4,.v QA)],[⟨3,.sl QA,.own .ro,false,false,none⟩]⟩
abbrev sh0_0:ES:=⟨[(3,.al 3 [])],[⟨3,.sl QA,.own .ro,false,false,none⟩]⟩
def g0:GL rsh sh0:=λn m x kn kx=>l0 n x.1.1 (λy0=>kx 0 (sh0_0.enc (((()),()),(y0,())))) m x.1.2.2.1 x.2.1
def B:Bd:=⟨ash,rsh,[],⟨code,22,.nil,[(.tmp 2,.sl QA,.own .ro)]⟩,[⟨0,sh0,g0⟩]⟩
theorem u0:UO B 0 (.loop b0):=
 lu (.seq Vi (.seq (.block (some [0,3,4]) .nil) .nil)) [(0,[3])] [0,3,4] sh0 g0 mn
def E:En:=⟨95,λn=>⟨B.a,B.r,λv=>F n v.1⟩,cG B (.seq .nil (.seq (.reg [(7,.own .ro)]) (.seq (.seq .nil (.block (some [3]) (.cut 0 [0,3,4]))) Vm))) Tryz.func95 (mc u0 mn)⟩
end fb
namespace kT
def F (n:Nat)(a1:WG):Option WG:=
 (fb.F n a1.2.2).bind λr2=>
 some (a1.1,(a1.2.1,r2))
def code:=Tryz.f94.body.getD .skip
abbrev ash:List ASh:=[.ro Qn]
abbrev rsh:List RSh:=[.own Qn QT]
def B:Bd:=⟨ash,rsh,[fb.E],⟨code,15,.nil,[(.cell 2 94,.st Qr,.pr .ro QX)]⟩,[]⟩
def E:En:=⟨94,λn=>⟨B.a,B.r,λv=>F n v.1⟩,cG B (.seq (.reg [(2,.pr .ro QX)]) (.seq (.reg [(3,.pr .ro QX)]) (.seq .nil (.seq .nil (.seq (.reg [(12,.own .ro)]) Vm))))) Tryz.func94 mn⟩
end kT
namespace gL
def l0 (n:Nat)(a2:WD)(K0:WD->Option WD):Nat->Int->WD->Option WD
 |0,_,_=>none
 |k+1,i3,out4=>
 if decide (i3<(Je a2:Int))=true then
 if(0:Int)<=i3/\i3<(Je a2:Int)then
 (kT.F n (Ji a2 (Jg i3) (0,(Jd,[])))).bind λr5=>
 if(0:Int)<=i3/\i3<(Je out4:Int)then
 l0 n a2 K0 k (Jh.wrap (i3+1)) (Kl out4 (Jg i3) r5)
 else
 none
 else
 none
 else
 K0 out4
def F (n:Nat)(a1:WD):Option WD:=
 if(0:Int)<=(Je a1:Int)/\(Je a1:Int)<=(Je a1:Int)/\(Je a1:Int)<=(aU:Int)then
 l0 n a1 (λout6=>
 some out6) n 0 (JZ (Jg (Je a1:Int)) (0,(Jd,[])))
 else
 none
def code:=Tryz.f31.body.getD .skip
abbrev ash:List ASh:=[.ro Qk]
abbrev rsh:List RSh:=[.own Qk QQ]
def b0:=Jn (Jn (Jl (Jn (Jl (Jl code)))))
abbrev sh0:ES:=⟨[(0,.v Qk),(3,.al 3 []),(4,.v QA)],[⟨3,.sl Qn,.own QT,false,false,none⟩]⟩
abbrev sh0_0:ES:=⟨[(3,.al 3 [])],[⟨3,.sl Qn,.own QT,false,false,none⟩]⟩
def g0:GL rsh sh0:=λn m x kn kx=>l0 n x.1.1 (λy0=>kx 0 (sh0_0.enc (((()),()),(y0,())))) m x.1.2.2.1 x.2.1
def B:Bd:=⟨ash,rsh,[kT.E],⟨code,23,.nil,[(.tmp 2,.sl Qn,.own QT)]⟩,[⟨0,sh0,g0⟩]⟩
theorem u0:UO B 0 (.loop b0):=
 lu (.seq Vi (.seq (.block (some [0,3,4]) (.reg [(20,.pr .ro QX)])) .nil)) [(0,[3])] [0,3,4] sh0 g0 mn
def E:En:=⟨31,λn=>⟨B.a,B.r,λv=>F n v.1⟩,cG B (.seq .nil (.seq (.reg [(7,.own QT)]) (.seq (.seq .nil (.block (some [3]) (.cut 0 [0,3,4]))) Vm))) Tryz.func31 (mc u0 mn)⟩
end gL
namespace jb
def F (n:Nat)(a1:WG):Option WG:=
 (fb.F n a1.2.2).bind λr2=>
 some (a1.1,(a1.2.1,r2))
def code:=Tryz.f32.body.getD .skip
abbrev ash:List ASh:=[.ro Qn]
abbrev rsh:List RSh:=[.own Qn QT]
def B:Bd:=⟨ash,rsh,[fb.E],⟨code,15,.nil,[(.cell 2 31,.st Qr,.pr .ro QX)]⟩,[]⟩
def E:En:=⟨32,λn=>⟨B.a,B.r,λv=>F n v.1⟩,cG B (.seq (.reg [(2,.pr .ro QX)]) (.seq (.reg [(3,.pr .ro QX)]) (.seq .nil (.seq .nil (.seq (.reg [(12,.own .ro)]) Vm))))) Tryz.func32 mn⟩
end jb
namespace gH
def l0 (n:Nat)(a2:WD)(K0:WD->Option WD):Nat->Int->WD->Option WD
 |0,_,_=>none
 |k+1,i3,out4=>
 if decide (i3<(Je a2:Int))=true then
 if(0:Int)<=i3/\i3<(Je a2:Int)then
 (jb.F n (Ji a2 (Jg i3) (0,(Jd,[])))).bind λr5=>
 if(0:Int)<=i3/\i3<(Je out4:Int)then
 l0 n a2 K0 k (Jh.wrap (i3+1)) (Kl out4 (Jg i3) r5)
 else
 none
 else
 none
 else
 K0 out4
def F (n:Nat)(a1:WD):Option WD:=
 if(0:Int)<=(Je a1:Int)/\(Je a1:Int)<=(Je a1:Int)/\(Je a1:Int)<=(aU:Int)then
 l0 n a1 (λout6=>
 some out6) n 0 (JZ (Jg (Je a1:Int)) (0,(Jd,[])))
 else
 none
def code:=Tryz.f33.body.getD .skip
abbrev ash:List ASh:=[.ro Qk]
abbrev rsh:List RSh:=[.own Qk QQ]
def b0:=Jn (Jn (Jl (Jn (Jl (Jl code)))))
abbrev sh0:ES:=⟨[(0,.v Qk),(3,.al 3 []),(4,.v QA)],[⟨3,.sl Qn,.own QT,false,false,none⟩]⟩
abbrev sh0_0:ES:=⟨[(3,.al 3 [])],[⟨3,.sl Qn,.own QT,false,false,none⟩]⟩
def g0:GL rsh sh0:=λn m x kn kx=>l0 n x.1.1 (λy0=>kx 0 (sh0_0.enc (((()),()),(y0,())))) m x.1.2.2.1 x.2.1
def B:Bd:=⟨ash,rsh,[jb.E],⟨code,23,.nil,[(.tmp 2,.sl Qn,.own QT)]⟩,[⟨0,sh0,g0⟩]⟩
theorem u0:UO B 0 (.loop b0):=
 lu (.seq Vi (.seq (.block (some [0,3,4]) (.reg [(20,.pr .ro QX)])) .nil)) [(0,[3])] [0,3,4] sh0 g0 mn
def E:En:=⟨33,λn=>⟨B.a,B.r,λv=>F n v.1⟩,cG B (.seq .nil (.seq (.reg [(7,.own QT)]) (.seq (.seq .nil (.block (some [3]) (.cut 0 [0,3,4]))) Vm))) Tryz.func33 (mc u0 mn)⟩
end gH
namespace kg
def F (n:Nat)(a1:Wk):Option Wk:=
 (gL.F n a1.1).bind λr2=>
 (jb.F n a1.2.1).bind λr3=>
 (gH.F n a1.2.2).bind λr4=>
 some (r2,(r3,r4))
def code:=Tryz.f9.body.getD .skip
abbrev ash:List ASh:=[.ro Qf]
abbrev rsh:List RSh:=[.own Qf QJ]
def B:Bd:=⟨ash,rsh,[gL.E,jb.E,gH.E],⟨code,17,.nil,[(.cell 2 34,.st Qg,.pr QQ QN)]⟩,[]⟩
def E:En:=⟨9,λn=>⟨B.a,B.r,λv=>F n v.1⟩,cG B (.seq (.reg [(2,.pr QQ QN)]) (.seq (.reg [(3,.pr QZ (.pr QT QZ))]) (.seq (.reg [(6,.own QT)]) (.seq (.reg [(10,.pr .ro QX)]) (.seq (.reg [(14,.own QT)]) Vm))))) Tryz.func9 mn⟩
end kg
namespace bi
def F (n:Nat)(t1:Int)(lo2:Int)(hi3:Int):Option Bool:=
 if(decide (t1>=lo2))=true then
 some (decide (t1<=hi3))
 else
 some false
def code:=Tryz.f50.body.getD .skip
abbrev ash:List ASh:=[.ro QA,.ro QA,.ro QA]
abbrev rsh:List RSh:=[.ro .bool]
def B:Bd:=⟨ash,rsh,[],⟨code,15,.nil,[(.tmp 6,.bool,.ro)]⟩,[]⟩
def E:En:=⟨50,λn=>⟨B.a,B.r,λv=>F n v.1 v.2.1 v.2.2.1⟩,cG B Vk Tryz.func50 mn⟩
end bi
namespace iM
def F (n:Nat)(r1:Wk)(out2:WL)(t3:Int):Option ByteArray:=
 if(0:Int)<=t3/\t3<(Je r1.1:Int)then
 (bi.F n ((Ji r1.1 (Jg t3) (0,(Jd,[]))).1) 5 7).bind λr4=>
 if r4=true then
 if(0:Int)<=t3/\t3<(Je out2:Int)then
 if Jf ⟨#[40]⟩+Jf (Ji out2 (Jg t3) Jd)<=aU then
 if Jf (⟨#[40]⟩++(Ji out2 (Jg t3) Jd))+Jf ⟨#[41]⟩<=aU then
 some ((⟨#[40]⟩++(Ji out2 (Jg t3) Jd))++⟨#[41]⟩)
 else
 none
 else
 none
 else
 none
 else
 if(0:Int)<=t3/\t3<(Je out2:Int)then
 some (Ji out2 (Jg t3) Jd)
 else
 none
 else
 none
def code:=Tryz.f121.body.getD .skip
abbrev ash:List ASh:=[.ro Qf,.ro Qz,.ro QA]
abbrev rsh:List RSh:=[.ro .str]
def B:Bd:=⟨ash,rsh,[bi.E],⟨code,24,.nil,[(.tmp 6,.str,.ro)]⟩,[]⟩
def E:En:=⟨121,λn=>⟨B.a,B.r,λv=>F n v.1 v.2.1 v.2.2.1⟩,cG B W3 Tryz.func121 mn⟩
end iM
namespace aw
def l1 (n:Nat)(t6:Int)(t8:Wk)(t10:WL)(t11:WG)(K2:WN->Option WI):Nat->Int->WN->Option WI
 |0,_,_=>none
 |k+1,t7,t9=>
 if decide (t7<(Je t11.2.2:Int))=true then
 if(0:Int)<=t7/\t7<(Je t11.2.2:Int)then
 (bi.F n (Ji t11.2.2 (Jg t7) 0) 0 (Jh.wrap (t6 - 1))).bind λr12=>
 if(!r12)=true then
 some (t10,false)
 else
 if(0:Int)<=t7/\t7<(Je t11.2.2:Int)then
 if(0:Int)<=(Ji t11.2.2 (Jg t7) 0)/\(Ji t11.2.2 (Jg t7) 0)<(Je t9:Int)then
 if(0:Int)<=(Ji t11.2.2 (Jg t7) 0)/\(Ji t11.2.2 (Jg t7) 0)<(Je t9:Int)then
 let w13:List Int:=Kl t9 (Jg (Ji t11.2.2 (Jg t7) 0)) (Jh.wrap ((Ji t9 (Jg (Ji t11.2.2 (Jg t7) 0)) 0)+1))
 l1 n t6 t8 t10 t11 K2 k (Jh.wrap (t7+1)) w13
 else
 none
 else
 none
 else
 none
 else
 none
 else
 K2 t9
def l3 (n:Nat)(t22:Int)(t25:Wk)(t26:WN)(t27:WL)(t28:WG)(K5:ByteArray->Option WI):Nat->ByteArray->Int->Option WI
 |0,_,_=>none
 |k+1,t23,t24=>
 if decide (t24<(Je t28.2.2:Int))=true then
 if decide (t24=0)=true then
 if Jf t23+Jf ⟨#[40]⟩<=aU then
 if(0:Int)<=t24/\t24<(Je t28.2.2:Int)then
 if(0:Int)<=(Ji t28.2.2 (Jg t24) 0)/\(Ji t28.2.2 (Jg t24) 0)<(Je t27:Int)then
 if Jf (t23++⟨#[40]⟩)+Jf (Ji t27 (Jg (Ji t28.2.2 (Jg t24) 0)) Jd)<=aU then
 l3 n t22 t25 t26 t27 t28 K5 k ((t23++⟨#[40]⟩)++(Ji t27 (Jg (Ji t28.2.2 (Jg t24) 0)) Jd)) (Jh.wrap (t24+1))
 else
 none
 else
 none
 else
 none
 else
 none
 else
 if Jf t23+Jf ⟨#[44,32]⟩<=aU then
 if(0:Int)<=t24/\t24<(Je t28.2.2:Int)then
 if(0:Int)<=(Ji t28.2.2 (Jg t24) 0)/\(Ji t28.2.2 (Jg t24) 0)<(Je t27:Int)then
 if Jf (t23++⟨#[44,32]⟩)+Jf (Ji t27 (Jg (Ji t28.2.2 (Jg t24) 0)) Jd)<=aU then
 l3 n t22 t25 t26 t27 t28 K5 k ((t23++⟨#[44,32]⟩)++(Ji t27 (Jg (Ji t28.2.2 (Jg t24) 0)) Jd)) (Jh.wrap (t24+1))
 else
 none
 else
 none
 else
 none
 else
 none
 else
 K5 t23
def j4 (n:Nat)(t30:Int)(t31:Bool)(t32:Wk)(t33:WN)(t34:WL)(t35:WG)(Kn:ByteArray->Option WI):Option WI:=
 if t31=true then
 if(!decide ((Je t35.2.2:Int)=2))=true then
 some (t34,false)
 else
 if(0:Int)<=(Jh.wrap (t35.1 - 5))/\(Jh.wrap (t35.1 - 5))<(Je ([⟨#[32,43,32]⟩,⟨#[32,45,32]⟩,⟨#[32,42,32]⟩]:WL):Int)then
 if(0:Int)<=0/\0<(Je t35.2.2:Int)then
 (iM.F n t32 t34 (Ji t35.2.2 (0) 0)).bind λr36=>
 if Jf r36+Jf (Ji ([⟨#[32,43,32]⟩,⟨#[32,45,32]⟩,⟨#[32,42,32]⟩]:WL) (Jg (Jh.wrap (t35.1 - 5))) Jd)<=aU then
 if(0:Int)<=1/\1<(Je t35.2.2:Int)then
 (iM.F n t32 t34 (Ji t35.2.2 (1) 0)).bind λr37=>
 if Jf (r36++(Ji ([⟨#[32,43,32]⟩,⟨#[32,45,32]⟩,⟨#[32,42,32]⟩]:WL) (Jg (Jh.wrap (t35.1 - 5))) Jd))+Jf r37<=aU then
 Kn ((r36++(Ji ([⟨#[32,43,32]⟩,⟨#[32,45,32]⟩,⟨#[32,42,32]⟩]:WL) (Jg (Jh.wrap (t35.1 - 5))) Jd))++r37)
 else
 none
 else
 none
 else
 none
 else
 none
 else
 none
 else
 some (t34,false)
def j2 (n:Nat)(t15:Int)(t16:Int)(t17:Bool)(t18:Wk)(t19:WN)(t20:WL)(t21:WG)(Kn:ByteArray->Option WI):Option WI:=
 if t17=true then
 Kn t21.2.1
 else
 if decide (t16=2)=true then
 Kn ⟨#[95]⟩
 else
 if decide (t16=4)=true then
 l3 n t15 t18 t19 t20 t21 (λt29=>
 if decide ((Je t21.2.2:Int)>0)=true then
 if Jf t29+Jf ⟨#[41]⟩<=aU then
 Kn (t29++⟨#[41]⟩)
 else
 none
 else
 Kn t29) n t21.2.1 0
 else
 if decide (t16=5)=true then
 j4 n t15 (decide (t16=5)) t18 t19 t20 t21 (λt38=>
 Kn t38)
 else
 if decide (t16=6)=true then
 j4 n t15 (decide (t16=6)) t18 t19 t20 t21 (λt39=>
 Kn t39)
 else
 j4 n t15 (decide (t16=7)) t18 t19 t20 t21 (λt40=>
 Kn t40)
def j6 (n:Nat)(t48:Int)(t49:ByteArray)(t50:Wk)(t51:WN)(t52:WL)(Kn:WL->Option WI):Option WI:=
 if(0:Int)<=t48/\t48<(Je t52:Int)then
 Kn (Kl t52 (Jg t48) t49)
 else
 none
def j5 (n:Nat)(t42:Int)(t43:ByteArray)(t44:Wk)(t45:WN)(t46:WL)(t47:WG)(Kn:WL->Option WI):Option WI:=
 if(decide (t47.1<=3))=true then
 if(decide ((Je t47.2.2:Int)>0))=false then
 if decide ((Jf t43:Int)>3000)=true then
 some (t46,false)
 else
 j6 n t42 t43 t44 t45 t46 (λt53=>
 Kn t53)
 else
 some (t46,false)
 else
 if decide ((Jf t43:Int)>3000)=true then
 some (t46,false)
 else
 j6 n t42 t43 t44 t45 t46 (λt54=>
 Kn t54)
def l0 (n:Nat)(t3:Wk)(K0:WN->WL->Option WI):Nat->Int->WN->WL->Option WI
 |0,_,_,_=>none
 |k+1,t2,t4,t5=>
 if decide (t2<(Je t3.1:Int))=true then
 if(0:Int)<=t2/\t2<(Je t3.1:Int)then
 l1 n t2 t3 t5 (Ji t3.1 (Jg t2) (0,(Jd,[]))) (λt14=>
 if decide (((Ji t3.1 (Jg t2) (0,(Jd,[]))).1)=1)=true then
 j2 n t2 ((Ji t3.1 (Jg t2) (0,(Jd,[]))).1) (decide (((Ji t3.1 (Jg t2) (0,(Jd,[]))).1)=1)) t3 t14 t5 (Ji t3.1 (Jg t2) (0,(Jd,[]))) (λt41=>
 j5 n t2 t41 t3 t14 t5 (Ji t3.1 (Jg t2) (0,(Jd,[]))) (λt55=>
 l0 n t3 K0 k (Jh.wrap (t2+1)) t14 t55))
 else
 j2 n t2 ((Ji t3.1 (Jg t2) (0,(Jd,[]))).1) (decide (((Ji t3.1 (Jg t2) (0,(Jd,[]))).1)=3)) t3 t14 t5 (Ji t3.1 (Jg t2) (0,(Jd,[]))) (λt56=>
 j5 n t2 t56 t3 t14 t5 (Ji t3.1 (Jg t2) (0,(Jd,[]))) (λt57=>
 l0 n t3 K0 k (Jh.wrap (t2+1)) t14 t57))) n 0 t4
 else
 none
 else
 K0 t4 t5
def l8 (n:Nat)(t64:Int)(t67:WL)(t68:WD)(K9:WN->Option WI):Nat->Int->WN->Option WI
 |0,_,_=>none
 |k+1,t65,t66=>
 if(0:Int)<=t64/\t64<(Je t68:Int)then
 if decide (t65<(Je (((Ji t68 (Jg t64) (0,(Jd,[]))).2).2):Int))=true then
 if(0:Int)<=t64/\t64<(Je t68:Int)then
 if(0:Int)<=t65/\t65<(Je (((Ji t68 (Jg t64) (0,(Jd,[]))).2).2):Int)then
 (bi.F n (Ji (((Ji t68 (Jg t64) (0,(Jd,[]))).2).2) (Jg t65) 0) 0 (Jh.wrap ((Je t66:Int) - 1))).bind λr69=>
 if(!r69)=true then
 some (t67,false)
 else
 if(0:Int)<=t64/\t64<(Je t68:Int)then
 if(0:Int)<=t65/\t65<(Je (((Ji t68 (Jg t64) (0,(Jd,[]))).2).2):Int)then
 if(0:Int)<=(Ji (((Ji t68 (Jg t64) (0,(Jd,[]))).2).2) (Jg t65) 0)/\(Ji (((Ji t68 (Jg t64) (0,(Jd,[]))).2).2) (Jg t65) 0)<(Je t66:Int)then
 if(0:Int)<=(Ji (((Ji t68 (Jg t64) (0,(Jd,[]))).2).2) (Jg t65) 0)/\(Ji (((Ji t68 (Jg t64) (0,(Jd,[]))).2).2) (Jg t65) 0)<(Je t66:Int)then
 let w70:List Int:=Kl t66 (Jg (Ji (((Ji t68 (Jg t64) (0,(Jd,[]))).2).2) (Jg t65) 0)) (Jh.wrap ((Ji t66 (Jg (Ji (((Ji t68 (Jg t64) (0,(Jd,[]))).2).2) (Jg t65) 0)) 0)+1))
 l8 n t64 t67 t68 K9 k (Jh.wrap (t65+1)) w70
 else
 none
 else
 none
 else
 none
 else
 none
 else
 none
 else
 none
 else
 K9 t66
 else
 none
def l7 (n:Nat)(t62:WL)(t63:WD)(K7:WN->Option WI):Nat->Int->WN->Option WI
 |0,_,_=>none
 |k+1,t60,t61=>
 if decide (t60<(Je t63:Int))=true then
 l8 n t60 t62 t63 (λt71=>
 l7 n t62 t63 K7 k (Jh.wrap (t60+1)) t71) n 0 t61
 else
 K7 t61
def l9 (n:Nat)(t74:WN)(t75:WL)(K11:Unit->Option WI):Nat->Int->Option WI
 |0,_=>none
 |k+1,t73=>
 if decide (t73<(Je t74:Int))=true then
 if(0:Int)<=t73/\t73<(Je t74:Int)then
 if(!decide ((Ji t74 (Jg t73) 0)=1))=true then
 some (t75,false)
 else
 l9 n t74 t75 K11 k (Jh.wrap (t73+1))
 else
 none
 else
 K11 ()
def F (n:Nat)(t1:Wk):Option WI:=
 if decide ((Je t1.1:Int)>60)=true then
 some ([],false)
 else
 if(0:Int)<=(Je t1.1:Int)/\(Je t1.1:Int)<=(Je t1.1:Int)/\(Je t1.1:Int)<=(aU:Int)then
 if(0:Int)<=(Je t1.1:Int)/\(Je t1.1:Int)<=(Je t1.1:Int)/\(Je t1.1:Int)<=(aU:Int)then
 l0 n t1 (λt58 t59=>
 if Je [t1.2.1]+Je t1.2.2<=aU then
 l7 n t59 ([t1.2.1]++t1.2.2) (λt72=>
 l9 n t72 t59 (λ_=>
 some (t59,true)) n 0) n 0 t58
 else
 none) n 0 (JZ (Jg (Je t1.1:Int)) 0) (JZ (Jg (Je t1.1:Int)) Jd)
 else
 none
 else
 none
def code:=Tryz.f54.body.getD .skip
abbrev ash:List ASh:=[.ro Qf]
abbrev rsh:List RSh:=[.ro Qz,.ro .bool]
def b0:=Jn (Jn (Jl (Jn (Jl (Jl (Jl (Jl code)))))))
def b7:=Jn (Jn (Jl (Jn (Jl (Jl (Jl (Jl (Jl (Jl code)))))))))
def b9:=Jn (Jn (Jl (Jn (Jl (Jl (Jl (Jl (Jl (Jl (Jl code))))))))))
def c5:=Jl (Jl (Jl (Jl (Jn (Jn (Jl b0))))))
def b1:=Jn (Jn (Jl (Jn (Jl (Jn (Jn (Jl b0)))))))
def b8:=Jn (Jn (Jl (Jn (Jn (Jl b7)))))
def c6:=Jl c5
def c2:=Jl (Jn (Jl (Jn (Jl (Jl (Jl (Jn (Jn (Jl b0)))))))))
def c4:=Jl (Jl (Jl (Jl (Jl (Jl c2)))))
def b3:=Jn (Jn (Jl (Jn (Jl (Jn (Jl (Jl (Jl (Jl c2)))))))))
abbrev sh1:ES:=⟨[(1,.pt 1 []),(4,.al 4 []),(5,.al 5 []),(6,.v QA),(7,.pt 7 []),(8,.v QA)],[⟨1,.st Qg,.ro,true,false,none⟩,⟨4,.sl QA,.own .ro,false,false,none⟩,⟨5,.sl QC,.own .ro,false,false,none⟩,⟨7,.st Qr,.ro,true,false,none⟩]⟩
abbrev sh1_2:ES:=⟨[(1,.pt 1 []),(4,.al 4 []),(5,.al 5 []),(6,.v QA),(7,.pt 7 [])],[⟨1,.st Qg,.ro,true,false,none⟩,⟨4,.sl QA,.own .ro,false,false,none⟩,⟨5,.sl QC,.own .ro,false,false,none⟩,⟨7,.st Qr,.ro,true,false,none⟩]⟩
abbrev sh3:ES:=⟨[(1,.pt 1 []),(4,.al 4 []),(5,.al 5 []),(6,.v QA),(7,.pt 7 []),(9,.v .str),(10,.v QA)],[⟨1,.st Qg,.ro,true,false,none⟩,⟨4,.sl QA,.own .ro,false,false,none⟩,⟨5,.sl QC,.own .ro,false,false,none⟩,⟨7,.st Qr,.ro,true,false,none⟩]⟩
abbrev sh3_5:ES:=⟨[(1,.pt 1 []),(4,.al 4 []),(5,.al 5 []),(6,.v QA),(7,.pt 7 []),(9,.v .str)],[⟨1,.st Qg,.ro,true,false,none⟩,⟨4,.sl QA,.own .ro,false,false,none⟩,⟨5,.sl QC,.own .ro,false,false,none⟩,⟨7,.st Qr,.ro,true,false,none⟩]⟩
abbrev sh4:ES:=⟨[(1,.pt 1 []),(4,.al 4 []),(5,.al 5 []),(6,.v QA),(7,.pt 7 []),(111,.v .bool)],[⟨1,.st Qg,.ro,true,false,none⟩,⟨4,.sl QA,.own .ro,false,false,none⟩,⟨5,.sl QC,.own .ro,false,false,none⟩,⟨7,.st Qr,.ro,true,false,none⟩]⟩
abbrev sh2:ES:=⟨[(1,.pt 1 []),(4,.al 4 []),(5,.al 5 []),(6,.v QA),(7,.pt 7 []),(69,.v QA),(71,.v .bool)],[⟨1,.st Qg,.ro,true,false,none⟩,⟨4,.sl QA,.own .ro,false,false,none⟩,⟨5,.sl QC,.own .ro,false,false,none⟩,⟨7,.st Qr,.ro,true,false,none⟩]⟩
abbrev sh6:ES:=⟨[(1,.pt 1 []),(4,.al 4 []),(5,.al 5 []),(6,.v QA),(9,.v .str)],[⟨1,.st Qg,.ro,true,false,none⟩,⟨4,.sl QA,.own .ro,false,false,none⟩,⟨5,.sl QC,.own .ro,false,false,none⟩]⟩
abbrev sh6_n:ES:=⟨[(1,.pt 1 []),(4,.al 4 []),(5,.al 5 []),(6,.v QA)],[⟨1,.st Qg,.ro,true,false,none⟩,⟨4,.sl QA,.own .ro,false,false,none⟩,⟨5,.sl QC,.own .ro,false,false,none⟩]⟩
abbrev sh0_0:ES:=⟨[(1,.pt 1 []),(4,.al 4 []),(5,.al 5 [])],[⟨1,.st Qg,.ro,true,false,none⟩,⟨4,.sl QA,.own .ro,false,false,none⟩,⟨5,.sl QC,.own .ro,false,false,none⟩]⟩
abbrev sh8:ES:=⟨[(4,.al 4 []),(5,.al 5 []),(12,.al 12 []),(13,.v QA),(14,.v QA)],[⟨4,.sl QA,.own .ro,false,false,none⟩,⟨5,.sl QC,.own .ro,false,false,none⟩,⟨12,.sl Qn,.own .ro,false,false,none⟩]⟩
abbrev sh8_9:ES:=⟨[(4,.al 4 []),(5,.al 5 []),(12,.al 12 []),(13,.v QA)],[⟨4,.sl QA,.own .ro,false,false,none⟩,⟨5,.sl QC,.own .ro,false,false,none⟩,⟨12,.sl Qn,.own .ro,false,false,none⟩]⟩
abbrev sh7_7:ES:=⟨[(4,.al 4 []),(5,.al 5 [])],[⟨4,.sl QA,.own .ro,false,false,none⟩,⟨5,.sl QC,.own .ro,false,false,none⟩]⟩
abbrev IU:ES:=⟨[(4,.al 4 []),(5,.al 5 []),(15,.v QA)],[⟨4,.sl QA,.own .ro,false,false,none⟩,⟨5,.sl QC,.own .ro,false,false,none⟩]⟩
abbrev sh9_11:ES:=⟨[(5,.al 5 [])],[⟨5,.sl QC,.own .ro,false,false,none⟩]⟩
def g1:GL rsh sh1:=λn m x kn kx=>l1 n x.1.2.2.2.1 x.2.1 x.2.2.2.1 x.2.2.2.2.1 (λy0=>kx 2 (sh1_2.enc (((()),(()),(()),x.1.2.2.2.1,(()),()),(x.2.1,y0,x.2.2.2.1,x.2.2.2.2.1,())))) m x.1.2.2.2.2.2.1 x.2.2.1
def g3:GL rsh sh3:=λn m x kn kx=>l3 n x.1.2.2.2.1 x.2.1 x.2.2.1 x.2.2.2.1 x.2.2.2.2.1 (λy0=>kx 5 (sh3_5.enc (((()),(()),(()),x.1.2.2.2.1,(()),y0,()),(x.2.1,x.2.2.1,x.2.2.2.1,x.2.2.2.2.1,())))) m x.1.2.2.2.2.2.1 x.1.2.2.2.2.2.2.1
def g4:GL rsh sh4:=λn m x kn kx=>j4 n x.1.2.2.2.1 x.1.2.2.2.2.2.1 x.2.1 x.2.2.1 x.2.2.2.1 x.2.2.2.2.1 (λy0=>kn (sh3_5.enc (((()),(()),(()),x.1.2.2.2.1,(()),y0,()),(x.2.1,x.2.2.1,x.2.2.2.1,x.2.2.2.2.1,()))))
def g2:GL rsh sh2:=λn m x kn kx=>j2 n x.1.2.2.2.1 x.1.2.2.2.2.2.1 x.1.2.2.2.2.2.2.1 x.2.1 x.2.2.1 x.2.2.2.1 x.2.2.2.2.1 (λy0=>kn (sh3_5.enc (((()),(()),(()),x.1.2.2.2.1,(()),y0,()),(x.2.1,x.2.2.1,x.2.2.2.1,x.2.2.2.2.1,()))))
def g6:GL rsh sh6:=λn m x kn kx=>j6 n x.1.2.2.2.1 x.1.2.2.2.2.1 x.2.1 x.2.2.1 x.2.2.2.1 (λy0=>kn (sh6_n.enc (((()),(()),(()),x.1.2.2.2.1,()),(x.2.1,x.2.2.1,y0,()))))
def g5:GL rsh sh3_5:=λn m x kn kx=>j5 n x.1.2.2.2.1 x.1.2.2.2.2.2.1 x.2.1 x.2.2.1 x.2.2.2.1 x.2.2.2.2.1 (λy0=>kn (sh6_n.enc (((()),(()),(()),x.1.2.2.2.1,()),(x.2.1,x.2.2.1,y0,()))))
def g0:GL rsh sh6_n:=λn m x kn kx=>l0 n x.2.1 (λy0 y1=>kx 0 (sh0_0.enc (((()),(()),(()),()),(x.2.1,y0,y1,())))) m x.1.2.2.2.1 x.2.2.1 x.2.2.2.1
def g8:GL rsh sh8:=λn m x kn kx=>l8 n x.1.2.2.2.1 x.2.2.1 x.2.2.2.1 (λy0=>kx 9 (sh8_9.enc (((()),(()),(()),x.1.2.2.2.1,()),(y0,x.2.2.1,x.2.2.2.1,())))) m x.1.2.2.2.2.1 x.2.1
def g7:GL rsh sh8_9:=λn m x kn kx=>l7 n x.2.2.1 x.2.2.2.1 (λy0=>kx 7 (sh7_7.enc (((()),(()),()),(y0,x.2.2.1,())))) m x.1.2.2.2.1 x.2.1
def g9:GL rsh IU:=λn m x kn kx=>l9 n x.2.1 x.2.2.1 (λ_=>kx 11 (sh9_11.enc (((()),()),(x.2.2.1,())))) m x.1.2.2.1
def B:Bd:=⟨ash,rsh,[bi.E,iM.E],⟨code,224,.nil,[(.tmp 2,.sl QC,.ro),(.tmp 3,.bool,.ro)]⟩,[⟨1,sh1,g1⟩,⟨3,sh3,g3⟩,⟨4,sh4,g4⟩,⟨2,sh2,g2⟩,⟨6,sh6,g6⟩,⟨5,sh3_5,g5⟩,⟨0,sh6_n,g0⟩,⟨8,sh8,g8⟩,⟨7,sh8_9,g7⟩,⟨9,IU,g9⟩]⟩
theorem u1:UO B 1 (.loop b1):=
 lu (.seq Vi (.seq (.block (some [1,4,5,6,7,8]) Vc) .nil)) [(0,[1,4,5]),(1,[1,4,5,6]),(2,[1,4,5,6,7])] [1,4,5,6,7,8] sh1 g1 mn
theorem u3:UO B 3 (.loop b3):=
 lu (.seq Vi (.seq (.block (some [1,4,5,6,7,9,10]) Vg) .nil)) [(0,[1,4,5]),(1,[1,4,5,6]),(4,[1,4,5,6,7,9]),(5,[1,4,5,6,7,9])] [1,4,5,6,7,9,10] sh3 g3 mn
theorem u4:UO B 4 c4:=
 ju (.cond W5 Vm) [(0,[1,4,5]),(1,[1,4,5,6]),(4,[1,4,5,6,7,9])] [1,4,5,6,7,9] sh4 g4 mn
theorem u2:UO B 2 c2:=
 ju (.cond .nil (.seq .nil (.cond .nil (.seq .nil (.cond (.seq .nil (.seq (.seq .nil (.block (some [1,4,5,6,7,9]) (.cut 3 [1,4,5,6,7,9,10]))) Vi)) (.seq W9 (.cut 4 [1,4,5,6,7,111]))))))) [(0,[1,4,5]),(1,[1,4,5,6]),(4,[1,4,5,6,7,9])] [1,4,5,6,7,9] sh2 g2 (mc u3 (mc u4 mn))
theorem u6:UO B 6 c6:=
 ju (.nil) [(0,[1,4,5]),(1,[1,4,5,6])] [1,4,5,6] sh6 g6 mn
theorem u5:UO B 5 c5:=
 ju (.seq Vf (.cut 6 [1,4,5,6,9])) [(0,[1,4,5]),(1,[1,4,5,6])] [1,4,5,6] sh3_5 g5 (mc u6 mn)
theorem u0:UO B 0 (.loop b0):=
 lu (.seq Vi (.seq (.block (some [1,4,5,6]) (.seq .nil (.seq (.seq .nil (.block (some [1,4,5,6,7]) (.cut 1 [1,4,5,6,7,8]))) (.seq .nil (.seq (.seq .nil (.block (some [1,4,5,6,7,9]) (.seq Vi (.cut 2 [1,4,5,6,7,69,71])))) (.cut 5 [1,4,5,6,7,9])))))) .nil)) [(0,[1,4,5])] [1,4,5,6] sh6_n g0 (mc u1 (mc u2 (mc u5 mn)))
theorem u8:UO B 8 (.loop b8):=
 lu (.seq Vi (.seq (.block (some [4,5,12,13,14]) Vc) .nil)) [(7,[4,5]),(8,[4,5,12,13]),(9,[4,5,12,13])] [4,5,12,13,14] sh8 g8 mn
theorem u7:UO B 7 (.loop b7):=
 lu (.seq Vi (.seq (.block (some [4,5,12,13]) (.seq .nil (.block (some [4,5,12,13]) (.cut 8 [4,5,12,13,14])))) .nil)) [(7,[4,5])] [4,5,12,13] sh8_9 g7 (mc u8 mn)
theorem u9:UO B 9 (.loop b9):=
 lu (.seq Vi (.seq (.block (some [4,5,15]) Vf) .nil)) [(11,[5])] [4,5,15] IU g9 mn
def E:En:=⟨54,λn=>⟨B.a,B.r,λv=>F n v.1⟩,cG B (.seq .nil (.seq Vf (.seq (.reg [(24,.own .ro)]) (.seq (.reg [(28,.own .ro)]) (.seq (.seq .nil (.block (some [1,4,5]) (.cut 0 [1,4,5,6]))) (.seq (.reg [(164,.own .ro)]) (.seq (.seq .nil (.block (some [4,5]) (.cut 7 [4,5,12,13]))) (.seq (.seq .nil (.block (some [5]) (.cut 9 [4,5,15]))) Vm)))))))) Tryz.func54 (mc u0 (mc u7 (mc u9 mn)))⟩
end aw
namespace cY
def l1 (n:Nat)(t6:WL)(t9:WG)(K0:ByteArray->Option (ByteArray×Bool)):Nat->ByteArray->Int->Option (ByteArray×Bool)
 |0,_,_=>none
 |k+1,t7,t8=>
 if decide (t8<(Je t9.2.2:Int))=true then
 if decide (t8>0)=true then
 if Jf t7+Jf ⟨#[44,32]⟩<=aU then
 if(0:Int)<=t8/\t8<(Je t9.2.2:Int)then
 if(0:Int)<=(Ji t9.2.2 (Jg t8) 0)/\(Ji t9.2.2 (Jg t8) 0)<(Je t6:Int)then
 if Jf (t7++⟨#[44,32]⟩)+Jf (Ji t6 (Jg (Ji t9.2.2 (Jg t8) 0)) Jd)<=aU then
 l1 n t6 t9 K0 k ((t7++⟨#[44,32]⟩)++(Ji t6 (Jg (Ji t9.2.2 (Jg t8) 0)) Jd)) (Jh.wrap (t8+1))
 else
 none
 else
 none
 else
 none
 else
 none
 else
 if(0:Int)<=t8/\t8<(Je t9.2.2:Int)then
 if(0:Int)<=(Ji t9.2.2 (Jg t8) 0)/\(Ji t9.2.2 (Jg t8) 0)<(Je t6:Int)then
 if Jf t7+Jf (Ji t6 (Jg (Ji t9.2.2 (Jg t8) 0)) Jd)<=aU then
 l1 n t6 t9 K0 k (t7++(Ji t6 (Jg (Ji t9.2.2 (Jg t8) 0)) Jd)) (Jh.wrap (t8+1))
 else
 none
 else
 none
 else
 none
 else
 K0 t7
def j0 (n:Nat)(t3:WL)(t4:ByteArray)(t5:WG):Option (ByteArray×Bool):=
 l1 n t3 t5 (λt10=>
 if Jf t10+Jf ⟨#[41]⟩<=aU then
 if(decide (t5.1=1))=false then
 some (t10++⟨#[41]⟩,decide (t5.1=2))
 else
 some (t10++⟨#[41]⟩,true)
 else
 none) n t4 0
def F (n:Nat)(t1:WG)(t2:WL):Option (ByteArray×Bool):=
 if decide (t1.1=3)=true then
 if(!decide ((Je t1.2.2:Int)=2))=true then
 some (Jd,false)
 else
 if(0:Int)<=0/\0<(Je t1.2.2:Int)then
 if(0:Int)<=(Ji t1.2.2 (0) 0)/\(Ji t1.2.2 (0) 0)<(Je t2:Int)then
 if Jf (Ji t2 (Jg (Ji t1.2.2 (0) 0)) Jd)+Jf ⟨#[32]⟩<=aU then
 if Jf ((Ji t2 (Jg (Ji t1.2.2 (0) 0)) Jd)++⟨#[32]⟩)+Jf t1.2.1<=aU then
 if Jf (((Ji t2 (Jg (Ji t1.2.2 (0) 0)) Jd)++⟨#[32]⟩)++t1.2.1)+Jf ⟨#[32]⟩<=aU then
 if(0:Int)<=1/\1<(Je t1.2.2:Int)then
 if(0:Int)<=(Ji t1.2.2 (1) 0)/\(Ji t1.2.2 (1) 0)<(Je t2:Int)then
 if Jf ((((Ji t2 (Jg (Ji t1.2.2 (0) 0)) Jd)++⟨#[32]⟩)++t1.2.1)++⟨#[32]⟩)+Jf (Ji t2 (Jg (Ji t1.2.2 (1) 0)) Jd)<=aU then
 some (((((Ji t2 (Jg (Ji t1.2.2 (0) 0)) Jd)++⟨#[32]⟩)++t1.2.1)++⟨#[32]⟩)++(Ji t2 (Jg (Ji t1.2.2 (1) 0)) Jd),true)
 else
 none
 else
 none
 else
 none
 else
 none
 else
 none
 else
 none
 else
 none
 else
 none
 else
 if Jf t1.2.1+Jf ⟨#[40]⟩<=aU then
 if decide (t1.1=2)=true then
 if Jf ⟨#[33]⟩+Jf (t1.2.1++⟨#[40]⟩)<=aU then
 j0 n t2 (⟨#[33]⟩++(t1.2.1++⟨#[40]⟩)) t1
 else
 none
 else
 j0 n t2 (t1.2.1++⟨#[40]⟩) t1
 else
 none
def code:=Tryz.f55.body.getD .skip
abbrev ash:List ASh:=[.ro Qn,.ro Qz]
abbrev rsh:List RSh:=[.ro .str,.ro .bool]
def c0:=Jl (Jl (Jl (Jl code)))
def b1:=Jn (Jn (Jl (Jn c0)))
abbrev sh1:ES:=⟨[(1,.v Qz),(2,.pt 2 []),(6,.v .str),(7,.v QA)],[⟨2,.st Qr,.ro,true,false,none⟩]⟩
abbrev sh1_0:ES:=⟨[(2,.pt 2 []),(6,.v .str)],[⟨2,.st Qr,.ro,true,false,none⟩]⟩
abbrev sh0:ES:=⟨[(1,.v Qz),(2,.pt 2 []),(6,.v .str)],[⟨2,.st Qr,.ro,true,false,none⟩]⟩
def g1:GL rsh sh1:=λn m x kn kx=>l1 n x.1.1 x.2.1 (λy0=>kx 0 (sh1_0.enc (((()),y0,()),(x.2.1,())))) m x.1.2.2.1 x.1.2.2.2.1
def g0:GL rsh sh0:=λn m x kn kx=>j0 n x.1.1 x.1.2.2.1 x.2.1
def B:Bd:=⟨ash,rsh,[],⟨code,74,.nil,[(.tmp 4,.str,.ro),(.tmp 5,.bool,.ro)]⟩,[⟨1,sh1,g1⟩,⟨0,sh0,g0⟩]⟩
theorem u1:UO B 1 (.loop b1):=
 lu (.seq Vi (.seq (.block (some [1,2,6,7]) Vg) .nil)) [(0,[2,6])] [1,2,6,7] sh1 g1 mn
theorem u0:UO B 0 c0:=
 ju (.seq (.seq .nil (.block (some [2,6]) (.cut 1 [1,2,6,7]))) Vm) [] [4,5] sh0 g0 (mc u1 mn)
def E:En:=⟨55,λn=>⟨B.a,B.r,λv=>F n v.1 v.2.1⟩,cG B (.seq .nil (.seq (.seq .nil (.cond W5 .nil)) (.seq .nil (.seq Vi (.cut 0 [1,2,6]))))) Tryz.func55 (mc u0 mn)⟩
end cY
namespace ca
def j3 (n:Nat)(t15:WL)(t16:ByteArray)(t17:Int)(t18:Wk)(Kn:ByteArray->Option ByteArray):Option ByteArray:=
 if(0:Int)<=t17/\t17<(Je t18.2.2:Int)then
 (cY.F n (Ji t18.2.2 (Jg t17) (0,(Jd,[]))) t15).bind λr19=>
 if(!r19.2)=true then
 some Jd
 else
 if Jf t16+Jf r19.1<=aU then
 Kn (t16++r19.1)
 else
 none
 else
 none
def j2 (n:Nat)(t11:WL)(t12:ByteArray)(t13:Int)(t14:Wk)(Kn:ByteArray->Int->Option ByteArray):Option ByteArray:=
 if decide (t13=0)=true then
 if Jf t12+Jf ⟨#[32,58,45,32]⟩<=aU then
 j3 n t11 (t12++⟨#[32,58,45,32]⟩) t13 t14 (λt20=>
 Kn t20 (Jh.wrap (t13+1)))
 else
 none
 else
 if Jf t12+Jf ⟨#[44,32]⟩<=aU then
 j3 n t11 (t12++⟨#[44,32]⟩) t13 t14 (λt21=>
 Kn t21 (Jh.wrap (t13+1)))
 else
 none
def l1 (n:Nat)(t7:WL)(t10:Wk)(K0:ByteArray->Option ByteArray):Nat->ByteArray->Int->Option ByteArray
 |0,_,_=>none
 |k+1,t8,t9=>
 if(decide (t9<(Je t10.2.2:Int)))=true then
 if decide ((Jf t8:Int)<=3000)=true then
 j2 n t7 t8 t9 t10 (λt22 t23=>
 l1 n t7 t10 K0 k t22 t23)
 else
 K0 t8
 else
 K0 t8
def j0 (n:Nat)(t4:WL)(t5:ByteArray)(t6:Wk):Option ByteArray:=
 l1 n t4 t6 (λt24=>
 if Jf t24+Jf ⟨#[46]⟩<=aU then
 if decide ((Jf (t24++⟨#[46]⟩):Int)>3000)=true then
 some Jd
 else
 some (t24++⟨#[46]⟩)
 else
 none) n t5 0
def F (n:Nat)(t1:Wk):Option ByteArray:=
 if decide ((Je t1.2.2:Int)>3000)=true then
 some Jd
 else
 (aw.F n t1).bind λr2=>
 if(!r2.2)=true then
 some Jd
 else
 (cY.F n t1.2.1 r2.1).bind λr3=>
 if(!r3.2)=false then
 if(!decide (t1.2.1.1=1))=true then
 some Jd
 else
 j0 n r2.1 r3.1 t1
 else
 some Jd
def code:=Tryz.f49.body.getD .skip
abbrev ash:List ASh:=[.ro Qf]
abbrev rsh:List RSh:=[.ro .str]
def c0:=Jl (Jl (Jl (Jl (Jl (Jl code)))))
def b1:=Jn (Jn (Jl (Jn c0)))
def c2:=Jl b1
def c3:=Jl (Jn (Jn c2))
abbrev sh3:ES:=⟨[(1,.pt 1 []),(3,.v Qz),(5,.v .str),(6,.v QA)],[⟨1,.st Qg,.ro,true,false,none⟩]⟩
abbrev sh1_0:ES:=⟨[(5,.v .str)],[]⟩
abbrev sh0:ES:=⟨[(1,.pt 1 []),(3,.v Qz),(5,.v .str)],[⟨1,.st Qg,.ro,true,false,none⟩]⟩
def g3:GL rsh sh3:=λn m x kn kx=>j3 n x.1.2.1 x.1.2.2.1 x.1.2.2.2.1 x.2.1 (λy0=>kn (sh3.enc (((()),x.1.2.1,y0,x.1.2.2.2.1,()),(x.2.1,()))))
def g2:GL rsh sh3:=λn m x kn kx=>j2 n x.1.2.1 x.1.2.2.1 x.1.2.2.2.1 x.2.1 (λy0 y1=>kn (sh3.enc (((()),x.1.2.1,y0,y1,()),(x.2.1,()))))
def g1:GL rsh sh3:=λn m x kn kx=>l1 n x.1.2.1 x.2.1 (λy0=>kx 0 (sh1_0.enc ((y0,()),(())))) m x.1.2.2.1 x.1.2.2.2.1
def g0:GL rsh sh0:=λn m x kn kx=>j0 n x.1.2.1 x.1.2.2.1 x.2.1
def B:Bd:=⟨ash,rsh,[aw.E,cY.E],⟨code,74,.nil,[(.tmp 2,.str,.ro)]⟩,[⟨3,sh3,g3⟩,⟨2,sh3,g2⟩,⟨1,sh3,g1⟩,⟨0,sh0,g0⟩]⟩
theorem u3:UO B 3 c3:=
 ju W4 [(0,[5]),(1,[1,3,5,6])] [1,3,5,6] sh3 g3 mn
theorem u2:UO B 2 c2:=
 ju (.seq (.block (some [1,3,5,6]) (.seq Vi (.cut 3 [1,3,5,6]))) .nil) [(0,[5])] [1,3,5,6] sh3 g2 (mc u3 mn)
theorem u1:UO B 1 (.loop b1):=
 lu (.seq Vi (.cut 2 [1,3,5,6])) [(0,[5])] [1,3,5,6] sh3 g1 (mc u2 mn)
theorem u0:UO B 0 c0:=
 ju (.seq (.seq .nil (.block (some [5]) (.cut 1 [1,3,5,6]))) W3) [] [2] sh0 g0 (mc u1 mn)
def E:En:=⟨49,λn=>⟨B.a,B.r,λv=>F n v.1⟩,cG B (.seq .nil (.seq Vf (.seq .nil (.seq Vf (.seq .nil (.seq Vf (.cut 0 [1,3,5]))))))) Tryz.func49 (mc u0 mn)⟩
end ca
namespace dT
def F (n:Nat)(b1:Int):Option Bool:=
 if(decide (b1>=97))=true then
 some (decide (b1<=122))
 else
 some false
def code:=Tryz.f144.body.getD .skip
abbrev ash:List ASh:=[.ro QB]
abbrev rsh:List RSh:=[.ro .bool]
def B:Bd:=⟨ash,rsh,[],⟨code,9,.nil,[(.tmp 2,.bool,.ro)]⟩,[]⟩
def E:En:=⟨144,λn=>⟨B.a,B.r,λv=>F n v.1⟩,cG B Vk Tryz.func144 mn⟩
end dT
namespace eZ
def F (n:Nat)(b1:Int):Option Bool:=
 if(decide (b1>=65))=true then
 some (decide (b1<=90))
 else
 some false
def code:=Tryz.f143.body.getD .skip
abbrev ash:List ASh:=[.ro QB]
abbrev rsh:List RSh:=[.ro .bool]
def B:Bd:=⟨ash,rsh,[],⟨code,9,.nil,[(.tmp 2,.bool,.ro)]⟩,[]⟩
def E:En:=⟨143,λn=>⟨B.a,B.r,λv=>F n v.1⟩,cG B Vk Tryz.func143 mn⟩
end eZ
namespace dF
def F (n:Nat)(b1:Int):Option Bool:=
 if(decide (b1>=48))=true then
 some (decide (b1<=57))
 else
 some false
def code:=Tryz.f184.body.getD .skip
abbrev ash:List ASh:=[.ro QB]
abbrev rsh:List RSh:=[.ro .bool]
def B:Bd:=⟨ash,rsh,[],⟨code,9,.nil,[(.tmp 2,.bool,.ro)]⟩,[]⟩
def E:En:=⟨184,λn=>⟨B.a,B.r,λv=>F n v.1⟩,cG B Vk Tryz.func184 mn⟩
end dF
namespace fh
def F (n:Nat)(b1:Int):Option Bool:=
 (dT.F n b1).bind λr2=>
 if r2=false then
 (eZ.F n b1).bind λr3=>
 if r3=false then
 (dF.F n b1).bind λr4=>
 if r4=false then
 some (decide (b1=95))
 else
 some true
 else
 some true
 else
 some true
def code:=Tryz.f145.body.getD .skip
abbrev ash:List ASh:=[.ro QB]
abbrev rsh:List RSh:=[.ro .bool]
def B:Bd:=⟨ash,rsh,[eZ.E,dT.E,dF.E],⟨code,17,.nil,[(.tmp 2,.bool,.ro)]⟩,[]⟩
def E:En:=⟨145,λn=>⟨B.a,B.r,λv=>F n v.1⟩,cG B Vk Tryz.func145 mn⟩
end fh
namespace bR
def l0 (n:Nat)(t2:Int)(K0:WN->Option ByteArray):Nat->Int->WN->Option ByteArray
 |0,_,_=>none
 |k+1,m3,out4=>
 if(!decide (m3=0))=true then
 if decide ((Nv m3 10)<0)=true then
 if Je [L8.wrap (Jh.wrap (48+(Jh.wrap (0 - (Nv m3 10)))))]+Je out4<=aU then
 l0 n t2 K0 k (Jh.wrap (Int.tdiv m3 10)) ([L8.wrap (Jh.wrap (48+(Jh.wrap (0 - (Nv m3 10)))))]++out4)
 else
 none
 else
 if Je [L8.wrap (Jh.wrap (48+(Nv m3 10)))]+Je out4<=aU then
 l0 n t2 K0 k (Jh.wrap (Int.tdiv m3 10)) ([L8.wrap (Jh.wrap (48+(Nv m3 10)))]++out4)
 else
 none
 else
 K0 out4
def F (n:Nat)(t1:Int):Option ByteArray:=
 if decide (t1=0)=true then
 some ⟨#[48]⟩
 else
 l0 n t1 (λout5=>
 if decide (t1<0)=true then
 if Je [45]+Je out5<=aU then
 some (qM ([45]++out5))
 else
 none
 else
 some (qM out5)) n t1 []
def code:=Tryz.f120.body.getD .skip
abbrev ash:List ASh:=[.ro QA]
abbrev rsh:List RSh:=[.ro .str]
def b0:=Jn (Jn (Jl (Jn (Jl (Jl (Jl code))))))
abbrev sh0:ES:=⟨[(0,.v QA),(3,.al 3 []),(4,.v QA)],[⟨3,.sl QB,.own .ro,false,false,none⟩]⟩
abbrev sh0_0:ES:=⟨[(0,.v QA),(3,.al 3 [])],[⟨3,.sl QB,.own .ro,false,false,none⟩]⟩
def g0:GL rsh sh0:=λn m x kn kx=>l0 n x.1.1 (λy0=>kx 0 (sh0_0.enc ((x.1.1,(()),()),(y0,())))) m x.1.2.2.1 x.2.1
def B:Bd:=⟨ash,rsh,[],⟨code,33,.nil,[(.tmp 2,.str,.ro)]⟩,[⟨0,sh0,g0⟩]⟩
theorem u0:UO B 0 (.loop b0):=
 lu (.seq Vi (.seq (.block (some [0,3,4]) (.seq .nil (.seq Vi (.reg [(23,.own .ro)])))) .nil)) [(0,[0,3])] [0,3,4] sh0 g0 mn
def E:En:=⟨120,λn=>⟨B.a,B.r,λv=>F n v.1⟩,cG B (.seq .nil (.seq Vf (.seq (.reg [(8,.own .ro)]) (.seq (.seq .nil (.block (some [0,3]) (.cut 0 [0,3,4]))) (.seq (.seq .nil (.cond (.reg [(28,.own .ro)]) .nil)) Vm))))) Tryz.func120 (mc u0 mn)⟩
end bR
namespace bn
def l1 (n:Nat)(s6:ByteArray)(digits8:ByteArray)(K0:Int->Option (Int×Bool)):Nat->Int->Int->Option (Int×Bool)
 |0,_,_=>none
 |k+1,t7,i9=>
 if decide (i9<(Jf digits8:Int))=true then
 if(0:Int)<=i9/\i9<(Jf digits8:Int)then
 (dF.F n (aO digits8 i9)).bind λr10=>
 if(!r10)=true then
 some (0,false)
 else
 if(0:Int)<=i9/\i9<(Jf digits8:Int)then
 l1 n s6 digits8 K0 k (Jh.wrap ((Jh.wrap (10*t7))+(Jh.wrap (L8.wrap ((aO digits8 i9) - 48))))) (Jh.wrap (i9+1))
 else
 none
 else
 none
 else
 K0 t7
def j0 (n:Nat)(s2:ByteArray)(t3:Int)(digits4:ByteArray):Option (Int×Bool):=
 (bi.F n (Jf digits4:Int) 1 7).bind λr5=>
 if(!r5)=true then
 some (0,false)
 else
 l1 n s2 digits4 (λt11=>
 if(!(JL digits4 s2))=true then
 (bR.F n (Jh.wrap (0 - t11))).bind λr12=>
 if(JL r12 s2)=true then
 (bi.F n (Jh.wrap (0 - t11)) (-1000000) 1000000).bind λr13=>
 some (Jh.wrap (0 - t11),r13)
 else
 some (Jh.wrap (0 - t11),false)
 else
 (bR.F n t11).bind λr14=>
 if(JL r14 s2)=true then
 (bi.F n t11 (-1000000) 1000000).bind λr15=>
 some (t11,r15)
 else
 some (t11,false)) n t3 0
def F (n:Nat)(s1:ByteArray):Option (Int×Bool):=
 if(decide ((Jf s1:Int)>0))=true then
 if(0:Int)<=0/\0<(Jf s1:Int)then
 if decide ((aO s1 0)=45)=true then
 if(0:Int)<=1/\(1:Int)<=(Jf s1:Int)/\(Jf s1:Int)<=(Jf s1:Int)then
 j0 n s1 0 (Jz s1 (Jg 1) (Jg (Jf s1:Int)))
 else
 none
 else
 j0 n s1 0 s1
 else
 none
 else
 j0 n s1 0 s1
def code:=Tryz.f185.body.getD .skip
abbrev ash:List ASh:=[.ro .str]
abbrev rsh:List RSh:=[.ro QA,.ro .bool]
def c0:=Jl (Jl (Jl (Jl code)))
def b1:=Jn (Jn (Jl (Jn (Jl c0))))
abbrev sh1:ES:=⟨[(0,.v .str),(4,.v QA),(5,.v .str),(6,.v QA)],[]⟩
abbrev sh1_0:ES:=⟨[(0,.v .str),(4,.v QA),(5,.v .str)],[]⟩
def g1:GL rsh sh1:=λn m x kn kx=>l1 n x.1.1 x.1.2.2.1 (λy0=>kx 0 (sh1_0.enc ((x.1.1,y0,x.1.2.2.1,()),(())))) m x.1.2.1 x.1.2.2.2.1
def g0:GL rsh sh1_0:=λn m x kn kx=>j0 n x.1.1 x.1.2.1 x.1.2.2.1
def B:Bd:=⟨ash,rsh,[bi.E,bR.E,dF.E],⟨code,55,.nil,[(.tmp 2,.int .i64,.ro),(.tmp 3,.bool,.ro)]⟩,[⟨1,sh1,g1⟩,⟨0,sh1_0,g0⟩]⟩
theorem u1:UO B 1 (.loop b1):=
 lu (.seq Vi (.seq (.block (some [0,4,5,6]) Vc) .nil)) [(0,[0,4,5])] [0,4,5,6] sh1 g1 mn
theorem u0:UO B 0 c0:=
 ju (.seq Vf (.seq (.seq .nil (.block (some [0,4,5]) (.cut 1 [0,4,5,6]))) (.seq Vi Vm))) [] [2,3] sh1_0 g0 (mc u1 mn)
def E:En:=⟨185,λn=>⟨B.a,B.r,λv=>F n v.1⟩,cG B (.seq .nil (.seq .nil (.seq .nil (.seq Vi (.cut 0 [0,4,5]))))) Tryz.func185 (mc u0 mn)⟩
end bn
namespace ay
def l0 (n:Nat)(t2:ByteArray)(K0:Int->Option WB):Nat->Int->Option WB
 |0,_=>none
 |k+1,t3=>
 if(decide (t3<(Jf t2:Int)))=true then
 if(0:Int)<=t3/\t3<(Jf t2:Int)then
 if(!decide ((aO t2 t3)=40))=true then
 l0 n t2 K0 k (Jh.wrap (t3+1))
 else
 K0 t3
 else
 none
 else
 K0 t3
def l1 (n:Nat)(t5:ByteArray)(t6:Int)(K2:Unit->Option WB):Nat->Int->Bool->Int->Int->WL->Option WB
 |0,_,_,_,_,_=>none
 |k+1,t7,t8,t9,t10,t11=>
 if decide (t10<(Jf t5:Int))=true then
 if(0:Int)<=t10/\t10<(Jf t5:Int)then
 if decide ((aO t5 t10)=34)=true then
 l1 n t5 t6 K2 k t7 (!t8) t9 (Jh.wrap (t10+1)) t11
 else
 if t8=true then
 l1 n t5 t6 K2 k t7 t8 t9 (Jh.wrap (t10+1)) t11
 else
 if(0:Int)<=t10/\t10<(Jf t5:Int)then
 if decide ((aO t5 t10)=40)=true then
 l1 n t5 t6 K2 k (Jh.wrap (t7+1)) t8 t9 (Jh.wrap (t10+1)) t11
 else
 if(0:Int)<=t10/\t10<(Jf t5:Int)then
 if decide ((aO t5 t10)=41)=true then
 if decide ((Jh.wrap (t7 - 1))=0)=true then
 if(0:Int)<=0/\(0:Int)<=t6/\t6<=(Jf t5:Int)then
 if(0:Int)<=t9/\t9<=t10/\t10<=(Jf t5:Int)then
 if Je t11+Je [Jz t5 (Jg t9) (Jg t10)]<=aU then
 some (Jz t5 (Jg 0) (Jg t6),t11++[Jz t5 (Jg t9) (Jg t10)],decide (t10=(Jh.wrap ((Jf t5:Int) - 1))))
 else
 none
 else
 none
 else
 none
 else
 l1 n t5 t6 K2 k (Jh.wrap (t7 - 1)) t8 t9 (Jh.wrap (t10+1)) t11
 else
 if(0:Int)<=t10/\t10<(Jf t5:Int)then
 if(decide ((aO t5 t10)=44))=true then
 if decide (t7=1)=true then
 if(0:Int)<=t9/\t9<=t10/\t10<=(Jf t5:Int)then
 if Je t11+Je [Jz t5 (Jg t9) (Jg t10)]<=aU then
 l1 n t5 t6 K2 k t7 t8 (Jh.wrap (t10+1)) (Jh.wrap (t10+1)) (t11++[Jz t5 (Jg t9) (Jg t10)])
 else
 none
 else
 none
 else
 l1 n t5 t6 K2 k t7 t8 t9 (Jh.wrap (t10+1)) t11
 else
 l1 n t5 t6 K2 k t7 t8 t9 (Jh.wrap (t10+1)) t11
 else
 none
 else
 none
 else
 none
 else
 none
 else
 K2 ()
def F (n:Nat)(t1:ByteArray):Option WB:=
 l0 n t1 (λt4=>
 if decide (t4=(Jf t1:Int))=true then
 some (t1,[],true)
 else
 l1 n t1 t4 (λ_=>
 some (Jd,[],false)) n 0 false (Jh.wrap (t4+1)) t4 []) n 0
def code:=Tryz.f235.body.getD .skip
abbrev ash:List ASh:=[.ro .str]
abbrev rsh:List RSh:=[.ro .str,.ro Qz,.ro .bool]
def b0:=Jn (Jn (Jn (Jl (Jl code))))
def b1:=Jn (Jn (Jl (Jn (Jl (Jl (Jl (Jl (Jl (Jl (Jl (Jl code)))))))))))
abbrev sh0:ES:=⟨[(0,.v .str),(5,.v QA)],[]⟩
abbrev sh1:ES:=⟨[(0,.v .str),(5,.v QA),(6,.al 6 []),(7,.v QA),(8,.v .bool),(9,.v QA),(10,.v QA)],[⟨6,.sl QC,.own .ro,false,false,none⟩]⟩
abbrev sh1_2:ES:=⟨[],[]⟩
def g0:GL rsh sh0:=λn m x kn kx=>l0 n x.1.1 (λy0=>kx 0 (sh0.enc ((x.1.1,y0,()),(())))) m x.1.2.1
def g1:GL rsh sh1:=λn m x kn kx=>l1 n x.1.1 x.1.2.1 (λ_=>kx 2 (sh1_2.enc ((()),(())))) m x.1.2.2.2.1 x.1.2.2.2.2.1 x.1.2.2.2.2.2.1 x.1.2.2.2.2.2.2.1 x.2.1
def B:Bd:=⟨ash,rsh,[],⟨code,98,.nil,[(.tmp 2,.str,.ro),(.tmp 3,.sl QC,.ro),(.tmp 4,.bool,.ro)]⟩,[⟨0,sh0,g0⟩,⟨1,sh1,g1⟩]⟩
theorem u0:UO B 0 (.loop b0):=
 lu (.seq Vi (.block (some [0,5]) .nil)) [(0,[0,5])] [0,5] sh0 g0 mn
theorem u1:UO B 1 (.loop b1):=
 lu (.seq Vi (.seq (.block (some [0,5,6,7,8,9,10]) (.block (some [0,5,6,7,8,9,10]) (.seq .nil (.cond .nil (.seq .nil (.cond .nil (.seq .nil (.cond .nil (.seq .nil (.cond Vb Vf)))))))))) .nil)) [(2,[])] [0,5,6,7,8,9,10] sh1 g1 mn
def E:En:=⟨235,λn=>⟨B.a,B.r,λv=>F n v.1⟩,cG B (.seq .nil (.seq .nil (.seq (.block (some [0,5]) (.cut 0 [0,5])) (.seq Vf (.seq (.reg [(29,.own .ro)]) (.seq .nil (.seq .nil (.seq .nil (.seq (.seq .nil (.block (some []) (.cut 1 [0,5,6,7,8,9,10]))) Vm))))))))) Tryz.func235 (mc u0 (mc u1 mn))⟩
end ay
namespace cN
def l1 (n:Nat)(s7:ByteArray)(K0:Unit->Option Bool):Nat->Int->Option Bool
 |0,_=>none
 |k+1,i8=>
 if decide (i8<(Jf s7:Int))=true then
 if(0:Int)<=i8/\i8<(Jf s7:Int)then
 (fh.F n (aO s7 i8)).bind λr9=>
 if(!r9)=true then
 some false
 else
 l1 n s7 K0 k (Jh.wrap (i8+1))
 else
 none
 else
 K0 ()
def j0 (n:Nat)(s6:ByteArray):Option Bool:=
 l1 n s6 (λ_=>
 some true) n 0
def F (n:Nat)(s1:ByteArray)(big2:Bool):Option Bool:=
 (bi.F n (Jf s1:Int) 1 20).bind λr3=>
 if(!r3)=false then
 if big2=true then
 if(0:Int)<=0/\0<(Jf s1:Int)then
 (eZ.F n (aO s1 0)).bind λr4=>
 if(!r4)=false then
 if(!big2)=true then
 if(0:Int)<=0/\0<(Jf s1:Int)then
 (dT.F n (aO s1 0)).bind λr5=>
 if(!r5)=true then
 some false
 else
 j0 n s1
 else
 none
 else
 j0 n s1
 else
 some false
 else
 none
 else
 if(!big2)=true then
 if(0:Int)<=0/\0<(Jf s1:Int)then
 (dT.F n (aO s1 0)).bind λr10=>
 if(!r10)=true then
 some false
 else
 j0 n s1
 else
 none
 else
 j0 n s1
 else
 some false
def code:=Tryz.f64.body.getD .skip
abbrev ash:List ASh:=[.ro .str,.ro .bool]
abbrev rsh:List RSh:=[.ro .bool]
def c0:=Jl (Jl code)
def b1:=Jn (Jn (Jl (Jn c0)))
abbrev sh1:ES:=⟨[(0,.v .str),(5,.v QA)],[]⟩
abbrev sh1_0:ES:=⟨[],[]⟩
abbrev sh0:ES:=⟨[(0,.v .str)],[]⟩
def g1:GL rsh sh1:=λn m x kn kx=>l1 n x.1.1 (λ_=>kx 0 (sh1_0.enc ((()),(())))) m x.1.2.1
def g0:GL rsh sh0:=λn m x kn kx=>j0 n x.1.1
def B:Bd:=⟨ash,rsh,[bi.E,eZ.E,dT.E,fh.E],⟨code,40,.nil,[(.tmp 4,.bool,.ro)]⟩,[⟨1,sh1,g1⟩,⟨0,sh0,g0⟩]⟩
theorem u1:UO B 1 (.loop b1):=
 lu (.seq Vi (.seq (.block (some [0,5]) Vf) .nil)) [(0,[])] [0,5] sh1 g1 mn
theorem u0:UO B 0 c0:=
 ju (.seq (.seq .nil (.block (some []) (.cut 1 [0,5]))) Vm) [] [4] sh0 g0 (mc u1 mn)
def E:En:=⟨64,λn=>⟨B.a,B.r,λv=>F n v.1 v.2.1⟩,cG B (.seq .nil (.seq Vf (.cut 0 [0]))) Tryz.func64 (mc u0 mn)⟩
end cN
namespace bc
def l2 (n:Nat)(self:ByteArray->Option Int)(t6:ByteArray)(K0:Unit->Option Int):Nat->Int->Option Int
 |0,_=>none
 |k+1,t7=>
 if decide ((Jh.wrap (t7+1))<(Jf t6:Int))=true then
 if(0:Int)<=t7/\t7<(Jf t6:Int)then
 (bi.F n (Jh.wrap (aO t6 t7)) 32 126).bind λr8=>
 if(!r8)=false then
 if(0:Int)<=t7/\t7<(Jf t6:Int)then
 if(decide ((aO t6 t7)=34))=false then
 if(0:Int)<=t7/\t7<(Jf t6:Int)then
 if decide ((aO t6 t7)=92)=true then
 some 0
 else
 l2 n self t6 K0 k (Jh.wrap (t7+1))
 else
 none
 else
 some 0
 else
 none
 else
 some 0
 else
 none
 else
 K0 ()
def j1 (n:Nat)(self:ByteArray->Option Int)(t5:ByteArray):Option Int:=
 l2 n self t5 (λ_=>
 some 2) n 1
def l4 (n:Nat)(self:ByteArray->Option Int)(t12:WL)(K2:Unit->Option Int):Nat->Int->Option Int
 |0,_=>none
 |k+1,t13=>
 if decide (t13<(Je t12:Int))=true then
 if(0:Int)<=t13/\t13<(Je t12:Int)then
 (self (Ji t12 (Jg t13) Jd)).bind λr14=>
 if decide (r14=0)=true then
 some 0
 else
 l4 n self t12 K2 k (Jh.wrap (t13+1))
 else
 none
 else
 K2 ()
def j3 (n:Nat)(self:ByteArray->Option Int)(t11:WL):Option Int:=
 l4 n self t11 (λ_=>
 some 3) n 0
def j0 (n:Nat)(self:ByteArray->Option Int)(t2:ByteArray):Option Int:=
 (bn.F n t2).bind λr3=>
 if r3.2=true then
 some 1
 else
 if(0:Int)<=0/\0<(Jf t2:Int)then
 if decide ((aO t2 0)=34)=true then
 (bi.F n (Jf t2:Int) 2 22).bind λr4=>
 if(!r4)=false then
 if(0:Int)<=(Jh.wrap ((Jf t2:Int) - 1))/\(Jh.wrap ((Jf t2:Int) - 1))<(Jf t2:Int)then
 if(!decide ((aO t2 (Jh.wrap ((Jf t2:Int) - 1)))=34))=true then
 some 0
 else
 j1 n self t2
 else
 none
 else
 some 0
 else
 (ay.F n t2).bind λr9=>
 if(!r9.2.2)=false then
 (cN.F n r9.1 true).bind λr10=>
 if(!r10)=true then
 some 0
 else
 j3 n self r9.2.1
 else
 some 0
 else
 none
def G (n:Nat)(self:ByteArray->Option Int)(t1:ByteArray):Option Int:=
 if(JL t1 Jd)=false then
 if decide ((Jf t1:Int)>200)=true then
 some 0
 else
 j0 n self t1
 else
 some 0
def F:Nat->ByteArray->Option Int
 |0=>λ_=>none
 |n+1=>G n (F n)
def code:Code:=Tryz.f186.body.getD .skip
abbrev ash:List ASh:=[.ro .str]
abbrev rsh:List RSh:=[.ro QA]
def ent (n:Nat):ij:=⟨ash,rsh,λv=>F n v.1⟩
def cx (n:Nat):fS:=jD Jp TYS [(50,bi.E.e n),(64,cN.E.e n),(185,bn.E.e n),(235,ay.E.e n),(186,ent n)]
def d:rx:=⟨code,88,.nil,[(.tmp 2,.int .i64,.ro)]⟩
def kr (n:Nat)(v:jB ash):KN rsh:=jK (cx n) d (eG ash v) (ip rsh)
def b2:Code:=Jn (Jn (Jl (Jn (Jl (Jn (Jl (Jn (Jl (Jl (Jl (Jl code)))))))))))
def c1:Code:=(Jl (Jn (Jl (Jn (Jl (Jl (Jl (Jl code))))))))
def b4:Code:=Jn (Jn (Jl (Jn (Jl (Jl (Jl (Jl (Jl (Jl (Jl code))))))))))
def c3:Code:=(Jl (Jl (Jl (Jl (Jl (Jl (Jl code)))))))
def c0:Code:=(Jl (Jl code))
def an:An:=.seq .nil (.seq Vf (.cut 0 [0]))
def an2:An:=.seq Vi (.seq (.block (some [0,5]) Vf) .nil)
abbrev sh2:ES:=⟨[(0,.v .str),(5,.v QA)],[]⟩
abbrev sh2_0:ES:=⟨[],[]⟩
def an1:An:=.seq (.seq .nil (.block (some []) (.cut 2 [0,5]))) Vm
abbrev sh1:ES:=⟨[(0,.v .str)],[]⟩
def an4:An:=.seq Vi (.seq (.block (some [7,9]) Vf) .nil)
abbrev sh4:ES:=⟨[(7,.v Qz),(9,.v QA)],[]⟩
abbrev sh4_2:ES:=⟨[],[]⟩
def an3:An:=.seq (.seq .nil (.block (some []) (.cut 4 [7,9]))) Vm
abbrev sh3:ES:=⟨[(7,.v Qz)],[]⟩
def an0:An:=.seq .nil (.seq Vf (.seq (.seq .nil (.cond (.seq Vf (.cut 1 [0])) .nil)) (.seq .nil (.seq Vf (.cut 3 [7])))))
abbrev sh0:ES:=⟨[(0,.v .str)],[]⟩
def g2 (n m:Nat)(x:sh2.V)(kn:KN rsh)(kx:KX rsh):Option (jL rsh):=l2 n (F n) x.1.1 (λ_=>kx 0 (sh2_0.enc ((()),(())))) m x.1.2.1
def g1 (n m:Nat)(x:sh1.V)(kn:KN rsh)(kx:KX rsh):Option (jL rsh):=j1 n (F n) x.1.1
def g4 (n m:Nat)(x:sh4.V)(kn:KN rsh)(kx:KX rsh):Option (jL rsh):=l4 n (F n) x.1.1 (λ_=>kx 2 (sh4_2.enc ((()),(())))) m x.1.2.1
def g3 (n m:Nat)(x:sh3.V)(kn:KN rsh)(kx:KX rsh):Option (jL rsh):=j3 n (F n) x.1.1
def g0 (n m:Nat)(x:sh0.V)(kn:KN rsh)(kx:KX rsh):Option (jL rsh):=j0 n (F n) x.1.1
def T (n:Nat):sO (jL rsh):=λj e kn kx=>match j with
 |2=>L7 sh2 e λx=>g2 n n x kn kx
 |1=>L7 sh1 e λx=>g1 n n x kn kx
 |4=>L7 sh4 e λx=>g4 n n x kn kx
 |3=>L7 sh3 e λx=>g3 n n x kn kx
 |0=>L7 sh0 e λx=>g0 n n x kn kx
 |_=>none
theorem mk (n:Nat)(ih:aq Jp 186 (ent n)):lS (cx n):=fJ (mem_cons (bi.E.ok n) (mem_cons (cN.E.ok n) (mem_cons (bn.E.ok n) (mem_cons (ay.E.ok n) (mem_cons ih bD)))))
theorem u2 (n:Nat)(v:jB ash)(ih:aq Jp 186 (ent n)):cQ (cx n) 88 (T n) (kr n v) 2 (.loop b2):=
 kq (n:=n) (CO _) (mk n ih) (MX _) an2 [(0,[])] [0,5] sh2 (g2 n) (λ_ _ _=>rfl) (λ_ _ _=>rfl) (λm x kn kx=>by kernel_rfl) (l:=[]) (by kernel_rfl) (bD)
theorem u1 (n:Nat)(v:jB ash)(ih:aq Jp 186 (ent n)):cQ (cx n) 88 (T n) (kr n v) 1 (c1):=
 jr (CO _) (mk n ih) (MX _) an1 [] [0] sh1 (g1 n n) (λ_ _ _=>rfl) (λx kn kx=>by kernel_rfl) (l:=[(2,.loop b2)]) (by kernel_rfl) (mem_cons (u2 n v ih) bD)
theorem u4 (n:Nat)(v:jB ash)(ih:aq Jp 186 (ent n)):cQ (cx n) 88 (T n) (kr n v) 4 (.loop b4):=
 kq (n:=n) (CO _) (mk n ih) (MX _) an4 [(2,[])] [7,9] sh4 (g4 n) (λ_ _ _=>rfl) (λ_ _ _=>rfl) (λm x kn kx=>by kernel_rfl) (l:=[]) (by kernel_rfl) (bD)
theorem u3 (n:Nat)(v:jB ash)(ih:aq Jp 186 (ent n)):cQ (cx n) 88 (T n) (kr n v) 3 (c3):=
 jr (CO _) (mk n ih) (MX _) an3 [] [2] sh3 (g3 n n) (λ_ _ _=>rfl) (λx kn kx=>by kernel_rfl) (l:=[(4,.loop b4)]) (by kernel_rfl) (mem_cons (u4 n v ih) bD)
theorem u0 (n:Nat)(v:jB ash)(ih:aq Jp 186 (ent n)):cQ (cx n) 88 (T n) (kr n v) 0 (c0):=
 jr (CO _) (mk n ih) (MX _) an0 [] [2] sh0 (g0 n n) (λ_ _ _=>rfl) (λx kn kx=>by kernel_rfl) (l:=[(1,c1),(3,c3)]) (by kernel_rfl) (mem_cons (u1 n v ih) (mem_cons (u3 n v ih) bD))
theorem ok:(n:Nat)->aq Jp 186 (ent n)
 |0=>gq Tryz.f186 (by kernel_rfl) (by kernel_rfl) (by kernel_rfl) (λ_=>rfl)
 |n+1=>have ih:=ok n
  iq (c:=cx n) (e:=ent (n+1)) (d:=d) (CO _) (mk n ih) (MX _) an Tryz.func186 (by kernel_rfl) (T n) (l:=[(0,c0)]) (by kernel_rfl) (λv=>mem_cons (u0 n v ih) bD) (λv=>by kernel_rfl)
def E:En:=⟨186,ent,ok⟩
end bc
namespace fR
def j0 (n:Nat)(s2:ByteArray):Option ByteArray:=
 if(0:Int)<=0/\0<(Jf s2:Int)then
 if decide ((aO s2 0)=40)=true then
 if decide ((aO s2 0)=40)=true then
 if(0:Int)<=0/\(0:Int)<=1/\1<=(Jf s2:Int)then
 some (Jz s2 (Jg 0) (Jg 1))
 else
 none
 else
 some Jd
 else
 if decide ((aO s2 0)=41)=true then
 if decide ((aO s2 0)=41)=true then
 if(0:Int)<=0/\(0:Int)<=1/\1<=(Jf s2:Int)then
 some (Jz s2 (Jg 0) (Jg 1))
 else
 none
 else
 some Jd
 else
 if decide ((aO s2 0)=44)=true then
 if decide ((aO s2 0)=44)=true then
 if(0:Int)<=0/\(0:Int)<=1/\1<=(Jf s2:Int)then
 some (Jz s2 (Jg 0) (Jg 1))
 else
 none
 else
 some Jd
 else
 if decide ((aO s2 0)=46)=true then
 if decide ((aO s2 0)=46)=true then
 if(0:Int)<=0/\(0:Int)<=1/\1<=(Jf s2:Int)then
 some (Jz s2 (Jg 0) (Jg 1))
 else
 none
 else
 some Jd
 else
 if decide ((aO s2 0)=33)=true then
 if decide ((aO s2 0)=33)=true then
 if(0:Int)<=0/\(0:Int)<=1/\1<=(Jf s2:Int)then
 some (Jz s2 (Jg 0) (Jg 1))
 else
 none
 else
 some Jd
 else
 if decide ((aO s2 0)=61)=true then
 if decide ((aO s2 0)=61)=true then
 if(0:Int)<=0/\(0:Int)<=1/\1<=(Jf s2:Int)then
 some (Jz s2 (Jg 0) (Jg 1))
 else
 none
 else
 some Jd
 else
 if decide ((aO s2 0)=60)=true then
 if decide ((aO s2 0)=60)=true then
 if(0:Int)<=0/\(0:Int)<=1/\1<=(Jf s2:Int)then
 some (Jz s2 (Jg 0) (Jg 1))
 else
 none
 else
 some Jd
 else
 if decide ((aO s2 0)=43)=true then
 if decide ((aO s2 0)=43)=true then
 if(0:Int)<=0/\(0:Int)<=1/\1<=(Jf s2:Int)then
 some (Jz s2 (Jg 0) (Jg 1))
 else
 none
 else
 some Jd
 else
 if decide ((aO s2 0)=45)=true then
 if decide ((aO s2 0)=45)=true then
 if(0:Int)<=0/\(0:Int)<=1/\1<=(Jf s2:Int)then
 some (Jz s2 (Jg 0) (Jg 1))
 else
 none
 else
 some Jd
 else
 if decide ((aO s2 0)=42)=true then
 if decide ((aO s2 0)=42)=true then
 if(0:Int)<=0/\(0:Int)<=1/\1<=(Jf s2:Int)then
 some (Jz s2 (Jg 0) (Jg 1))
 else
 none
 else
 some Jd
 else
 if decide ((aO s2 0)=124)=true then
 if decide ((aO s2 0)=124)=true then
 if(0:Int)<=0/\(0:Int)<=1/\1<=(Jf s2:Int)then
 some (Jz s2 (Jg 0) (Jg 1))
 else
 none
 else
 some Jd
 else
 if decide ((aO s2 0)=95)=true then
 if(0:Int)<=0/\(0:Int)<=1/\1<=(Jf s2:Int)then
 some (Jz s2 (Jg 0) (Jg 1))
 else
 none
 else
 some Jd
 else
 none
def F (n:Nat)(s1:ByteArray):Option ByteArray:=
 if decide ((Jf s1:Int)>1)=true then
 if(0:Int)<=0/\(0:Int)<=2/\2<=(Jf s1:Int)then
 if(JL (Jz s1 (Jg 0) (Jg 2)) ⟨#[58,45]⟩)=true then
 if(JL (Jz s1 (Jg 0) (Jg 2)) ⟨#[58,45]⟩)=true then
 if(0:Int)<=0/\(0:Int)<=2/\2<=(Jf s1:Int)then
 some (Jz s1 (Jg 0) (Jg 2))
 else
 none
 else
 j0 n s1
 else
 if(JL (Jz s1 (Jg 0) (Jg 2)) ⟨#[33,61]⟩)=true then
 if(JL (Jz s1 (Jg 0) (Jg 2)) ⟨#[33,61]⟩)=true then
 if(0:Int)<=0/\(0:Int)<=2/\2<=(Jf s1:Int)then
 some (Jz s1 (Jg 0) (Jg 2))
 else
 none
 else
 j0 n s1
 else
 if(JL (Jz s1 (Jg 0) (Jg 2)) ⟨#[60,61]⟩)=true then
 if(0:Int)<=0/\(0:Int)<=2/\2<=(Jf s1:Int)then
 some (Jz s1 (Jg 0) (Jg 2))
 else
 none
 else
 j0 n s1
 else
 none
 else
 j0 n s1
def code:=Tryz.f187.body.getD .skip
abbrev ash:List ASh:=[.ro .str]
abbrev rsh:List RSh:=[.ro .str]
def c0:=Jl (Jl code)
abbrev sh0:ES:=⟨[(0,.v .str)],[]⟩
def g0:GL rsh sh0:=λn m x kn kx=>j0 n x.1.1
def B:Bd:=⟨ash,rsh,[],⟨code,31,.nil,[(.tmp 2,.str,.ro)]⟩,[⟨0,sh0,g0⟩]⟩
theorem u0:UO B 0 c0:=
 ju (.seq (.seq .nil (.block (some []) (.seq (.seq .nil (.cond .nil (.seq .nil (.cond .nil (.seq .nil (.cond .nil (.seq .nil (.cond .nil (.seq .nil (.cond .nil WR)))))))))) Vj))) Vm) [] [2] sh0 g0 mn
def E:En:=⟨187,λn=>⟨B.a,B.r,λv=>F n v.1⟩,cG B (.seq .nil (.seq (.seq .nil (.cond (.seq .nil (.block (some [0]) (.seq W9 Vj))) .nil)) (.cut 0 [0]))) Tryz.func187 (mc u0 mn)⟩
end fR
namespace az
def l3 (n:Nat)(t22:ByteArray)(t23:WF)(t25:WF)(K3:Int->Option Wx):Nat->Int->Option Wx
 |0,_=>none
 |k+1,t24=>
 if(decide (t24<(Jf t22:Int)))=true then
 if(0:Int)<=t24/\t24<(Jf t22:Int)then
 if(!decide ((aO t22 t24)=10))=true then
 l3 n t22 t23 t25 K3 k (Jh.wrap (t24+1))
 else
 K3 t24
 else
 none
 else
 K3 t24
def l5 (n:Nat)(t37:ByteArray)(t38:WF)(t39:Int)(t40:Int)(t42:WF)(t43:WJ)(K5:Int->Option Wx):Nat->Int->Option Wx
 |0,_=>none
 |k+1,t41=>
 if(decide (t41<(Jf t37:Int)))=true then
 if(0:Int)<=t41/\t41<(Jf t37:Int)then
 (fh.F n (aO t37 t41)).bind λr44=>
 if r44=true then
 l5 n t37 t38 t39 t40 t42 t43 K5 k (Jh.wrap (t41+1))
 else
 K5 t41
 else
 none
 else
 K5 t41
def l6 (n:Nat)(t48:ByteArray)(t49:WF)(t50:Int)(t52:WF)(t53:WJ)(K7:Int->Option Wx):Nat->Int->Option Wx
 |0,_=>none
 |k+1,t51=>
 if(decide (t51<(Jf t48:Int)))=true then
 if(0:Int)<=t51/\t51<(Jf t48:Int)then
 (dF.F n (aO t48 t51)).bind λr54=>
 if r54=true then
 l6 n t48 t49 t50 t52 t53 K7 k (Jh.wrap (t51+1))
 else
 K7 t51
 else
 none
 else
 K7 t51
def l7 (n:Nat)(t57:ByteArray)(t58:WF)(t59:Int)(t61:WF)(t62:WJ)(K9:Int->Option Wx):Nat->Int->Option Wx
 |0,_=>none
 |k+1,t60=>
 if(decide (t60<(Jf t57:Int)))=true then
 if(0:Int)<=t60/\t60<(Jf t57:Int)then
 if(!decide ((aO t57 t60)=34))=true then
 l7 n t57 t58 t59 t61 t62 K9 k (Jh.wrap (t60+1))
 else
 K9 t60
 else
 none
 else
 K9 t60
def j4 (n:Nat)(t29:ByteArray)(t30:WF)(t31:Int)(t32:Int)(t33:Int)(t34:Bool)(t35:WF)(t36:WJ)(Kn:Int->WJ->Option Wx):Option Wx:=
 if t34=true then
 l5 n t29 t30 t31 t32 t35 t36 (λt45=>
 if decide ((Jh.wrap (t45 - t31))>20)=true then
 some (t30,t31,2)
 else
 (eZ.F n t32).bind λr46=>
 if r46=true then
 Kn t45 (2,t36.2)
 else
 Kn t45 (1,t36.2)) n t33
 else
 (dF.F n t32).bind λr47=>
 if r47=true then
 l6 n t29 t30 t31 t35 t36 (λt55=>
 if(0:Int)<=t31/\t31<=t55/\t55<=(Jf t29:Int)then
 (bn.F n (Jz t29 (Jg t31) (Jg t55))).bind λr56=>
 if(!r56.2)=true then
 some (t30,t31,4)
 else
 Kn t55 (3,t36.2)
 else
 none) n t33
 else
 if decide (t32=34)=true then
 l7 n t29 t30 t31 t35 t36 (λt63=>
 if(decide (t63=(Jf t29:Int)))=false then
 if(0:Int)<=t31/\t31<=(Jh.wrap (t63+1))/\(Jh.wrap (t63+1))<=(Jf t29:Int)then
 (bc.F n (Jz t29 (Jg t31) (Jg (Jh.wrap (t63+1))))).bind λr64=>
 if(!decide (r64=2))=true then
 some (t30,t31,3)
 else
 Kn (Jh.wrap (t63+1)) (4,t36.2)
 else
 none
 else
 some (t30,t31,3)) n t33
 else
 if(0:Int)<=t31/\t31<=(Jf t29:Int)/\(Jf t29:Int)<=(Jf t29:Int)then
 (fR.F n (Jz t29 (Jg t31) (Jg (Jf t29:Int)))).bind λr65=>
 if(JL r65 Jd)=true then
 some (t30,t31,2)
 else
 Kn (Jh.wrap (t31+(Jf r65:Int))) (5,t36.2)
 else
 none
def j2 (n:Nat)(t14:ByteArray)(t15:WF)(t16:Int)(t17:Int)(t18:Int)(t19:Bool)(t20:WF)(t21:WJ)(K1:Int->Option Wx)(Kn:Int->WJ->Option Wx):Option Wx:=
 if t19=true then
 l3 n t14 t15 t20 (λt26=>
 K1 t26) n t16
 else
 (dT.F n t17).bind λr27=>
 if r27=false then
 (eZ.F n t17).bind λr28=>
 j4 n t14 t15 t16 t17 t18 r28 t20 t21 (λt66 t67=>
 Kn t66 t67)
 else
 j4 n t14 t15 t16 t17 t18 true t20 t21 (λt68 t69=>
 Kn t68 t69)
def j1 (n:Nat)(t6:ByteArray)(t7:WF)(t8:Int)(t9:Int)(t10:Int)(t11:Bool)(t12:WF)(t13:WJ)(K1:Int->Option Wx)(Kn:Int->WJ->Option Wx):Option Wx:=
 if t11=true then
 K1 (Jh.wrap (t8+1))
 else
 if(decide (t9=47))=true then
 if(decide ((Jh.wrap (t8+1))<(Jf t6:Int)))=true then
 if(0:Int)<=(Jh.wrap (t8+1))/\(Jh.wrap (t8+1))<(Jf t6:Int)then
 j2 n t6 t7 t8 t9 t10 (decide ((aO t6 (Jh.wrap (t8+1)))=47)) t12 t13 (λt70=>
 K1 t70) (λt71 t72=>
 Kn t71 t72)
 else
 none
 else
 j2 n t6 t7 t8 t9 t10 false t12 t13 (λt73=>
 K1 t73) (λt74 t75=>
 Kn t74 t75)
 else
 j2 n t6 t7 t8 t9 t10 false t12 t13 (λt76=>
 K1 t76) (λt77 t78=>
 Kn t77 t78)
def j8 (n:Nat)(t82:ByteArray)(t83:WF)(t84:Int)(t85:Int)(t86:WF)(t87:WJ)(Kn:WF->Option Wx):Option Wx:=
 if(0:Int)<=t84/\t84<=t85/\t85<=(Jf t82:Int)then
 if Je t86+Je [(t87.1,(Jz t82 (Jg t84) (Jg t85),t87.2.2))]<=aU then
 Kn (t86++[(t87.1,(Jz t82 (Jg t84) (Jg t85),t87.2.2))])
 else
 none
 else
 none
def l0 (n:Nat)(t2:ByteArray)(t3:WF)(K0:WF->Option Wx):Nat->Int->WF->Option Wx
 |0,_,_=>none
 |k+1,t4,t5=>
 if decide (t4<(Jf t2:Int))=true then
 if(0:Int)<=t4/\t4<(Jf t2:Int)then
 if(decide ((aO t2 t4)=32))=false then
 if(decide ((aO t2 t4)=9))=false then
 if(decide ((aO t2 t4)=10))=false then
 j1 n t2 t3 t4 (aO t2 t4) (Jh.wrap (t4+1)) (decide ((aO t2 t4)=13)) t5 (0,(Jd,t4)) (λt79=>
 l0 n t2 t3 K0 k t79 t5) (λt80 t81=>
 j8 n t2 t3 t4 t80 t5 t81 (λt88=>
 l0 n t2 t3 K0 k t80 t88))
 else
 j1 n t2 t3 t4 (aO t2 t4) (Jh.wrap (t4+1)) true t5 (0,(Jd,t4)) (λt89=>
 l0 n t2 t3 K0 k t89 t5) (λt90 t91=>
 j8 n t2 t3 t4 t90 t5 t91 (λt92=>
 l0 n t2 t3 K0 k t90 t92))
 else
 j1 n t2 t3 t4 (aO t2 t4) (Jh.wrap (t4+1)) true t5 (0,(Jd,t4)) (λt93=>
 l0 n t2 t3 K0 k t93 t5) (λt94 t95=>
 j8 n t2 t3 t4 t94 t5 t95 (λt96=>
 l0 n t2 t3 K0 k t94 t96))
 else
 j1 n t2 t3 t4 (aO t2 t4) (Jh.wrap (t4+1)) true t5 (0,(Jd,t4)) (λt97=>
 l0 n t2 t3 K0 k t97 t5) (λt98 t99=>
 j8 n t2 t3 t4 t98 t5 t99 (λt100=>
 l0 n t2 t3 K0 k t98 t100))
 else
 none
 else
 K0 t5
def F (n:Nat)(t1:ByteArray):Option Wx:=
 if decide ((Jf t1:Int)>3000)=true then
 some ([],0,1)
 else
 l0 n t1 [] (λt101=>
 some (t101,0,0)) n 0 []
def code:=Tryz.f122.body.getD .skip
abbrev ash:List ASh:=[.ro .str]
abbrev rsh:List RSh:=[.ro Qo,.ro QA,.ro QA]
def b0:=Jn (Jn (Jl (Jn (Jl (Jl (Jl (Jl code)))))))
def c8:=Jl (Jl (Jl (Jl (Jn (Jl b0)))))
def c1:=Jl (Jn (Jn (Jl (Jl (Jl (Jn (Jl b0)))))))
def c2:=Jl (Jl c1)
def c4:=Jl (Jl c2)
def b3:=Jn (Jn (Jn (Jn c2)))
def b5:=Jn (Jn (Jn (Jn c4)))
def b6:=Jn (Jn (Jn (Jn (Jl (Jl c4)))))
def b7:=Jn (Jn (Jn (Jn (Jl (Jl (Jl (Jl c4)))))))
abbrev sh3:ES:=⟨[(0,.v .str),(5,.v Qo),(6,.al 6 []),(7,.v QA)],[⟨6,.sl Qs,.own .ro,false,false,none⟩]⟩
abbrev sh5:ES:=⟨[(0,.v .str),(5,.v Qo),(6,.al 6 []),(7,.v QA),(8,.v QB),(9,.pt 9 []),(10,.v QA)],[⟨6,.sl Qs,.own .ro,false,false,none⟩,⟨9,.st Qu,.ro,true,false,none⟩]⟩
abbrev sh6:ES:=⟨[(0,.v .str),(5,.v Qo),(6,.al 6 []),(7,.v QA),(9,.pt 9 []),(10,.v QA)],[⟨6,.sl Qs,.own .ro,false,false,none⟩,⟨9,.st Qu,.ro,true,false,none⟩]⟩
abbrev sh4:ES:=⟨[(0,.v .str),(5,.v Qo),(6,.al 6 []),(7,.v QA),(8,.v QB),(9,.pt 9 []),(10,.v QA),(90,.v .bool)],[⟨6,.sl Qs,.own .ro,false,false,none⟩,⟨9,.st Qu,.ro,true,false,none⟩]⟩
abbrev sh2:ES:=⟨[(0,.v .str),(5,.v Qo),(6,.al 6 []),(7,.v QA),(8,.v QB),(9,.pt 9 []),(10,.v QA),(61,.v .bool)],[⟨6,.sl Qs,.own .ro,false,false,none⟩,⟨9,.st Qu,.ro,true,false,none⟩]⟩
abbrev sh1:ES:=⟨[(0,.v .str),(5,.v Qo),(6,.al 6 []),(7,.v QA),(8,.v QB),(9,.pt 9 []),(10,.v QA),(44,.v .bool)],[⟨6,.sl Qs,.own .ro,false,false,none⟩,⟨9,.st Qu,.ro,true,false,none⟩]⟩
abbrev sh0_0:ES:=⟨[(6,.al 6 [])],[⟨6,.sl Qs,.own .ro,false,false,none⟩]⟩
def g3:GL rsh sh3:=λn m x kn kx=>l3 n x.1.1 x.1.2.1 x.2.1 (λy0=>kx 3 (sh3.enc ((x.1.1,x.1.2.1,(()),y0,()),(x.2.1,())))) m x.1.2.2.2.1
def g5:GL rsh sh5:=λn m x kn kx=>l5 n x.1.1 x.1.2.1 x.1.2.2.2.1 x.1.2.2.2.2.1 x.2.1 x.2.2.1 (λy0=>kx 5 (sh5.enc ((x.1.1,x.1.2.1,(()),x.1.2.2.2.1,x.1.2.2.2.2.1,(()),y0,()),(x.2.1,x.2.2.1,())))) m x.1.2.2.2.2.2.2.1
def g6:GL rsh sh6:=λn m x kn kx=>l6 n x.1.1 x.1.2.1 x.1.2.2.2.1 x.2.1 x.2.2.1 (λy0=>kx 7 (sh6.enc ((x.1.1,x.1.2.1,(()),x.1.2.2.2.1,(()),y0,()),(x.2.1,x.2.2.1,())))) m x.1.2.2.2.2.2.1
def g7:GL rsh sh6:=λn m x kn kx=>l7 n x.1.1 x.1.2.1 x.1.2.2.2.1 x.2.1 x.2.2.1 (λy0=>kx 9 (sh6.enc ((x.1.1,x.1.2.1,(()),x.1.2.2.2.1,(()),y0,()),(x.2.1,x.2.2.1,())))) m x.1.2.2.2.2.2.1
def g4:GL rsh sh4:=λn m x kn kx=>j4 n x.1.1 x.1.2.1 x.1.2.2.2.1 x.1.2.2.2.2.1 x.1.2.2.2.2.2.2.1 x.1.2.2.2.2.2.2.2.1 x.2.1 x.2.2.1 (λy0 y1=>kn (sh6.enc ((x.1.1,x.1.2.1,(()),x.1.2.2.2.1,(()),y0,()),(x.2.1,y1,()))))
def g2:GL rsh sh2:=λn m x kn kx=>j2 n x.1.1 x.1.2.1 x.1.2.2.2.1 x.1.2.2.2.2.1 x.1.2.2.2.2.2.2.1 x.1.2.2.2.2.2.2.2.1 x.2.1 x.2.2.1 (λy0=>kx 1 (sh3.enc ((x.1.1,x.1.2.1,(()),y0,()),(x.2.1,())))) (λy0 y1=>kn (sh6.enc ((x.1.1,x.1.2.1,(()),x.1.2.2.2.1,(()),y0,()),(x.2.1,y1,()))))
def g1:GL rsh sh1:=λn m x kn kx=>j1 n x.1.1 x.1.2.1 x.1.2.2.2.1 x.1.2.2.2.2.1 x.1.2.2.2.2.2.2.1 x.1.2.2.2.2.2.2.2.1 x.2.1 x.2.2.1 (λy0=>kx 1 (sh3.enc ((x.1.1,x.1.2.1,(()),y0,()),(x.2.1,())))) (λy0 y1=>kn (sh6.enc ((x.1.1,x.1.2.1,(()),x.1.2.2.2.1,(()),y0,()),(x.2.1,y1,()))))
def g8:GL rsh sh6:=λn m x kn kx=>j8 n x.1.1 x.1.2.1 x.1.2.2.2.1 x.1.2.2.2.2.2.1 x.2.1 x.2.2.1 (λy0=>kn (sh3.enc ((x.1.1,x.1.2.1,(()),x.1.2.2.2.2.2.1,()),(y0,()))))
def g0:GL rsh sh3:=λn m x kn kx=>l0 n x.1.1 x.1.2.1 (λy0=>kx 0 (sh0_0.enc (((()),()),(y0,())))) m x.1.2.2.2.1 x.2.1
def B:Bd:=⟨ash,rsh,[eZ.E,dT.E,fh.E,dF.E,bn.E,bc.E,fR.E],⟨code,191,.nil,[(.tmp 2,.sl Qs,.ro),(.tmp 3,.int .i64,.ro),(.tmp 4,.int .i64,.ro)]⟩,[⟨3,sh3,g3⟩,⟨5,sh5,g5⟩,⟨6,sh6,g6⟩,⟨7,sh6,g7⟩,⟨4,sh4,g4⟩,⟨2,sh2,g2⟩,⟨1,sh1,g1⟩,⟨8,sh6,g8⟩,⟨0,sh3,g0⟩]⟩
theorem u3:UO B 3 (.loop b3):=
 lu (.seq Vi (.block (some [0,5,6,7]) .nil)) [(0,[6]),(1,[0,5,6,7]),(2,[0,5,6,7,9,10]),(3,[0,5,6,7])] [0,5,6,7] sh3 g3 mn
theorem u5:UO B 5 (.loop b5):=
 lu (.seq Vi (.block (some [0,5,6,7,8,9,10]) .nil)) [(0,[6]),(1,[0,5,6,7]),(2,[0,5,6,7,9,10]),(5,[0,5,6,7,8,9,10])] [0,5,6,7,8,9,10] sh5 g5 mn
theorem u6:UO B 6 (.loop b6):=
 lu (.seq Vi (.block (some [0,5,6,7,9,10]) .nil)) [(0,[6]),(1,[0,5,6,7]),(2,[0,5,6,7,9,10]),(7,[0,5,6,7,9,10])] [0,5,6,7,9,10] sh6 g6 mn
theorem u7:UO B 7 (.loop b7):=
 lu (.seq Vi (.block (some [0,5,6,7,9,10]) .nil)) [(0,[6]),(1,[0,5,6,7]),(2,[0,5,6,7,9,10]),(9,[0,5,6,7,9,10])] [0,5,6,7,9,10] sh6 g7 mn
theorem u4:UO B 4 c4:=
 ju (.cond (.seq (.block (some [0,5,6,7,8,9,10]) (.cut 5 [0,5,6,7,8,9,10])) (.seq Vf Ve)) (.seq .nil (.cond (.seq (.block (some [0,5,6,7,9,10]) (.cut 6 [0,5,6,7,9,10])) W4) (.seq .nil (.cond (.seq (.block (some [0,5,6,7,9,10]) (.cut 7 [0,5,6,7,9,10])) W5) W3))))) [(0,[6]),(1,[0,5,6,7]),(2,[0,5,6,7,9,10])] [0,5,6,7,9,10] sh4 g4 (mc u5 (mc u6 (mc u7 mn)))
theorem u2:UO B 2 c2:=
 ju (.cond (.seq (.block (some [0,5,6,7]) (.cut 3 [0,5,6,7])) .nil) (.seq .nil (.cut 4 [0,5,6,7,8,9,10,90]))) [(0,[6]),(1,[0,5,6,7]),(2,[0,5,6,7,9,10])] [0,5,6,7,9,10] sh2 g2 (mc u3 (mc u4 mn))
theorem u1:UO B 1 c1:=
 ju (.cond Vm (.seq .nil (.cut 2 [0,5,6,7,8,9,10,61]))) [(0,[6]),(1,[0,5,6,7]),(2,[0,5,6,7,9,10])] [0,5,6,7,9,10] sh1 g1 (mc u2 mn)
theorem u8:UO B 8 c8:=
 ju Vk [(0,[6]),(1,[0,5,6,7])] [0,5,6,7] sh6 g8 mn
theorem u0:UO B 0 (.loop b0):=
 lu (.seq Vi (.block (some [0,5,6,7]) (.seq .nil (.seq .nil (.seq .nil (.seq (.block (some [0,5,6,7,9,10]) (.seq .nil (.cut 1 [0,5,6,7,8,9,10,44]))) (.cut 8 [0,5,6,7,9,10]))))))) [(0,[6])] [0,5,6,7] sh3 g0 (mc u1 (mc u8 mn))
def E:En:=⟨122,λn=>⟨B.a,B.r,λv=>F n v.1⟩,cG B (.seq .nil (.seq .nil (.seq Vf (.seq (.reg [(19,.own .ro)]) (.seq (.seq .nil (.block (some [6]) (.cut 0 [0,5,6,7]))) Vm))))) Tryz.func122 (mc u0 mn)⟩
end az
namespace bh
def F (n:Nat)(r1:Q7)(more2:Int):Option WJ:=
 if decide ((Jh.wrap (r1.2.1+more2))<(Je r1.1:Int))=true then
 if(0:Int)<=(Jh.wrap (r1.2.1+more2))/\(Jh.wrap (r1.2.1+more2))<(Je r1.1:Int)then
 some (Ji r1.1 (Jg (Jh.wrap (r1.2.1+more2))) (0,(Jd,0)))
 else
 none
 else
 some (0,(Jd,r1.2.2.1))
def code:=Tryz.f237.body.getD .skip
abbrev ash:List ASh:=[.rp Qa,.ro QA]
abbrev rsh:List RSh:=[.ro Qs]
def B:Bd:=⟨ash,rsh,[],⟨code,34,.nil,[(.cell 4 218,.st Qu,.ro)]⟩,[]⟩
def E:En:=⟨237,λn=>⟨B.a,B.r,λv=>F n v.1 v.2.1⟩,cG B W3 Tryz.func237 mn⟩
end bh
namespace bQ
def F (n:Nat)(r1:Q7)(text2:ByteArray):Option Bool:=
 (bh.F n r1 0).bind λr3=>
 if(!r1.2.2.2.2.1)=true then
 if(decide (r3.1=5))=false then
 if(decide (r3.1=1))=true then
 some (JL r3.2.1 text2)
 else
 some false
 else
 some (JL r3.2.1 text2)
 else
 some false
def code:=Tryz.f236.body.getD .skip
abbrev ash:List ASh:=[.rp Qa,.ro .str]
abbrev rsh:List RSh:=[.ro .bool]
def B:Bd:=⟨ash,rsh,[bh.E],⟨code,29,.nil,[(.tmp 4,.bool,.ro)]⟩,[]⟩
def E:En:=⟨236,λn=>⟨B.a,B.r,λv=>F n v.1 v.2.1⟩,cG B Vh Tryz.func236 mn⟩
end bQ
namespace aT
def F (n:Nat)(r1:Q7)(text2:ByteArray):Option Q5:=
 (bQ.F n r1 text2).bind λr3=>
 if r3=true then
 some (true,(r1.1,(Jh.wrap (r1.2.1+1),r1.2.2)))
 else
 some (false,r1)
def code:=Tryz.f188.body.getD .skip
abbrev ash:List ASh:=[.mp Qa QK,.ro .str]
abbrev rsh:List RSh:=[.ro .bool,.out Qa]
def B:Bd:=⟨ash,rsh,[bQ.E],⟨code,15,.nil,[(.tmp 4,.bool,.ro)]⟩,[]⟩
def E:En:=⟨188,λn=>⟨B.a,B.r,λv=>F n v.1 v.2.1⟩,cG B WZ Tryz.func188 mn⟩
end aT
namespace da
def F (n:Nat)(r1:Q7):Option Q7:=
 if(!r1.2.2.2.2.1)=true then
 (bh.F n (r1.1,(r1.2.1,(r1.2.2.1,(r1.2.2.2.1,(true,r1.2.2.2.2.2))))) 0).bind λr2=>
 some (r1.1,(r1.2.1,(r1.2.2.1,(r2.2.2,(true,r1.2.2.2.2.2)))))
 else
 some r1
def code:=Tryz.f238.body.getD .skip
abbrev ash:List ASh:=[.mp Qa QK]
abbrev rsh:List RSh:=[.out Qa]
def B:Bd:=⟨ash,rsh,[bh.E],⟨code,16,.nil,[]⟩,[]⟩
def E:En:=⟨238,λn=>⟨B.a,B.r,λv=>F n v.1⟩,cG B Vf Tryz.func238 mn⟩
end da
namespace bE
def F (n:Nat)(r1:Q7)(kind2:Int):Option Q4:=
 (bh.F n r1 0).bind λr3=>
 if r1.2.2.2.2.1=false then
 if(!decide (r3.1=kind2))=true then
 (da.F n r1).bind λr4=>
 some (Jd,r4)
 else
 some (r3.2.1,(r1.1,(Jh.wrap (r1.2.1+1),r1.2.2)))
 else
 (da.F n r1).bind λr5=>
 some (Jd,r5)
def code:=Tryz.f189.body.getD .skip
abbrev ash:List ASh:=[.mp Qa QK,.ro QA]
abbrev rsh:List RSh:=[.ro .str,.out Qa]
def B:Bd:=⟨ash,rsh,[bh.E,da.E],⟨code,29,.nil,[(.tmp 4,.str,.ro)]⟩,[]⟩
def E:En:=⟨189,λn=>⟨B.a,B.r,λv=>F n v.1 v.2.1⟩,cG B WX Tryz.func189 mn⟩
end bE
namespace bo
def F (n:Nat)(r1:Q7)(text2:ByteArray):Option Q7:=
 (aT.F n r1 text2).bind λr3=>
 if(!r3.1)=true then
 (da.F n r3.2).bind λr4=>
 some r4
 else
 some r3.2
def code:=Tryz.f190.body.getD .skip
abbrev ash:List ASh:=[.mp Qa QK,.ro .str]
abbrev rsh:List RSh:=[.out Qa]
def B:Bd:=⟨ash,rsh,[aT.E,da.E],⟨code,10,.nil,[]⟩,[]⟩
def E:En:=⟨190,λn=>⟨B.a,B.r,λv=>F n v.1 v.2.1⟩,cG B Vi Tryz.func190 mn⟩
end bo
namespace dl
def F (n:Nat)(r1:Q7):Option Q4:=
 (bQ.F n r1 ⟨#[110,117,109,98,101,114]⟩).bind λr2=>
 if r2=false then
 (bQ.F n r1 ⟨#[115,121,109,98,111,108]⟩).bind λr3=>
 if r3=true then
 (bE.F n r1 1).bind λr4=>
 some (r4.1,r4.2)
 else
 (bE.F n r1 2).bind λr5=>
 some (r5.1,r5.2)
 else
 (bE.F n r1 1).bind λr6=>
 some (r6.1,r6.2)
def code:=Tryz.f239.body.getD .skip
abbrev ash:List ASh:=[.mp Qa QK]
abbrev rsh:List RSh:=[.ro .str,.out Qa]
def B:Bd:=⟨ash,rsh,[bQ.E,bE.E],⟨code,13,.nil,[(.tmp 2,.str,.ro)]⟩,[]⟩
def E:En:=⟨239,λn=>⟨B.a,B.r,λv=>F n v.1⟩,cG B W3 Tryz.func239 mn⟩
end dl
namespace aW
def F (n:Nat)(r1:Q7)(t2:Int)(most3:Int):Option Q7:=
 if r1.2.2.2.2.2.1=false then
 some (r1.1,(r1.2.1,(r1.2.2.1,(r1.2.2.2.1,(r1.2.2.2.2.1,(decide (t2>most3),r1.2.2.2.2.2.2))))))
 else
 some (r1.1,(r1.2.1,(r1.2.2.1,(r1.2.2.2.1,(r1.2.2.2.2.1,(true,r1.2.2.2.2.2.2))))))
def code:=Tryz.f124.body.getD .skip
abbrev ash:List ASh:=[.mp Qa QK,.ro QA,.ro QA]
abbrev rsh:List RSh:=[.out Qa]
def B:Bd:=⟨ash,rsh,[],⟨code,18,.nil,[]⟩,[]⟩
def E:En:=⟨124,λn=>⟨B.a,B.r,λv=>F n v.1 v.2.1 v.2.2.1⟩,cG B (.nil) Tryz.func124 mn⟩
end aW
namespace bq
def l0 (n:Nat)(K0:Q7->WL->Option Q2):Nat->Q7->WL->Option Q2
 |0,_,_=>none
 |k+1,r3,out4=>
 (aT.F n r3 ⟨#[44]⟩).bind λr5=>
 if r5.1=true then
 (dl.F n r5.2).bind λr6=>
 if Je out4+Je [r6.1]<=aU then
 l0 n K0 k r6.2 (out4++[r6.1])
 else
 none
 else
 K0 r5.2 out4
def F (n:Nat)(r1:Q7):Option Q2:=
 (dl.F n r1).bind λr2=>
 l0 n (λr7 out8=>
 (bo.F n r7 ⟨#[41]⟩).bind λr9=>
 (aW.F n r9 (Je out8:Int) 6).bind λr10=>
 some (out8,r10)) n r2.2 [r2.1]
def code:=Tryz.f192.body.getD .skip
abbrev ash:List ASh:=[.mp Qa QK]
abbrev rsh:List RSh:=[.ro Qz,.out Qa]
def b0:=Jn (Jn (Jn (Jl (Jl code))))
abbrev sh0:ES:=⟨[(0,.pt 0 []),(3,.al 3 [])],[⟨0,.st Qb,.pr .ro QM,true,true,none⟩,⟨3,.sl QC,.own .ro,false,false,none⟩]⟩
def g0:GL rsh sh0:=λn m x kn kx=>l0 n (λy0 y1=>kx 0 (sh0.enc (((()),(()),()),(y0,y1,())))) m x.2.1 x.2.2.1
def B:Bd:=⟨ash,rsh,[aT.E,bo.E,dl.E,aW.E],⟨code,21,.nil,[(.tmp 2,.sl QC,.ro)]⟩,[⟨0,sh0,g0⟩]⟩
theorem u0:UO B 0 (.loop b0):=
 lu (.seq Vi (.block (some [0,3]) .nil)) [(0,[0,3])] [0,3] sh0 g0 mn
def E:En:=⟨192,λn=>⟨B.a,B.r,λv=>F n v.1⟩,cG B (.seq .nil (.seq (.reg [(6,.own .ro)]) (.seq (.block (some [0,3]) (.cut 0 [0,3])) Vh))) Tryz.func192 (mc u0 mn)⟩
end bq
namespace dm
def F (n:Nat)(r1:Q7):Option (WH×WF×Int×Int×Int×Bool×Bool×WD×Wu×Wy×List Wk):=
 (bE.F n r1 2).bind λr2=>
 (aT.F n r2.2 ⟨#[40]⟩).bind λr3=>
 if r3.1=true then
 (bq.F n r3.2).bind λr4=>
 some ((r2.1,r4.1),r4.2)
 else
 some ((r2.1,[]),r3.2)
def code:=Tryz.f191.body.getD .skip
abbrev ash:List ASh:=[.mp Qa QK]
abbrev rsh:List RSh:=[.ro Qw,.out Qa]
def B:Bd:=⟨ash,rsh,[aT.E,bE.E,bq.E],⟨code,13,.nil,[(.cell 2 177,.st Qx,.ro)]⟩,[]⟩
def E:En:=⟨191,λn=>⟨B.a,B.r,λv=>F n v.1⟩,cG B W1 Tryz.func191 mn⟩
end dm
namespace bf
def F (n:Nat)(r1:Q7):Option Q7:=
 if(!r1.2.2.2.2.1)=true then
 (bh.F n (r1.1,(r1.2.1,(r1.2.2.1,(r1.2.2.2.1,(true,r1.2.2.2.2.2))))) 0).bind λr2=>
 some (r1.1,(r1.2.1,(r1.2.2.1,(r2.2.2,(true,r1.2.2.2.2.2)))))
 else
 some r1
def code:=Tryz.f238.body.getD .skip
abbrev ash:List ASh:=[.mp Qa QI]
abbrev rsh:List RSh:=[.out Qa]
def B:Bd:=⟨ash,rsh,[bh.E],⟨code,16,.nil,[]⟩,[]⟩
def E:En:=⟨238,λn=>⟨B.a,B.r,λv=>F n v.1⟩,cG B Vf Tryz.func238 mn⟩
end bf
namespace cX
def F (n:Nat)(r1:Q7)(kind2:Int):Option Q4:=
 (bh.F n r1 0).bind λr3=>
 if r1.2.2.2.2.1=false then
 if(!decide (r3.1=kind2))=true then
 (bf.F n r1).bind λr4=>
 some (Jd,r4)
 else
 some (r3.2.1,(r1.1,(Jh.wrap (r1.2.1+1),r1.2.2)))
 else
 (bf.F n r1).bind λr5=>
 some (Jd,r5)
def code:=Tryz.f189.body.getD .skip
abbrev ash:List ASh:=[.mp Qa QI,.ro QA]
abbrev rsh:List RSh:=[.ro .str,.out Qa]
def B:Bd:=⟨ash,rsh,[bh.E,bf.E],⟨code,29,.nil,[(.tmp 4,.str,.ro)]⟩,[]⟩
def E:En:=⟨189,λn=>⟨B.a,B.r,λv=>F n v.1 v.2.1⟩,cG B WX Tryz.func189 mn⟩
end cX
namespace aB
def F (n:Nat)(r1:Q7)(text2:ByteArray):Option Q5:=
 (bQ.F n r1 text2).bind λr3=>
 if r3=true then
 some (true,(r1.1,(Jh.wrap (r1.2.1+1),r1.2.2)))
 else
 some (false,r1)
def code:=Tryz.f188.body.getD .skip
abbrev ash:List ASh:=[.mp Qa QI,.ro .str]
abbrev rsh:List RSh:=[.ro .bool,.out Qa]
def B:Bd:=⟨ash,rsh,[bQ.E],⟨code,15,.nil,[(.tmp 4,.bool,.ro)]⟩,[]⟩
def E:En:=⟨188,λn=>⟨B.a,B.r,λv=>F n v.1 v.2.1⟩,cG B WZ Tryz.func188 mn⟩
end aB
namespace bl
def F (n:Nat)(r1:Q7)(text2:ByteArray):Option Q7:=
 (aB.F n r1 text2).bind λr3=>
 if(!r3.1)=true then
 (bf.F n r3.2).bind λr4=>
 some r4
 else
 some r3.2
def code:=Tryz.f190.body.getD .skip
abbrev ash:List ASh:=[.mp Qa QI,.ro .str]
abbrev rsh:List RSh:=[.out Qa]
def B:Bd:=⟨ash,rsh,[bf.E,aB.E],⟨code,10,.nil,[]⟩,[]⟩
def E:En:=⟨190,λn=>⟨B.a,B.r,λv=>F n v.1 v.2.1⟩,cG B Vi Tryz.func190 mn⟩
end bl
namespace bm
def F (n:Nat)(r1:Q7)(kind2:Int)(text3:ByteArray)(kids4:WN):Option Q6:=
 if Je r1.2.2.2.2.2.2.1+Je [(kind2,(text3,kids4))]<=aU then
 some (Jh.wrap ((Je (r1.2.2.2.2.2.2.1++[(kind2,(text3,kids4))]):Int) - 1),(r1.1,(r1.2.1,(r1.2.2.1,(r1.2.2.2.1,(r1.2.2.2.2.1,(r1.2.2.2.2.2.1,(r1.2.2.2.2.2.2.1++[(kind2,(text3,kids4))],r1.2.2.2.2.2.2.2))))))))
 else
 none
def code:=Tryz.f271.body.getD .skip
abbrev ash:List ASh:=[.mp Qa QI,.ro QA,.ro .str,.ro Qy]
abbrev rsh:List RSh:=[.ro QA,.out Qa]
def B:Bd:=⟨ash,rsh,[],⟨code,28,.nil,[(.tmp 8,.int .i64,.ro)]⟩,[]⟩
def E:En:=⟨271,λn=>⟨B.a,B.r,λv=>F n v.1 v.2.1 v.2.2.1 v.2.2.2.1⟩,cG B Vh Tryz.func271 mn⟩
end bm
namespace dk
def F (n:Nat)(r1:Q7)(t2:Int)(most3:Int):Option Q7:=
 if r1.2.2.2.2.2.1=false then
 some (r1.1,(r1.2.1,(r1.2.2.1,(r1.2.2.2.1,(r1.2.2.2.2.1,(decide (t2>most3),r1.2.2.2.2.2.2))))))
 else
 some (r1.1,(r1.2.1,(r1.2.2.1,(r1.2.2.2.1,(r1.2.2.2.2.1,(true,r1.2.2.2.2.2.2))))))
def code:=Tryz.f124.body.getD .skip
abbrev ash:List ASh:=[.mp Qa QI,.ro QA,.ro QA]
abbrev rsh:List RSh:=[.out Qa]
def B:Bd:=⟨ash,rsh,[],⟨code,18,.nil,[]⟩,[]⟩
def E:En:=⟨124,λn=>⟨B.a,B.r,λv=>F n v.1 v.2.1 v.2.2.1⟩,cG B (.nil) Tryz.func124 mn⟩
end dk
namespace ae
def l0 (n:Nat)(self4700240:Q7->Option Q3)(self4800241:Q0)(self4900270:Q0)(self5000286:Q0)(K0:Q7->WN->Option Q3):Nat->Q7->WN->Option Q3
 |0,_,_=>none
 |k+1,r3,out4=>
 (aB.F n r3 ⟨#[44]⟩).bind λr5=>
 if r5.1=true then
 (self4800241 r5.2).bind λr6=>
 if Je out4+Je [r6.1]<=aU then
 l0 n self4700240 self4800241 self4900270 self5000286 K0 k r6.2 (out4++[r6.1])
 else
 none
 else
 K0 r5.2 out4
def G (n:Nat)(self4700240:Q7->Option Q3)(self4800241:Q0)(self4900270:Q0)(self5000286:Q0)(r1:Q7):Option Q3:=
 (self4800241 r1).bind λr2=>
 l0 n self4700240 self4800241 self4900270 self5000286 (λr7 out8=>
 (bl.F n r7 ⟨#[41]⟩).bind λr9=>
 (dk.F n r9 (Je out8:Int) 6).bind λr10=>
 some (out8,r10)) n r2.2 [r2.1]
end ae
namespace af
def j2 (n:Nat)(self4700240:Q7->Option Q3)(self4800241:Q0)(self4900270:Q0)(self5000286:Q0)(t10:Int)(kind11:Int)(r12:Q7)(Kn:Int->Q7->Option Q6):Option Q6:=
 (self4900270 (r12.1,(Jh.wrap (r12.2.1+1),r12.2.2))).bind λr13=>
 (bm.F n r13.2 kind11 Jd [t10,r13.1]).bind λr14=>
 Kn r14.1 r14.2
def j1 (n:Nat)(self4700240:Q7->Option Q3)(self4800241:Q0)(self4900270:Q0)(self5000286:Q0)(t7:Int)(r8:Q7)(Kn:Int->Q7->Option Q6):Option Q6:=
 (bQ.F n r8 ⟨#[45]⟩).bind λr9=>
 if r9=true then
 j2 n self4700240 self4800241 self4900270 self5000286 t7 6 r8 (λt15 r16=>
 Kn t15 r16)
 else
 j2 n self4700240 self4800241 self4900270 self5000286 t7 5 r8 (λt17 r18=>
 Kn t17 r18)
def l0 (n:Nat)(self4700240:Q7->Option Q3)(self4800241:Q0)(self4900270:Q0)(self5000286:Q0)(K0:Int->Q7->Option Q6):Nat->Int->Q7->Option Q6
 |0,_,_=>none
 |k+1,t3,r4=>
 (bQ.F n r4 ⟨#[43]⟩).bind λr5=>
 if r5=false then
 (bQ.F n r4 ⟨#[45]⟩).bind λr6=>
 if r6=true then
 j1 n self4700240 self4800241 self4900270 self5000286 t3 r4 (λt19 r20=>
 l0 n self4700240 self4800241 self4900270 self5000286 K0 k t19 r20)
 else
 K0 t3 r4
 else
 j1 n self4700240 self4800241 self4900270 self5000286 t3 r4 (λt21 r22=>
 l0 n self4700240 self4800241 self4900270 self5000286 K0 k t21 r22)
def G (n:Nat)(self4700240:Q7->Option Q3)(self4800241:Q0)(self4900270:Q0)(self5000286:Q0)(r1:Q7):Option Q6:=
 (self4900270 r1).bind λr2=>
 l0 n self4700240 self4800241 self4900270 self5000286 (λt23 r24=>
 some (t23,r24)) n r2.1 r2.2
end af
namespace ak
def l0 (n:Nat)(self4700240:Q7->Option Q3)(self4800241:Q0)(self4900270:Q0)(self5000286:Q0)(K0:Int->Q7->Option Q6):Nat->Int->Q7->Option Q6
 |0,_,_=>none
 |k+1,t3,r4=>
 (aB.F n r4 ⟨#[42]⟩).bind λr5=>
 if r5.1=true then
 (self5000286 r5.2).bind λr6=>
 (bm.F n r6.2 7 Jd [t3,r6.1]).bind λr7=>
 l0 n self4700240 self4800241 self4900270 self5000286 K0 k r7.1 r7.2
 else
 K0 t3 r5.2
def G (n:Nat)(self4700240:Q7->Option Q3)(self4800241:Q0)(self4900270:Q0)(self5000286:Q0)(r1:Q7):Option Q6:=
 (self5000286 r1).bind λr2=>
 l0 n self4700240 self4800241 self4900270 self5000286 (λt8 r9=>
 some (t8,r9)) n r2.1 r2.2
end ak
namespace aj
def j0 (n:Nat)(self4700240:Q7->Option Q3)(self4800241:Q0)(self4900270:Q0)(self5000286:Q0)(t3:Bool)(t4:Q7)(t5:WJ)(Kn:Q0):Option Q6:=
 if t3=true then
 (bm.F n (t4.1,(Jh.wrap (t4.2.1+1),t4.2.2)) 3 t5.2.1 []).bind λr6=>
 some (r6.1,r6.2)
 else
 (aB.F n t4 ⟨#[45]⟩).bind λr7=>
 if r7.1=true then
 (cX.F n r7.2 3).bind λr8=>
 (bn.F n r8.1).bind λr9=>
 (bR.F n (Jh.wrap (0 - r9.1))).bind λr10=>
 (bm.F n r8.2 3 r10 []).bind λr11=>
 some (r11.1,r11.2)
 else
 if decide (t5.1=1)=true then
 (bm.F n (r7.2.1,(Jh.wrap (r7.2.2.1+1),r7.2.2.2)) 1 t5.2.1 []).bind λr12=>
 some (r12.1,r12.2)
 else
 (aB.F n r7.2 ⟨#[95]⟩).bind λr13=>
 if r13.1=true then
 (bm.F n r13.2 2 Jd []).bind λr14=>
 some (r14.1,r14.2)
 else
 if decide (t5.1=2)=true then
 (aB.F n (r13.2.1,(Jh.wrap (r13.2.2.1+1),r13.2.2.2)) ⟨#[40]⟩).bind λr15=>
 if r15.1=true then
 (self4700240 r15.2).bind λr16=>
 (bm.F n r16.2 4 t5.2.1 r16.1).bind λr17=>
 some (r17.1,r17.2)
 else
 (bm.F n r15.2 4 t5.2.1 []).bind λr18=>
 some (r18.1,r18.2)
 else
 (aB.F n r13.2 ⟨#[40]⟩).bind λr19=>
 if r19.1=true then
 (self4800241 r19.2).bind λr20=>
 (bl.F n r20.2 ⟨#[41]⟩).bind λr21=>
 some (r20.1,r21)
 else
 Kn r19.2
def G (n:Nat)(self4700240:Q7->Option Q3)(self4800241:Q0)(self4900270:Q0)(self5000286:Q0)(t1:Q7):Option Q6:=
 (bh.F n t1 0).bind λr2=>
 if t1.2.2.2.2.1=true then
 some (0,t1)
 else
 if(decide (r2.1=3))=false then
 j0 n self4700240 self4800241 self4900270 self5000286 (decide (r2.1=4)) t1 r2 (λt22=>
 (bf.F n t22).bind λr23=>
 some (0,r23))
 else
 j0 n self4700240 self4800241 self4900270 self5000286 true t1 r2 (λt24=>
 (bf.F n t24).bind λr25=>
 some (0,r25))
end aj
def df:Nat->(Q7->Option Q3)×Q0×Q0×Q0
 |0=>(λ_=>none,λ_=>none,λ_=>none,λ_=>none)
 |n+1=>(ae.G n (df n).1 (df n).2.1 (df n).2.2.1 (df n).2.2.2,af.G n (df n).1 (df n).2.1 (df n).2.2.1 (df n).2.2.2,ak.G n (df n).1 (df n).2.1 (df n).2.2.1 (df n).2.2.2,aj.G n (df n).1 (df n).2.1 (df n).2.2.1 (df n).2.2.2)
namespace ae
def code:Code:=Tryz.f240.body.getD .skip
def F (n:Nat):Q7->Option Q3:=(df n).1
abbrev ash:List ASh:=[.mp Qa QI]
abbrev rsh:List RSh:=[.ro Qy,.out Qa]
def ent (n:Nat):ij:=⟨ash,rsh,λv=>F n v.1⟩
end ae
namespace af
def code:Code:=Tryz.f241.body.getD .skip
def F (n:Nat):Q7->Option Q6:=(df n).2.1
abbrev ash:List ASh:=[.mp Qa QI]
abbrev rsh:List RSh:=[.ro QA,.out Qa]
def ent (n:Nat):ij:=⟨ash,rsh,λv=>F n v.1⟩
end af
namespace ak
def code:Code:=Tryz.f270.body.getD .skip
def F (n:Nat):Q7->Option Q6:=(df n).2.2.1
abbrev ash:List ASh:=[.mp Qa QI]
abbrev rsh:List RSh:=[.ro QA,.out Qa]
def ent (n:Nat):ij:=⟨ash,rsh,λv=>F n v.1⟩
end ak
namespace aj
def code:Code:=Tryz.f286.body.getD .skip
def F (n:Nat):Q7->Option Q6:=(df n).2.2.2
abbrev ash:List ASh:=[.mp Qa QI]
abbrev rsh:List RSh:=[.ro QA,.out Qa]
def ent (n:Nat):ij:=⟨ash,rsh,λv=>F n v.1⟩
end aj
namespace ae
def cx (n:Nat):fS:=jD Jp TYS [(190,bl.E.e n),(188,aB.E.e n),(124,dk.E.e n),(240,ae.ent n),(241,af.ent n),(270,ak.ent n),(286,aj.ent n)]
def d:rx:=⟨code,21,.nil,[(.tmp 2,.sl QA,.ro)]⟩
def kr (n:Nat)(v:jB ash):KN rsh:=jK (cx n) d (eG ash v) (ip rsh)
def b0:Code:=Jn (Jn (Jn (Jl (Jl code))))
def an:An:=.seq .nil (.seq (.reg [(6,.own .ro)]) (.seq (.block (some [0,3]) (.cut 0 [0,3])) Vh))
def an0:An:=.seq Vi (.block (some [0,3]) .nil)
abbrev sh0:ES:=⟨[(0,.pt 0 []),(3,.al 3 [])],[⟨0,.st Qb,.pr .ro QL,true,true,none⟩,⟨3,.sl QA,.own .ro,false,false,none⟩]⟩
abbrev sh0_0:ES:=⟨[(0,.pt 0 []),(3,.al 3 [])],[⟨0,.st Qb,.pr .ro QL,true,true,none⟩,⟨3,.sl QA,.own .ro,false,false,none⟩]⟩
def g0 (n m:Nat)(x:sh0.V)(kn:KN rsh)(kx:KX rsh):Option (jL rsh):=l0 n (ae.F n) (af.F n) (ak.F n) (aj.F n) (λy0 y1=>kx 0 (sh0_0.enc (((()),(()),()),(y0,y1,())))) m x.2.1 x.2.2.1
def T (n:Nat):sO (jL rsh):=λj e kn kx=>match j with
 |0=>L7 sh0 e λx=>g0 n n x kn kx
 |_=>none
theorem mk (n:Nat)(ih4700240:aq Jp 240 (ae.ent n))(ih4800241:aq Jp 241 (af.ent n))(ih4900270:aq Jp 270 (ak.ent n))(ih5000286:aq Jp 286 (aj.ent n)):lS (cx n):=fJ (mem_cons (bl.E.ok n) (mem_cons (aB.E.ok n) (mem_cons (dk.E.ok n) (mem_cons ih4700240 (mem_cons ih4800241 (mem_cons ih4900270 (mem_cons ih5000286 bD)))))))
theorem u0 (n:Nat)(v:jB ash)(ih4700240:aq Jp 240 (ae.ent n))(ih4800241:aq Jp 241 (af.ent n))(ih4900270:aq Jp 270 (ak.ent n))(ih5000286:aq Jp 286 (aj.ent n)):cQ (cx n) 21 (T n) (kr n v) 0 (.loop b0):=
 kq (n:=n) (CO _) (mk n ih4700240 ih4800241 ih4900270 ih5000286) (MX _) an0 [(0,[0,3])] [0,3] sh0 (g0 n) (λ_ _ _=>rfl) (λ_ _ _=>rfl) (λm x kn kx=>by kernel_rfl) (l:=[]) (by kernel_rfl) (bD)
theorem ok0:aq Jp 240 (ent 0):=gq Tryz.f240 (by kernel_rfl) (by kernel_rfl) (by kernel_rfl) (λ_=>rfl)
theorem okS (n:Nat)(ih4700240:aq Jp 240 (ae.ent n))(ih4800241:aq Jp 241 (af.ent n))(ih4900270:aq Jp 270 (ak.ent n))(ih5000286:aq Jp 286 (aj.ent n)):aq Jp 240 (ent (n+1)):=
 iq (c:=cx n) (e:=ent (n+1)) (d:=d) (CO _) (mk n ih4700240 ih4800241 ih4900270 ih5000286) (MX _) an Tryz.func240 (by kernel_rfl) (T n) (l:=[(0,.loop b0)]) (by kernel_rfl) (λv=>mem_cons (u0 n v ih4700240 ih4800241 ih4900270 ih5000286) bD) (λv=>by kernel_rfl)
end ae
namespace af
def cx (n:Nat):fS:=jD Jp TYS [(236,bQ.E.e n),(271,bm.E.e n),(240,ae.ent n),(241,af.ent n),(270,ak.ent n),(286,aj.ent n)]
def d:rx:=⟨code,32,.nil,[(.tmp 2,.int .i64,.ro)]⟩
def kr (n:Nat)(v:jB ash):KN rsh:=jK (cx n) d (eG ash v) (ip rsh)
def c2:Code:=(Jl (Jl (Jn (Jl (Jn (Jn (Jn (Jl (Jl code)))))))))
def c1:Code:=(Jl (Jn (Jn (Jn (Jl (Jl code))))))
def b0:Code:=Jn (Jn (Jn (Jl (Jl code))))
def an:An:=.seq .nil (.seq .nil (.seq (.block (some [0,3]) (.cut 0 [0,3])) Vm))
def an2:An:=.seq .nil Vm
abbrev sh2:ES:=⟨[(0,.pt 0 []),(3,.v QA),(4,.v QA)],[⟨0,.st Qb,.pr .ro QL,true,true,none⟩]⟩
abbrev sh2_n:ES:=⟨[(0,.pt 0 []),(3,.v QA)],[⟨0,.st Qb,.pr .ro QL,true,true,none⟩]⟩
def an1:An:=.block (some [0,3]) (.seq .nil (.seq Vi (.cut 2 [0,3,4])))
abbrev sh1:ES:=⟨[(0,.pt 0 []),(3,.v QA)],[⟨0,.st Qb,.pr .ro QL,true,true,none⟩]⟩
abbrev sh1_n:ES:=⟨[(0,.pt 0 []),(3,.v QA)],[⟨0,.st Qb,.pr .ro QL,true,true,none⟩]⟩
def an0:An:=.seq Vi (.cut 1 [0,3])
abbrev sh0:ES:=⟨[(0,.pt 0 []),(3,.v QA)],[⟨0,.st Qb,.pr .ro QL,true,true,none⟩]⟩
abbrev sh0_0:ES:=⟨[(0,.pt 0 []),(3,.v QA)],[⟨0,.st Qb,.pr .ro QL,true,true,none⟩]⟩
def g2 (n m:Nat)(x:sh2.V)(kn:KN rsh)(kx:KX rsh):Option (jL rsh):=j2 n (ae.F n) (af.F n) (ak.F n) (aj.F n) x.1.2.1 x.1.2.2.1 x.2.1 (λy0 y1=>kn (sh2_n.enc (((()),y0,()),(y1,()))))
def g1 (n m:Nat)(x:sh1.V)(kn:KN rsh)(kx:KX rsh):Option (jL rsh):=j1 n (ae.F n) (af.F n) (ak.F n) (aj.F n) x.1.2.1 x.2.1 (λy0 y1=>kn (sh1_n.enc (((()),y0,()),(y1,()))))
def g0 (n m:Nat)(x:sh0.V)(kn:KN rsh)(kx:KX rsh):Option (jL rsh):=l0 n (ae.F n) (af.F n) (ak.F n) (aj.F n) (λy0 y1=>kx 0 (sh0_0.enc (((()),y0,()),(y1,())))) m x.1.2.1 x.2.1
def T (n:Nat):sO (jL rsh):=λj e kn kx=>match j with
 |2=>L7 sh2 e λx=>g2 n n x kn kx
 |1=>L7 sh1 e λx=>g1 n n x kn kx
 |0=>L7 sh0 e λx=>g0 n n x kn kx
 |_=>none
theorem mk (n:Nat)(ih4700240:aq Jp 240 (ae.ent n))(ih4800241:aq Jp 241 (af.ent n))(ih4900270:aq Jp 270 (ak.ent n))(ih5000286:aq Jp 286 (aj.ent n)):lS (cx n):=fJ (mem_cons (bQ.E.ok n) (mem_cons (bm.E.ok n) (mem_cons ih4700240 (mem_cons ih4800241 (mem_cons ih4900270 (mem_cons ih5000286 bD))))))
theorem u2 (n:Nat)(v:jB ash)(ih4700240:aq Jp 240 (ae.ent n))(ih4800241:aq Jp 241 (af.ent n))(ih4900270:aq Jp 270 (ak.ent n))(ih5000286:aq Jp 286 (aj.ent n)):cQ (cx n) 32 (T n) (kr n v) 2 (c2):=
 jr (CO _) (mk n ih4700240 ih4800241 ih4900270 ih5000286) (MX _) an2 [(0,[0,3]),(1,[0,3])] [0,3] sh2 (g2 n n) (λ_ _ _=>rfl) (λx kn kx=>by kernel_rfl) (l:=[]) (by kernel_rfl) (bD)
theorem u1 (n:Nat)(v:jB ash)(ih4700240:aq Jp 240 (ae.ent n))(ih4800241:aq Jp 241 (af.ent n))(ih4900270:aq Jp 270 (ak.ent n))(ih5000286:aq Jp 286 (aj.ent n)):cQ (cx n) 32 (T n) (kr n v) 1 (c1):=
 jr (CO _) (mk n ih4700240 ih4800241 ih4900270 ih5000286) (MX _) an1 [(0,[0,3])] [0,3] sh1 (g1 n n) (λ_ _ _=>rfl) (λx kn kx=>by kernel_rfl) (l:=[(2,c2)]) (by kernel_rfl) (mem_cons (u2 n v ih4700240 ih4800241 ih4900270 ih5000286) bD)
theorem u0 (n:Nat)(v:jB ash)(ih4700240:aq Jp 240 (ae.ent n))(ih4800241:aq Jp 241 (af.ent n))(ih4900270:aq Jp 270 (ak.ent n))(ih5000286:aq Jp 286 (aj.ent n)):cQ (cx n) 32 (T n) (kr n v) 0 (.loop b0):=
 kq (n:=n) (CO _) (mk n ih4700240 ih4800241 ih4900270 ih5000286) (MX _) an0 [(0,[0,3])] [0,3] sh0 (g0 n) (λ_ _ _=>rfl) (λ_ _ _=>rfl) (λm x kn kx=>by kernel_rfl) (l:=[(1,c1)]) (by kernel_rfl) (mem_cons (u1 n v ih4700240 ih4800241 ih4900270 ih5000286) bD)
theorem ok0:aq Jp 241 (ent 0):=gq Tryz.f241 (by kernel_rfl) (by kernel_rfl) (by kernel_rfl) (λ_=>rfl)
theorem okS (n:Nat)(ih4700240:aq Jp 240 (ae.ent n))(ih4800241:aq Jp 241 (af.ent n))(ih4900270:aq Jp 270 (ak.ent n))(ih5000286:aq Jp 286 (aj.ent n)):aq Jp 241 (ent (n+1)):=
 iq (c:=cx n) (e:=ent (n+1)) (d:=d) (CO _) (mk n ih4700240 ih4800241 ih4900270 ih5000286) (MX _) an Tryz.func241 (by kernel_rfl) (T n) (l:=[(0,.loop b0)]) (by kernel_rfl) (λv=>mem_cons (u0 n v ih4700240 ih4800241 ih4900270 ih5000286) bD) (λv=>by kernel_rfl)
end af
namespace ak
def cx (n:Nat):fS:=jD Jp TYS [(188,aB.E.e n),(271,bm.E.e n),(240,ae.ent n),(241,af.ent n),(270,ak.ent n),(286,aj.ent n)]
def d:rx:=⟨code,17,.nil,[(.tmp 2,.int .i64,.ro)]⟩
def kr (n:Nat)(v:jB ash):KN rsh:=jK (cx n) d (eG ash v) (ip rsh)
def b0:Code:=Jn (Jn (Jn (Jl (Jl code))))
def an:An:=.seq .nil (.seq .nil (.seq (.block (some [0,3]) (.cut 0 [0,3])) Vm))
def an0:An:=.seq Vi (.block (some [0,3]) Vm)
abbrev sh0:ES:=⟨[(0,.pt 0 []),(3,.v QA)],[⟨0,.st Qb,.pr .ro QL,true,true,none⟩]⟩
abbrev sh0_0:ES:=⟨[(0,.pt 0 []),(3,.v QA)],[⟨0,.st Qb,.pr .ro QL,true,true,none⟩]⟩
def g0 (n m:Nat)(x:sh0.V)(kn:KN rsh)(kx:KX rsh):Option (jL rsh):=l0 n (ae.F n) (af.F n) (ak.F n) (aj.F n) (λy0 y1=>kx 0 (sh0_0.enc (((()),y0,()),(y1,())))) m x.1.2.1 x.2.1
def T (n:Nat):sO (jL rsh):=λj e kn kx=>match j with
 |0=>L7 sh0 e λx=>g0 n n x kn kx
 |_=>none
theorem mk (n:Nat)(ih4700240:aq Jp 240 (ae.ent n))(ih4800241:aq Jp 241 (af.ent n))(ih4900270:aq Jp 270 (ak.ent n))(ih5000286:aq Jp 286 (aj.ent n)):lS (cx n):=fJ (mem_cons (aB.E.ok n) (mem_cons (bm.E.ok n) (mem_cons ih4700240 (mem_cons ih4800241 (mem_cons ih4900270 (mem_cons ih5000286 bD))))))
theorem u0 (n:Nat)(v:jB ash)(ih4700240:aq Jp 240 (ae.ent n))(ih4800241:aq Jp 241 (af.ent n))(ih4900270:aq Jp 270 (ak.ent n))(ih5000286:aq Jp 286 (aj.ent n)):cQ (cx n) 17 (T n) (kr n v) 0 (.loop b0):=
 kq (n:=n) (CO _) (mk n ih4700240 ih4800241 ih4900270 ih5000286) (MX _) an0 [(0,[0,3])] [0,3] sh0 (g0 n) (λ_ _ _=>rfl) (λ_ _ _=>rfl) (λm x kn kx=>by kernel_rfl) (l:=[]) (by kernel_rfl) (bD)
theorem ok0:aq Jp 270 (ent 0):=gq Tryz.f270 (by kernel_rfl) (by kernel_rfl) (by kernel_rfl) (λ_=>rfl)
theorem okS (n:Nat)(ih4700240:aq Jp 240 (ae.ent n))(ih4800241:aq Jp 241 (af.ent n))(ih4900270:aq Jp 270 (ak.ent n))(ih5000286:aq Jp 286 (aj.ent n)):aq Jp 270 (ent (n+1)):=
 iq (c:=cx n) (e:=ent (n+1)) (d:=d) (CO _) (mk n ih4700240 ih4800241 ih4900270 ih5000286) (MX _) an Tryz.func270 (by kernel_rfl) (T n) (l:=[(0,.loop b0)]) (by kernel_rfl) (λv=>mem_cons (u0 n v ih4700240 ih4800241 ih4900270 ih5000286) bD) (λv=>by kernel_rfl)
end ak
namespace aj
def cx (n:Nat):fS:=jD Jp TYS [(120,bR.E.e n),(185,bn.E.e n),(237,bh.E.e n),(189,cX.E.e n),(238,bf.E.e n),(190,bl.E.e n),(188,aB.E.e n),(271,bm.E.e n),(240,ae.ent n),(241,af.ent n),(270,ak.ent n),(286,aj.ent n)]
def d:rx:=⟨code,106,.nil,[(.tmp 2,.int .i64,.ro)]⟩
def kr (n:Nat)(v:jB ash):KN rsh:=jK (cx n) d (eG ash v) (ip rsh)
def c0:Code:=(Jl (Jl (Jl (Jn (Jn (Jl (Jl code)))))))
def an:An:=.seq .nil (.seq .nil (.seq (.block (some [0]) (.seq .nil (.cond Vm (.seq .nil (.cut 0 [0,3,16]))))) Vk))
def an0:An:=.cond Vk (.seq .nil (.cond Vh (.seq .nil (.cond Vk (.seq .nil (.cond Vm (.seq .nil (.cond W1 W6))))))))
abbrev sh0:ES:=⟨[(0,.pt 0 []),(3,.pt 3 []),(16,.v .bool)],[⟨0,.st Qb,.pr .ro QL,true,true,none⟩,⟨3,.st Qu,.ro,true,false,none⟩]⟩
abbrev sh0_n:ES:=⟨[(0,.pt 0 [])],[⟨0,.st Qb,.pr .ro QL,true,true,none⟩]⟩
def g0 (n m:Nat)(x:sh0.V)(kn:KN rsh)(kx:KX rsh):Option (jL rsh):=j0 n (ae.F n) (af.F n) (ak.F n) (aj.F n) x.1.2.2.1 x.2.1 x.2.2.1 (λy0=>kn (sh0_n.enc (((()),()),(y0,()))))
def T (n:Nat):sO (jL rsh):=λj e kn kx=>match j with
 |0=>L7 sh0 e λx=>g0 n n x kn kx
 |_=>none
theorem mk (n:Nat)(ih4700240:aq Jp 240 (ae.ent n))(ih4800241:aq Jp 241 (af.ent n))(ih4900270:aq Jp 270 (ak.ent n))(ih5000286:aq Jp 286 (aj.ent n)):lS (cx n):=fJ (mem_cons (bR.E.ok n) (mem_cons (bn.E.ok n) (mem_cons (bh.E.ok n) (mem_cons (cX.E.ok n) (mem_cons (bf.E.ok n) (mem_cons (bl.E.ok n) (mem_cons (aB.E.ok n) (mem_cons (bm.E.ok n) (mem_cons ih4700240 (mem_cons ih4800241 (mem_cons ih4900270 (mem_cons ih5000286 bD))))))))))))
theorem u0 (n:Nat)(v:jB ash)(ih4700240:aq Jp 240 (ae.ent n))(ih4800241:aq Jp 241 (af.ent n))(ih4900270:aq Jp 270 (ak.ent n))(ih5000286:aq Jp 286 (aj.ent n)):cQ (cx n) 106 (T n) (kr n v) 0 (c0):=
 jr (CO _) (mk n ih4700240 ih4800241 ih4900270 ih5000286) (MX _) an0 [(0,[0])] [0] sh0 (g0 n n) (λ_ _ _=>rfl) (λx kn kx=>by kernel_rfl) (l:=[]) (by kernel_rfl) (bD)
theorem ok0:aq Jp 286 (ent 0):=gq Tryz.f286 (by kernel_rfl) (by kernel_rfl) (by kernel_rfl) (λ_=>rfl)
theorem okS (n:Nat)(ih4700240:aq Jp 240 (ae.ent n))(ih4800241:aq Jp 241 (af.ent n))(ih4900270:aq Jp 270 (ak.ent n))(ih5000286:aq Jp 286 (aj.ent n)):aq Jp 286 (ent (n+1)):=
 iq (c:=cx n) (e:=ent (n+1)) (d:=d) (CO _) (mk n ih4700240 ih4800241 ih4900270 ih5000286) (MX _) an Tryz.func286 (by kernel_rfl) (T n) (l:=[(0,c0)]) (by kernel_rfl) (λv=>mem_cons (u0 n v ih4700240 ih4800241 ih4900270 ih5000286) bD) (λv=>by kernel_rfl)
end aj
theorem nL:(n:Nat)->aq Jp 240 (ae.ent n)/\aq Jp 241 (af.ent n)/\aq Jp 270 (ak.ent n)/\aq Jp 286 (aj.ent n)
 |0=>⟨ae.ok0,af.ok0,ak.ok0,aj.ok0⟩
 |n+1=>have ih:=nL n;⟨ae.okS n ih.1 ih.2.1 ih.2.2.1 ih.2.2.2,af.okS n ih.1 ih.2.1 ih.2.2.1 ih.2.2.2,ak.okS n ih.1 ih.2.1 ih.2.2.1 ih.2.2.2,aj.okS n ih.1 ih.2.1 ih.2.2.1 ih.2.2.2⟩
theorem ae.ok (n:Nat):aq Jp 240 (ae.ent n):=(nL n).1
def ae.E:En:=⟨240,ae.ent,ae.ok⟩
theorem af.ok (n:Nat):aq Jp 241 (af.ent n):=(nL n).2.1
def af.E:En:=⟨241,af.ent,af.ok⟩
end
end Go.Abs
