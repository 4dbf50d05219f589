/- The functions, and that a call of each comes to it. Conditions: none. -/
import Derived.Test.YtkelpajcfmghiaaGreatDoorF0
open ByteArray renaming empty → Jq,extract → JO,size → Js
open Go.Abs renaming seq → Km
open Go.Abs.Code renaming l → JA,r → Jy
open Go.Abs.ES renaming on → Mm
open Go.IntKind renaming i64 → Ju,u8 → Mn
open Go.Proofs.Tryz renaming prog → JC
open Int renaming toNat → Jt
open List renaming getD → Jv,length → Jr,replicate → Kq,set → KO
set_option linter.unusedVariables false
set_option linter.unusedSimpArgs false
namespace Go.Abs
noncomputable section
open Go.Proofs
namespace cO
def F (n:Nat)(r1:Q7)(kind2:Int):Option Q1:=
 (de.F n r1 1).bind λr3=>
 (bl.F n r3.2 ⟨#[40]⟩).bind λr4=>
 (aB.F n r4 ⟨#[41]⟩).bind λr5=>
 if(!r5.1)=true then
 (ae.F n r5.2).bind λr6=>
 some ((kind2,(r3.1,r6.1)),r6.2)
 else
 some ((kind2,(r3.1,[])),r5.2)
def code:=Tryz.f193.body.getD .skip
abbrev ash:List ASh:=[.mp Qa QI,.ro QA]
abbrev rsh:List RSh:=[.ro Qn,.out Qa]
def B:Bd:=⟨ash,rsh,[de.E,bl.E,aB.E,ae.E],⟨code,19,.nil,[(.cell 4 31,.st Qr,.ro)]⟩,[]⟩
def E:En:=⟨193,λn=>⟨B.a,B.r,λv=>F n v.1 v.2.1⟩,cD B (.seq .nil W0) Tryz.func193 mn⟩
end cO
namespace bh
def l1 (n:Nat)(t11:Int)(t12:WL)(t13:Int)(t15:Q7)(t16:WG)(K0:WG->Option Q1):Nat->Int->WG->Option Q1
 |0,_,_=>none
 |k+1,t14,t17=>
 if decide (t14<t13)=true then
 if(0:Int)<=t14/\t14<(Jr t12:Int)then
 (bT.F n t15 (Jv t12 (Jt t14) Jq)).bind λr18=>
 if r18=true then
 l1 n t11 t12 t13 t15 t16 K0 k (Ju.wrap (t14+1)) (t17.1,(Jv t12 (Jt t14) Jq,t17.2.2))
 else
 l1 n t11 t12 t13 t15 t16 K0 k (Ju.wrap (t14+1)) t17
 else
 none
 else
 K0 t17
def j0 (n:Nat)(t8:Q7)(t9:WG):Option Q1:=
 (af.F n t8).bind λr10=>
 l1 n r10.1 ([⟨#[61]⟩,⟨#[33,61]⟩,⟨#[60]⟩,⟨#[60,61]⟩]:WL) (Jr ([⟨#[61]⟩,⟨#[33,61]⟩,⟨#[60]⟩,⟨#[60,61]⟩]:WL):Int) r10.2 t9 (λt19=>
 if(Km t19.2.1 Jq)=true then
 (bg.F n r10.2).bind λr20=>
 some (t19,r20)
 else
 (af.F n (r10.2.1,(Ju.wrap (r10.2.2.1+1),r10.2.2.2))).bind λr21=>
 some ((t19.1,(t19.2.1,[r10.1,r21.1])),r21.2)) n 0 (3,(Jq,[]))
def F (n:Nat)(t1:Q7):Option Q1:=
 (aB.F n t1 ⟨#[33]⟩).bind λr2=>
 if r2.1=true then
 (cO.F n r2.2 2).bind λr3=>
 some (r3.1,r3.2)
 else
 (bi.F n r2.2 0).bind λr4=>
 if(decide (r4.1=1))=true then
 (bi.F n r2.2 1).bind λr5=>
 if(decide (r5.1=5))=true then
 (bi.F n r2.2 1).bind λr6=>
 if(Km r6.2.1 ⟨#[40]⟩)=true then
 (cO.F n r2.2 1).bind λr7=>
 some (r7.1,r7.2)
 else
 j0 n r2.2 (0,(Jq,[]))
 else
 j0 n r2.2 (0,(Jq,[]))
 else
 j0 n r2.2 (0,(Jq,[]))
def code:=Tryz.f194.body.getD .skip
abbrev ash:List ASh:=[.mp Qa QI]
abbrev rsh:List RSh:=[.ro Qn,.out Qa]
def c0:=Jy (Jy (Jy code))
def b1:=JA (JA (Jy (JA (Jy (Jy c0)))))
abbrev sh1:ES:=⟨[(0,.pt 0 []),(2,.pt 2 []),(3,.pt 3 []),(4,.v QA),(33,.v Qz),(34,.v QA),(35,.v QA)],[⟨0,.st Qb,.pr .ro QL,true,true,none⟩,⟨2,.st Qr,.ro,true,false,none⟩,⟨3,.st Qr,.ro,true,false,none⟩]⟩
abbrev sh1_0:ES:=⟨[(0,.pt 0 []),(2,.pt 2 []),(3,.pt 3 []),(4,.v QA)],[⟨0,.st Qb,.pr .ro QL,true,true,none⟩,⟨2,.st Qr,.ro,true,false,none⟩,⟨3,.st Qr,.ro,true,false,none⟩]⟩
abbrev sh0:ES:=⟨[(0,.pt 0 []),(2,.pt 2 [])],[⟨0,.st Qb,.pr .ro QL,true,true,none⟩,⟨2,.st Qr,.ro,true,false,none⟩]⟩
def g1:GL rsh sh1:=λn m x kn kx=>l1 n x.1.2.2.2.1 x.1.2.2.2.2.1 x.1.2.2.2.2.2.1 x.2.1 x.2.2.1 (λy0=>kx 0 (sh1_0.enc (((()),(()),(()),x.1.2.2.2.1,()),(x.2.1,x.2.2.1,y0,())))) m x.1.2.2.2.2.2.2.1 x.2.2.2.1
def g0:GL rsh sh0:=λn m x kn kx=>j0 n x.2.1 x.2.2.1
def B:Bd:=⟨ash,rsh,[bT.E,bi.E,cO.E,bg.E,aB.E,af.E],⟨code,65,.nil,[(.cell 2 31,.st Qr,.ro)]⟩,[⟨1,sh1,g1⟩,⟨0,sh0,g0⟩]⟩
theorem u1:UO B 1 (.loop b1):=
 lu (.seq .nil (.seq Vl (.seq (.block (some [0,2,3,4,33,34,35]) Ve) .nil))) [(0,[0,2,3,4])] [0,2,3,4,33,34,35] sh1 g1 mn
theorem u0:UO B 0 c0:=
 ju (.seq .nil (.seq .nil (.seq (.seq .nil (.block (some [0,2,3,4]) (.cut 1 [0,2,3,4,33,34,35]))) (.seq W9 Vd)))) [] [0,2] sh0 g0 (mc u1 mn)
def E:En:=⟨194,λn=>⟨B.a,B.r,λv=>F n v.1⟩,cD B (.seq .nil (.seq Vf (.seq Vf (.cut 0 [0,2])))) Tryz.func194 (mc u0 mn)⟩
end bh
namespace av
def l0 (n:Nat)(K3:Q7->Ww->Option Q7):Nat->Q7->Ww->Option Q7
 |0,_,_=>none
 |k+1,t6,t7=>
 (aU.F n t6 ⟨#[124]⟩).bind λr8=>
 if r8.1=true then
 (dm.F n r8.2).bind λr9=>
 if Jr t7.2+Jr [r9.1]<=aT then
 l0 n K3 k r9.2 (t7.1,t7.2++[r9.1])
 else
 none
 else
 K3 r8.2 t7
def l2 (n:Nat)(t21:WL)(t22:Int)(K5:Q7->WC->Option Q7):Nat->Int->Q7->WC->Option Q7
 |0,_,_,_=>none
 |k+1,t23,t24,t25=>
 if decide (t23<t22)=true then
 if(0:Int)<=t23/\t23<(Jr t21:Int)then
 if(decide (t25.2.2=0))=true then
 (aU.F n t24 (Jv t21 (Jt t23) Jq)).bind λr26=>
 if r26.1=true then
 l2 n t21 t22 K5 k (Ju.wrap (t23+1)) r26.2 (t25.1,(t25.2.1,Ju.wrap (t23+1)))
 else
 l2 n t21 t22 K5 k (Ju.wrap (t23+1)) r26.2 t25
 else
 l2 n t21 t22 K5 k (Ju.wrap (t23+1)) t24 t25
 else
 none
 else
 K5 t24 t25
def j1 (n:Nat)(t19:Q7)(t20:WC)(Kn:Q7->Option Q7):Option Q7:=
 l2 n ([⟨#[105,110,112,117,116]⟩,⟨#[111,117,116,112,117,116]⟩,⟨#[105,110,108,105,110,101]⟩]:WL) (Jr ([⟨#[105,110,112,117,116]⟩,⟨#[111,117,116,112,117,116]⟩,⟨#[105,110,108,105,110,101]⟩]:WL):Int) (λt27 t28=>
 (bp.F n t27 ⟨#[46]⟩).bind λr29=>
 if Jr r29.2.2.2.2.2.2.2.2.1+Jr [t28]<=aT then
 Kn (r29.1,(r29.2.1,(r29.2.2.1,(r29.2.2.2.1,(r29.2.2.2.2.1,(r29.2.2.2.2.2.1,(r29.2.2.2.2.2.2.1,(r29.2.2.2.2.2.2.2.1,(r29.2.2.2.2.2.2.2.2.1++[t28],r29.2.2.2.2.2.2.2.2.2)))))))))
 else
 none) n 0 t19 t20
def l3 (n:Nat)(K1:Q7->Wk->Option Q7):Nat->Q7->Wk->Option Q7
 |0,_,_=>none
 |k+1,t35,t36=>
 (aB.F n t35 ⟨#[44]⟩).bind λr37=>
 if r37.1=true then
 (bh.F n r37.2).bind λr38=>
 if Jr t36.2.2+Jr [r38.1]<=aT then
 l3 n K1 k r38.2 (t36.1,(t36.2.1,t36.2.2++[r38.1]))
 else
 none
 else
 K1 r37.2 t36
def j4 (n:Nat)(t41:Q7)(t42:Wk)(Kn:Q7->Option Q7):Option Q7:=
 (bl.F n t41 ⟨#[46]⟩).bind λr43=>
 (aW.F n r43 (Jr t42.2.2:Int) 12).bind λr44=>
 (aW.F n r44 (Jr r43.2.2.2.2.2.2.1:Int) 60).bind λr45=>
 if Jr r45.2.2.2.2.2.2.2.2.2+Jr [(r43.2.2.2.2.2.2.1,t42.2)]<=aT then
 Kn (r45.1,(r45.2.1,(r45.2.2.1,(r45.2.2.2.1,(r45.2.2.2.2.1,(r45.2.2.2.2.2.1,(r45.2.2.2.2.2.2.1,(r45.2.2.2.2.2.2.2.1,(r45.2.2.2.2.2.2.2.2.1,r45.2.2.2.2.2.2.2.2.2++[(r43.2.2.2.2.2.2.1,t42.2)])))))))))
 else
 none
def F (n:Nat)(t1:Q7):Option Q7:=
 (aU.F n t1 ⟨#[116,121,112,101]⟩).bind λr2=>
 if r2.1=true then
 (bE.F n r2.2 2).bind λr3=>
 (bp.F n r3.2 ⟨#[61]⟩).bind λr4=>
 (dm.F n r4).bind λr5=>
 if Jr ([]:WE)+Jr [r5.1]<=aT then
 l0 n (λt10 t11=>
 (bp.F n t10 ⟨#[46]⟩).bind λr12=>
 (aW.F n r12 (Jr t11.2:Int) 12).bind λr13=>
 if Jr r13.2.2.2.2.2.2.2.1+Jr [t11]<=aT then
 some (r13.1,(r13.2.1,(r13.2.2.1,(r13.2.2.2.1,(r13.2.2.2.2.1,(r13.2.2.2.2.2.1,(r13.2.2.2.2.2.2.1,(r13.2.2.2.2.2.2.2.1++[t11],r13.2.2.2.2.2.2.2.2))))))))
 else
 none) n r5.2 (r3.1,[]++[r5.1])
 else
 none
 else
 (aU.F n r2.2 ⟨#[114,101,108]⟩).bind λr14=>
 if r14.1=true then
 (bE.F n r14.2 1).bind λr15=>
 (bp.F n r15.2 ⟨#[40]⟩).bind λr16=>
 (aU.F n r16 ⟨#[41]⟩).bind λr17=>
 if(!r17.1)=true then
 (bu.F n r17.2).bind λr18=>
 j1 n r18.2 (r15.1,(r18.1,0)) (λt30=>
 some t30)
 else
 j1 n r17.2 (r15.1,([],0)) (λt31=>
 some t31)
 else
 (cO.F n (r14.2.1,(r14.2.2.1,(r14.2.2.2.1,(r14.2.2.2.2.1,(r14.2.2.2.2.2.1,(r14.2.2.2.2.2.2.1,([],r14.2.2.2.2.2.2.2.2))))))) 1).bind λr32=>
 (aB.F n r32.2 ⟨#[58,45]⟩).bind λr33=>
 if r33.1=true then
 (bh.F n r33.2).bind λr34=>
 if Jr ([]:WD)+Jr [r34.1]<=aT then
 l3 n (λt39 t40=>
 j4 n t39 t40 (λt46=>
 some t46)) n r34.2 ([],(r32.1,[]++[r34.1]))
 else
 none
 else
 j4 n r33.2 ([],(r32.1,[])) (λt47=>
 some t47)
def code:=Tryz.f123.body.getD .skip
abbrev ash:List ASh:=[.mp Qa QK]
abbrev rsh:List RSh:=[.out Qa]
def c1:=Jy (Jy (Jy (JA (Jy (Jy (Jy (JA code)))))))
def b0:=JA (JA (JA (Jy (Jy (Jy (JA (Jy (JA code))))))))
def c4:=Jy (Jy (Jy (Jy (Jy (Jy (Jy (Jy (JA code))))))))
def b2:=JA (JA (Jy (JA c1)))
def b3:=JA (JA (Jy (JA (Jy (JA (Jy (Jy (Jy (Jy (Jy (Jy (Jy (JA code)))))))))))))
abbrev sh0:ES:=⟨[(0,.pt 0 []),(2,.pt 2 [])],[⟨0,.st Qb,.pr .ro QM,true,true,none⟩,⟨2,.st Qp,.pr .ro QZ,true,false,none⟩]⟩
abbrev sh2:ES:=⟨[(0,.pt 0 []),(3,.pt 3 []),(119,.v Qz),(120,.v QA),(121,.v QA)],[⟨0,.st Qb,.pr .ro QM,true,true,none⟩,⟨3,.st Qt,.ro,true,false,none⟩]⟩
abbrev sh2_5:ES:=⟨[(0,.pt 0 []),(3,.pt 3 [])],[⟨0,.st Qb,.pr .ro QM,true,true,none⟩,⟨3,.st Qt,.ro,true,false,none⟩]⟩
abbrev sh1_n:ES:=⟨[(0,.pt 0 [])],[⟨0,.st Qb,.pr .ro QM,true,true,none⟩]⟩
abbrev sh3:ES:=⟨[(0,.pt 0 []),(6,.pt 6 [])],[⟨0,.st Qb,.pr .ro QL,true,true,none⟩,⟨6,.st Qg,.pr .ro QX,true,false,none⟩]⟩
def g0:GL rsh sh0:=λn m x kn kx=>l0 n (λy0 y1=>kx 3 (sh0.enc (((()),(()),()),(y0,y1,())))) m x.2.1 x.2.2.1
def g2:GL rsh sh2:=λn m x kn kx=>l2 n x.1.2.2.1 x.1.2.2.2.1 (λy0 y1=>kx 5 (sh2_5.enc (((()),(()),()),(y0,y1,())))) m x.1.2.2.2.2.1 x.2.1 x.2.2.1
def g1:GL rsh sh2_5:=λn m x kn kx=>j1 n x.2.1 x.2.2.1 (λy0=>kn (sh1_n.enc (((()),()),(y0,()))))
def g3:GL rsh sh3:=λn m x kn kx=>l3 n (λy0 y1=>kx 1 (sh3.enc (((()),(()),()),(y0,y1,())))) m x.2.1 x.2.2.1
def g4:GL rsh sh3:=λn m x kn kx=>j4 n x.2.1 x.2.2.1 (λy0=>kn (sh1_n.enc (((()),()),(y0,()))))
def B:Bd:=⟨ash,rsh,[aU.E,bE.E,bp.E,dm.E,bu.E,aW.E,cO.E,bl.E,aB.E,bh.E],⟨code,152,.nil,[]⟩,[⟨0,sh0,g0⟩,⟨2,sh2,g2⟩,⟨1,sh2_5,g1⟩,⟨3,sh3,g3⟩,⟨4,sh3,g4⟩]⟩
theorem u0:UO B 0 (.loop b0):=
 lu (.seq Vi (.block (some [0,2]) .nil)) [(0,[0]),(3,[0,2])] [0,2] sh0 g0 mn
theorem u2:UO B 2 (.loop b2):=
 lu (.seq .nil (.seq Vl (.seq (.block (some [0,3,119,120,121]) Ve) .nil))) [(0,[0]),(5,[0,3])] [0,3,119,120,121] sh2 g2 mn
theorem u1:UO B 1 c1:=
 ju (.seq (.seq .nil (.block (some [0,3]) (.cut 2 [0,3,119,120,121]))) Vm) [(0,[0])] [0] sh2_5 g1 (mc u2 mn)
theorem u3:UO B 3 (.loop b3):=
 lu (.seq Vi (.block (some [0,6]) .nil)) [(0,[0]),(1,[0,6])] [0,6] sh3 g3 mn
theorem u4:UO B 4 c4:=
 ju (.seq .nil (.seq (.reg [(38,.ro)]) (.seq .nil (.seq .nil (.reg [(56,.ro)]))))) [(0,[0])] [0] sh3 g4 mn
def E:En:=⟨123,λn=>⟨B.a,B.r,λv=>F n v.1⟩,cD B (.block (some [0]) (.seq .nil (.cond (.seq (.reg [(67,.pr .ro QZ),(2,.pr .ro QZ)]) (.seq .nil (.seq .nil (.seq (.block (some [0,2]) (.cut 0 [0,2])) (.seq .nil (.seq .nil (.reg [(99,.ro)]))))))) (.seq .nil (.cond (.seq .nil (.seq .nil (.seq Vi (.cut 1 [0,3])))) (.seq (.reg [(7,.pr .ro QX),(6,.pr .ro QX)]) (.seq (.reg [(9,.own .ro)]) (.seq .nil (.seq (.seq .nil (.cond (.seq .nil (.block (some [0,6]) (.cut 3 [0,6]))) .nil)) (.cut 4 [0,6])))))))))) Tryz.func123 (mc u0 (mc u1 (mc u3 (mc u4 mn))))⟩
end av
namespace ea
def l0 (n:Nat)(t3:WF)(t4:Wb)(K0:Q7->Option Q9):Nat->Q7->Option Q9
 |0,_=>none
 |k+1,t5=>
 if(!t5.2.2.2.2.1)=true then
 if decide (t5.2.1<(Jr t3:Int))=true then
 (av.F n t5).bind λr6=>
 l0 n t3 t4 K0 k r6
 else
 K0 t5
 else
 K0 t5
def F (n:Nat)(t1:ByteArray):Option Q9:=
 (az.F n t1).bind λr2=>
 if(!decide (r2.2.2=0))=true then
 some (([],([],[])),r2.2.1,r2.2.2)
 else
 l0 n r2.1 ([],([],[])) (λt7=>
 if t7.2.2.2.2.1=true then
 some (([],([],[])),t7.2.2.2.1,5)
 else
 (aW.F n t7 (Jr t7.2.2.2.2.2.2.2.1:Int) 20).bind λr8=>
 (aW.F n r8 (Jr r8.2.2.2.2.2.2.2.2.1:Int) 20).bind λr9=>
 (aW.F n r9 (Jr r9.2.2.2.2.2.2.2.2.2:Int) 40).bind λr10=>
 if r10.2.2.2.2.2.1=true then
 some (([],([],[])),0,6)
 else
 some (r10.2.2.2.2.2.2.2,0,0)) n (r2.1,(0,((Js t1:Int),(0,(false,(false,([],([],([],[])))))))))
def code:=Tryz.f56.body.getD .skip
abbrev ash:List ASh:=[.ro .str]
abbrev rsh:List RSh:=[.ro Qc,.ro QA,.ro QA]
def b0:=JA (JA (JA (Jy (Jy (Jy (Jy code))))))
abbrev sh0:ES:=⟨[(2,.pt 2 []),(5,.v Qo),(8,.pt 8 [])],[⟨2,.st Qd,.ro,true,false,none⟩,⟨8,.st Qb,.pr .ro QM,true,false,none⟩]⟩
abbrev sh0_0:ES:=⟨[(2,.pt 2 []),(8,.pt 8 [])],[⟨2,.st Qd,.ro,true,false,none⟩,⟨8,.st Qb,.pr .ro QM,true,false,none⟩]⟩
def g0:GL rsh sh0:=λn m x kn kx=>l0 n x.1.2.1 x.2.1 (λy0=>kx 0 (sh0_0.enc (((()),(()),()),(x.2.1,y0,())))) m x.2.2.1
def B:Bd:=⟨ash,rsh,[az.E,av.E,aW.E],⟨code,83,.nil,[(.cell 2 53,.st Qd,.ro),(.tmp 3,.int .i64,.ro),(.tmp 4,.int .i64,.ro)]⟩,[⟨0,sh0,g0⟩]⟩
theorem u0:UO B 0 (.loop b0):=
 lu (.seq Vi (.block (some [2,5,8]) .nil)) [(0,[2,8])] [2,5,8] sh0 g0 mn
def E:En:=⟨56,λn=>⟨B.a,B.r,λv=>F n v.1⟩,cD B (.seq .nil (.seq .nil (.seq Vf (.seq (.reg [(23,.pr .ro QM)]) (.seq (.block (some [2,8]) (.cut 0 [2,5,8])) (.seq Vf (.seq .nil (.seq .nil (.seq .nil (.seq Vf (.seq (.reg [(82,.ro)]) .nil))))))))))) Tryz.func56 (mc u0 mn)⟩
end ea
namespace eE
def F (n:Nat)(t1:Int)(low2:Int)(high3:Int):Option Bool:=
 if(decide (t1>=low2))=true then
 some (decide (t1<=high3))
 else
 some false
def code:=Tryz.f125.body.getD .skip
abbrev ash:List ASh:=[.ro QA,.ro QA,.ro QA]
abbrev rsh:List RSh:=[.ro .bool]
def B:Bd:=⟨ash,rsh,[],⟨code,15,.nil,[(.tmp 6,.bool,.ro)]⟩,[]⟩
def E:En:=⟨125,λn=>⟨B.a,B.r,λv=>F n v.1 v.2.1 v.2.2.1⟩,cD B Vk Tryz.func125 mn⟩
end eE
namespace gZ
def F (n:Nat)(kind1:Int):Option Bool:=
 (eE.F n kind1 5 7).bind λr2=>
 some r2
def code:=Tryz.f177.body.getD .skip
abbrev ash:List ASh:=[.ro QA]
abbrev rsh:List RSh:=[.ro .bool]
def B:Bd:=⟨ash,rsh,[eE.E],⟨code,5,.nil,[(.tmp 2,.bool,.ro)]⟩,[]⟩
def E:En:=⟨177,λn=>⟨B.a,B.r,λv=>F n v.1⟩,cD B Vk Tryz.func177 mn⟩
end gZ
namespace jG
def F (n:Nat)(r1:Wk):Option WD:=
 if Jr [r1.2.1]+Jr r1.2.2<=aT then
 some ([r1.2.1]++r1.2.2)
 else
 none
def code:=Tryz.f109.body.getD .skip
abbrev ash:List ASh:=[.ro Qf]
abbrev rsh:List RSh:=[.ro Qk]
def B:Bd:=⟨ash,rsh,[],⟨code,9,.nil,[(.tmp 2,.sl Qn,.ro)]⟩,[]⟩
def E:En:=⟨109,λn=>⟨B.a,B.r,λv=>F n v.1⟩,cD B (.seq .nil (.seq (.reg [(5,.own .ro)]) .nil)) Tryz.func109 mn⟩
end jG
namespace cL
def l0 (n:Nat)(s3:WN)(f4:(Int×Unit)->Option Bool)(t5:Int)(K0:Unit->Option Int):Nat->Int->Option Int
 |0,_=>none
 |k+1,t6=>
 if decide (t6<t5)=true then
 if(0:Int)<=t6/\t6<(Jr s3:Int)then
 (f4 (Jv s3 (Jt t6) 0,())).bind λr7=>
 if r7=true then
 some t6
 else
 l0 n s3 f4 t5 K0 k (Ju.wrap (t6+1))
 else
 none
 else
 K0 ()
def F (n:Nat)(s1:WN)(f2:(Int×Unit)->Option Bool):Option Int:=
 l0 n s1 f2 (Jr s1:Int) (λ_=>
 some (-1)) n 0
def code:=Tryz.f173.body.getD .skip
abbrev ash:List ASh:=[.ro Qy,.fn [.int .i64] .bool]
abbrev rsh:List RSh:=[.ro QA]
def b0:=JA (JA (Jy (JA (Jy code))))
abbrev sh0:ES:=⟨[(0,.v Qy),(1,.clo [.int .i64] .bool),(7,.v QA),(8,.v QA)],[]⟩
abbrev sh0_0:ES:=⟨[],[]⟩
def g0:GL rsh sh0:=λn m x kn kx=>l0 n x.1.1 x.1.2.1 x.1.2.2.1 (λ_=>kx 0 (sh0_0.enc ((()),(())))) m x.1.2.2.2.1
def B:Bd:=⟨ash,rsh,[],⟨code,19,.nil,[(.tmp 4,.int .i64,.ro)]⟩,[⟨0,sh0,g0⟩]⟩
theorem u0:UO B 0 (.loop b0):=
 lu (.seq .nil (.seq Vl (.seq (.block (some [0,1,7,8]) Va) .nil))) [(0,[])] [0,1,7,8] sh0 g0 mn
def E:En:=⟨173,λn=>⟨B.a,B.r,λv=>F n v.1 v.2.1⟩,cD B (.seq .nil (.seq (.seq .nil (.block (some []) (.cut 0 [0,1,7,8]))) Vm)) Tryz.func173 (mc u0 mn)⟩
end cL
namespace df
def F (n:Nat)(s1:WN)(f2:(Int×Unit)->Option Bool):Option Bool:=
 (cL.F n s1 f2).bind λr3=>
 some (decide (r3>=0))
def code:=Tryz.f100.body.getD .skip
abbrev ash:List ASh:=[.ro Qy,.fn [.int .i64] .bool]
abbrev rsh:List RSh:=[.ro .bool]
def B:Bd:=⟨ash,rsh,[cL.E],⟨code,9,.nil,[(.tmp 4,.bool,.ro)]⟩,[]⟩
def E:En:=⟨100,λn=>⟨B.a,B.r,λv=>F n v.1 v.2.1⟩,cD B Vk Tryz.func100 mn⟩
end df
namespace fE
def F (n:Nat)(t1:Int):Option Bool:=
 some (!decide (t1=1))
def code:=Tryz.f178.body.getD .skip
abbrev ash:List ASh:=[.ro QA]
abbrev rsh:List RSh:=[.ro .bool]
def B:Bd:=⟨ash,rsh,[],⟨code,5,.nil,[(.tmp 2,.bool,.ro)]⟩,[]⟩
def E:En:=⟨178,λn=>⟨B.a,B.r,λv=>F n v.1⟩,cD B Vk Tryz.func178 mn⟩
end fE
namespace bI
def l1 (n:Nat)(t7:Int)(t8:WD)(t9:Int)(t10:Int)(t11:WN)(t12:Int)(t14:Wk)(t16:WG)(K2:WN->Option Bool):Nat->Int->WN->Option Bool
 |0,_,_=>none
 |k+1,t13,t15=>
 if decide (t13<t12)=true then
 if(0:Int)<=t13/\t13<(Jr t11:Int)then
 (eE.F n (Jv t11 (Jt t13) 0) 0 (Ju.wrap (t7 - 1))).bind λr17=>
 if(!r17)=true then
 some false
 else
 if(0:Int)<=(Jv t11 (Jt t13) 0)/\(Jv t11 (Jt t13) 0)<(Jr t15:Int)then
 if(0:Int)<=(Jv t11 (Jt t13) 0)/\(Jv t11 (Jt t13) 0)<(Jr t15:Int)then
 let w18:List Int:=KO t15 (Jt (Jv t11 (Jt t13) 0)) (Ju.wrap ((Jv t15 (Jt (Jv t11 (Jt t13) 0)) 0)+1))
 l1 n t7 t8 t9 t10 t11 t12 t14 t16 K2 k (Ju.wrap (t13+1)) w18
 else
 none
 else
 none
 else
 none
 else
 K2 t15
def l0 (n:Nat)(t2:WD)(t3:Int)(t5:Wk)(K0:WN->Option Bool):Nat->Int->WN->Option Bool
 |0,_,_=>none
 |k+1,t4,t6=>
 if decide (t4<t3)=true then
 if(0:Int)<=t4/\t4<(Jr t2:Int)then
 l1 n t4 t2 t3 t4 (((Jv t2 (Jt t4) (0,(Jq,[]))).2).2) (Jr (((Jv t2 (Jt t4) (0,(Jq,[]))).2).2):Int) t5 (Jv t2 (Jt t4) (0,(Jq,[]))) (λt19=>
 (eE.F n ((Jv t2 (Jt t4) (0,(Jq,[]))).1) 1 7).bind λr20=>
 if(!r20)=false then
 (gZ.F n ((Jv t2 (Jt t4) (0,(Jq,[]))).1)).bind λr21=>
 if r21=true then
 if(!decide ((Jr (((Jv t2 (Jt t4) (0,(Jq,[]))).2).2):Int)=2))=false then
 (eE.F n ((Jv t2 (Jt t4) (0,(Jq,[]))).1) 1 3).bind λr22=>
 if r22=true then
 if decide ((Jr (((Jv t2 (Jt t4) (0,(Jq,[]))).2).2):Int)>0)=true then
 some false
 else
 l0 n t2 t3 t5 K0 k (Ju.wrap (t4+1)) t19
 else
 l0 n t2 t3 t5 K0 k (Ju.wrap (t4+1)) t19
 else
 some false
 else
 (eE.F n ((Jv t2 (Jt t4) (0,(Jq,[]))).1) 1 3).bind λr23=>
 if r23=true then
 if decide ((Jr (((Jv t2 (Jt t4) (0,(Jq,[]))).2).2):Int)>0)=true then
 some false
 else
 l0 n t2 t3 t5 K0 k (Ju.wrap (t4+1)) t19
 else
 l0 n t2 t3 t5 K0 k (Ju.wrap (t4+1)) t19
 else
 some false) n 0 t6
 else
 none
 else
 K0 t6
def l4 (n:Nat)(t38:WD)(t39:Int)(t40:Int)(t41:WN)(t42:Int)(t44:Wk)(K6:WN->Option Bool):Nat->Int->WN->Option Bool
 |0,_,_=>none
 |k+1,t43,t45=>
 if decide (t43<t42)=true then
 if(0:Int)<=t43/\t43<(Jr t41:Int)then
 (eE.F n (Jv t41 (Jt t43) 0) 0 (Ju.wrap ((Jr t44.1:Int) - 1))).bind λr46=>
 if(!r46)=true then
 some false
 else
 if(0:Int)<=(Jv t41 (Jt t43) 0)/\(Jv t41 (Jt t43) 0)<(Jr t45:Int)then
 if(0:Int)<=(Jv t41 (Jt t43) 0)/\(Jv t41 (Jt t43) 0)<(Jr t45:Int)then
 let w47:List Int:=KO t45 (Jt (Jv t41 (Jt t43) 0)) (Ju.wrap ((Jv t45 (Jt (Jv t41 (Jt t43) 0)) 0)+1))
 l4 n t38 t39 t40 t41 t42 t44 K6 k (Ju.wrap (t43+1)) w47
 else
 none
 else
 none
 else
 none
 else
 K6 t45
def j3 (n:Nat)(t32:WD)(t33:Int)(t34:Int)(t35:Wk)(t36:WN)(t37:WG)(Kn:WN->Option Bool):Option Bool:=
 l4 n t32 t33 t34 t37.2.2 (Jr t37.2.2:Int) t35 (λt48=>
 Kn t48) n 0 t36
def l2 (n:Nat)(t26:WD)(t27:Int)(t29:Wk)(K4:WN->Option Bool):Nat->Int->WN->Option Bool
 |0,_,_=>none
 |k+1,t28,t30=>
 if decide (t28<t27)=true then
 if(0:Int)<=t28/\t28<(Jr t26:Int)then
 if(decide (t28=0))=true then
 if(!decide (((Jv t26 (Jt t28) (0,(Jq,[]))).1)=1))=false then
 (eE.F n ((Jv t26 (Jt t28) (0,(Jq,[]))).1) 1 3).bind λr31=>
 if(!r31)=false then
 if(decide (((Jv t26 (Jt t28) (0,(Jq,[]))).1)=3))=true then
 if(!decide ((Jr (((Jv t26 (Jt t28) (0,(Jq,[]))).2).2):Int)=2))=true then
 some false
 else
 j3 n t26 t27 t28 t29 t30 (Jv t26 (Jt t28) (0,(Jq,[]))) (λt49=>
 l2 n t26 t27 t29 K4 k (Ju.wrap (t28+1)) t49)
 else
 j3 n t26 t27 t28 t29 t30 (Jv t26 (Jt t28) (0,(Jq,[]))) (λt50=>
 l2 n t26 t27 t29 K4 k (Ju.wrap (t28+1)) t50)
 else
 some false
 else
 some false
 else
 (eE.F n ((Jv t26 (Jt t28) (0,(Jq,[]))).1) 1 3).bind λr51=>
 if(!r51)=false then
 if(decide (((Jv t26 (Jt t28) (0,(Jq,[]))).1)=3))=true then
 if(!decide ((Jr (((Jv t26 (Jt t28) (0,(Jq,[]))).2).2):Int)=2))=true then
 some false
 else
 j3 n t26 t27 t28 t29 t30 (Jv t26 (Jt t28) (0,(Jq,[]))) (λt52=>
 l2 n t26 t27 t29 K4 k (Ju.wrap (t28+1)) t52)
 else
 j3 n t26 t27 t28 t29 t30 (Jv t26 (Jt t28) (0,(Jq,[]))) (λt53=>
 l2 n t26 t27 t29 K4 k (Ju.wrap (t28+1)) t53)
 else
 some false
 else
 none
 else
 K4 t30
def F (n:Nat)(t1:Wk):Option Bool:=
 if(0:Int)<=(Jr t1.1:Int)/\(Jr t1.1:Int)<=(Jr t1.1:Int)/\(Jr t1.1:Int)<=(aT:Int)then
 l0 n t1.1 (Jr t1.1:Int) t1 (λt24=>
 (jG.F n t1).bind λr25=>
 l2 n r25 (Jr r25:Int) t1 (λt54=>
 if(decide ((Jr t1.1:Int)<=60))=true then
 (df.F n t54 (λa55=>(fE.F n a55.1).bind some)).bind λr56=>
 some (!r56)
 else
 some false) n 0 t24) n 0 (Kq (Jt (Jr t1.1:Int)) 0)
 else
 none
def code:=Tryz.f105.body.getD .skip
abbrev ash:List ASh:=[.ro Qf]
abbrev rsh:List RSh:=[.ro .bool]
def b0:=JA (JA (Jy (JA (Jy (Jy code)))))
def b2:=JA (JA (Jy (JA (Jy (Jy (Jy code))))))
def c3:=Jy (Jy (JA (JA (Jy (Jy b2)))))
def b1:=JA (JA (Jy (JA (Jy (JA (JA (Jy (Jy b0))))))))
def b4:=JA (JA (Jy c3))
abbrev sh1:ES:=⟨[(1,.pt 1 []),(3,.al 3 []),(4,.v QA),(5,.pt 5 []),(17,.v Qk),(18,.v QA),(19,.v QA),(25,.v Qy),(26,.v QA),(27,.v QA)],[⟨1,.st Qg,.ro,true,false,none⟩,⟨3,.sl QA,.own .ro,false,false,none⟩,⟨5,.st Qr,.ro,true,false,none⟩]⟩
abbrev sh1_2:ES:=⟨[(1,.pt 1 []),(3,.al 3 []),(5,.pt 5 []),(17,.v Qk),(18,.v QA),(19,.v QA)],[⟨1,.st Qg,.ro,true,false,none⟩,⟨3,.sl QA,.own .ro,false,false,none⟩,⟨5,.st Qr,.ro,true,false,none⟩]⟩
abbrev sh0:ES:=⟨[(1,.pt 1 []),(3,.al 3 []),(17,.v Qk),(18,.v QA),(19,.v QA)],[⟨1,.st Qg,.ro,true,false,none⟩,⟨3,.sl QA,.own .ro,false,false,none⟩]⟩
abbrev sh0_0:ES:=⟨[(1,.pt 1 []),(3,.al 3 [])],[⟨1,.st Qg,.ro,true,false,none⟩,⟨3,.sl QA,.own .ro,false,false,none⟩]⟩
abbrev sh4:ES:=⟨[(1,.pt 1 []),(3,.al 3 []),(71,.v Qk),(72,.v QA),(73,.v QA),(103,.v Qy),(104,.v QA),(105,.v QA)],[⟨1,.st Qg,.ro,true,false,none⟩,⟨3,.sl QA,.own .ro,false,false,none⟩]⟩
abbrev sh4_6:ES:=⟨[(1,.pt 1 []),(3,.al 3 []),(71,.v Qk),(72,.v QA),(73,.v QA)],[⟨1,.st Qg,.ro,true,false,none⟩,⟨3,.sl QA,.own .ro,false,false,none⟩]⟩
abbrev sh3:ES:=⟨[(1,.pt 1 []),(3,.al 3 []),(9,.pt 9 []),(71,.v Qk),(72,.v QA),(73,.v QA)],[⟨1,.st Qg,.ro,true,false,none⟩,⟨3,.sl QA,.own .ro,false,false,none⟩,⟨9,.st Qr,.ro,true,false,none⟩]⟩
def g1:GL rsh sh1:=λn m x kn kx=>l1 n x.1.2.2.1 x.1.2.2.2.2.1 x.1.2.2.2.2.2.1 x.1.2.2.2.2.2.2.1 x.1.2.2.2.2.2.2.2.1 x.1.2.2.2.2.2.2.2.2.1 x.2.1 x.2.2.2.1 (λy0=>kx 2 (sh1_2.enc (((()),(()),(()),x.1.2.2.2.2.1,x.1.2.2.2.2.2.1,x.1.2.2.2.2.2.2.1,()),(x.2.1,y0,x.2.2.2.1,())))) m x.1.2.2.2.2.2.2.2.2.2.1 x.2.2.1
def g0:GL rsh sh0:=λn m x kn kx=>l0 n x.1.2.2.1 x.1.2.2.2.1 x.2.1 (λy0=>kx 0 (sh0_0.enc (((()),(()),()),(x.2.1,y0,())))) m x.1.2.2.2.2.1 x.2.2.1
def g4:GL rsh sh4:=λn m x kn kx=>l4 n x.1.2.2.1 x.1.2.2.2.1 x.1.2.2.2.2.1 x.1.2.2.2.2.2.1 x.1.2.2.2.2.2.2.1 x.2.1 (λy0=>kx 6 (sh4_6.enc (((()),(()),x.1.2.2.1,x.1.2.2.2.1,x.1.2.2.2.2.1,()),(x.2.1,y0,())))) m x.1.2.2.2.2.2.2.2.1 x.2.2.1
def g3:GL rsh sh3:=λn m x kn kx=>j3 n x.1.2.2.2.1 x.1.2.2.2.2.1 x.1.2.2.2.2.2.1 x.2.1 x.2.2.1 x.2.2.2.1 (λy0=>kn (sh4_6.enc (((()),(()),x.1.2.2.2.1,x.1.2.2.2.2.1,x.1.2.2.2.2.2.1,()),(x.2.1,y0,()))))
def g2:GL rsh sh4_6:=λn m x kn kx=>l2 n x.1.2.2.1 x.1.2.2.2.1 x.2.1 (λy0=>kx 4 (sh0_0.enc (((()),(()),()),(x.2.1,y0,())))) m x.1.2.2.2.2.1 x.2.2.1
def B:Bd:=⟨ash,rsh,[df.E,jG.E,eE.E,gZ.E,fE.E],⟨code,133,.nil,[(.tmp 2,.bool,.ro)]⟩,[⟨1,sh1,g1⟩,⟨0,sh0,g0⟩,⟨4,sh4,g4⟩,⟨3,sh3,g3⟩,⟨2,sh4_6,g2⟩]⟩
theorem u1:UO B 1 (.loop b1):=
 lu (.seq .nil (.seq Vl (.seq (.block (some [1,3,4,5,17,18,19,25,26,27]) W3) .nil))) [(0,[1,3]),(1,[1,3,17,18,19]),(2,[1,3,5,17,18,19])] [1,3,4,5,17,18,19,25,26,27] sh1 g1 mn
theorem u0:UO B 0 (.loop b0):=
 lu (.seq .nil (.seq Vl (.seq (.block (some [1,3,17,18,19]) (.seq .nil (.seq (.seq .nil (.block (some [1,3,5,17,18,19]) (.cut 1 [1,3,4,5,17,18,19,25,26,27]))) Vf))) .nil))) [(0,[1,3])] [1,3,17,18,19] sh0 g0 (mc u1 mn)
theorem u4:UO B 4 (.loop b4):=
 lu (.seq .nil (.seq Vl (.seq (.block (some [1,3,71,72,73,103,104,105]) W3) .nil))) [(4,[1,3]),(5,[1,3,71,72,73]),(6,[1,3,71,72,73])] [1,3,71,72,73,103,104,105] sh4 g4 mn
theorem u3:UO B 3 c3:=
 ju (.seq .nil (.block (some [1,3,71,72,73]) (.cut 4 [1,3,71,72,73,103,104,105]))) [(4,[1,3]),(5,[1,3,71,72,73])] [1,3,71,72,73] sh3 g3 (mc u4 mn)
theorem u2:UO B 2 (.loop b2):=
 lu (.seq .nil (.seq Vl (.seq (.block (some [1,3,71,72,73]) (.seq .nil (.seq Vf (.cut 3 [1,3,9,71,72,73])))) .nil))) [(4,[1,3])] [1,3,71,72,73] sh4_6 g2 (mc u3 mn)
def E:En:=⟨105,λn=>⟨B.a,B.r,λv=>F n v.1⟩,cD B (.seq .nil (.seq (.reg [(15,.own .ro)]) (.seq (.seq .nil (.block (some [1,3]) (.cut 0 [1,3,17,18,19]))) (.seq (.seq .nil (.block (some [1,3]) (.cut 2 [1,3,71,72,73]))) Vm)))) Tryz.func105 (mc u0 (mc u2 mn))⟩
end bI
namespace ax
def j0 (n:Nat)(self138:Wk->Int->Option ByteArray)(self179:Wk->WN->Option ByteArray)(self199:Int->Wk->Option ByteArray)(t4:Bool)(r5:Wk)(e6:WG)(Kn:Unit->Option ByteArray):Option ByteArray:=
 if t4=true then
 if(0:Int)<=0/\0<(Jr e6.2.2:Int)then
 (self199 (Jv e6.2.2 (0) 0) r5).bind λr7=>
 if Js r7+Js ⟨#[32]⟩<=aT then
 if(0:Int)<=(Ju.wrap (e6.1 - 5))/\(Ju.wrap (e6.1 - 5))<(Jr ([⟨#[43]⟩,⟨#[45]⟩,⟨#[42]⟩]:WL):Int)then
 if Js (r7++⟨#[32]⟩)+Js (Jv ([⟨#[43]⟩,⟨#[45]⟩,⟨#[42]⟩]:WL) (Jt (Ju.wrap (e6.1 - 5))) Jq)<=aT then
 if Js ((r7++⟨#[32]⟩)++(Jv ([⟨#[43]⟩,⟨#[45]⟩,⟨#[42]⟩]:WL) (Jt (Ju.wrap (e6.1 - 5))) Jq))+Js ⟨#[32]⟩<=aT then
 if(0:Int)<=1/\1<(Jr e6.2.2:Int)then
 (self199 (Jv e6.2.2 (1) 0) r5).bind λr8=>
 if Js (((r7++⟨#[32]⟩)++(Jv ([⟨#[43]⟩,⟨#[45]⟩,⟨#[42]⟩]:WL) (Jt (Ju.wrap (e6.1 - 5))) Jq))++⟨#[32]⟩)+Js r8<=aT then
 some ((((r7++⟨#[32]⟩)++(Jv ([⟨#[43]⟩,⟨#[45]⟩,⟨#[42]⟩]:WL) (Jt (Ju.wrap (e6.1 - 5))) Jq))++⟨#[32]⟩)++r8)
 else
 none
 else
 none
 else
 none
 else
 none
 else
 none
 else
 none
 else
 none
 else
 Kn ()
def G (n:Nat)(self138:Wk->Int->Option ByteArray)(self179:Wk->WN->Option ByteArray)(self199:Int->Wk->Option ByteArray)(r1:Wk)(t2:Int):Option ByteArray:=
 if(0:Int)<=t2/\t2<(Jr r1.1:Int)then
 if decide (((Jv r1.1 (Jt t2) (0,(Jq,[]))).1)=2)=true then
 some ⟨#[95]⟩
 else
 if decide (((Jv r1.1 (Jt t2) (0,(Jq,[]))).1)=4)=true then
 if decide ((Jr (((Jv r1.1 (Jt t2) (0,(Jq,[]))).2).2):Int)>0)=true then
 if Js (((Jv r1.1 (Jt t2) (0,(Jq,[]))).2).1)+Js ⟨#[40]⟩<=aT then
 (self179 r1 (((Jv r1.1 (Jt t2) (0,(Jq,[]))).2).2)).bind λr3=>
 if Js ((((Jv r1.1 (Jt t2) (0,(Jq,[]))).2).1)++⟨#[40]⟩)+Js r3<=aT then
 if Js (((((Jv r1.1 (Jt t2) (0,(Jq,[]))).2).1)++⟨#[40]⟩)++r3)+Js ⟨#[41]⟩<=aT then
 some ((((((Jv r1.1 (Jt t2) (0,(Jq,[]))).2).1)++⟨#[40]⟩)++r3)++⟨#[41]⟩)
 else
 none
 else
 none
 else
 none
 else
 some (((Jv r1.1 (Jt t2) (0,(Jq,[]))).2).1)
 else
 if decide (((Jv r1.1 (Jt t2) (0,(Jq,[]))).1)=5)=true then
 j0 n self138 self179 self199 (decide (((Jv r1.1 (Jt t2) (0,(Jq,[]))).1)=5)) r1 (Jv r1.1 (Jt t2) (0,(Jq,[]))) (λ_=>
 some (((Jv r1.1 (Jt t2) (0,(Jq,[]))).2).1))
 else
 if decide (((Jv r1.1 (Jt t2) (0,(Jq,[]))).1)=6)=true then
 j0 n self138 self179 self199 (decide (((Jv r1.1 (Jt t2) (0,(Jq,[]))).1)=6)) r1 (Jv r1.1 (Jt t2) (0,(Jq,[]))) (λ_=>
 some (((Jv r1.1 (Jt t2) (0,(Jq,[]))).2).1))
 else
 j0 n self138 self179 self199 (decide (((Jv r1.1 (Jt t2) (0,(Jq,[]))).1)=7)) r1 (Jv r1.1 (Jt t2) (0,(Jq,[]))) (λ_=>
 some (((Jv r1.1 (Jt t2) (0,(Jq,[]))).2).1))
 else
 none
end ax
namespace ar
def l0 (n:Nat)(self138:Wk->Int->Option ByteArray)(self179:Wk->WN->Option ByteArray)(self199:Int->Wk->Option ByteArray)(t3:WN)(t4:Int)(r6:Wk)(K0:WL->Option ByteArray):Nat->Int->WL->Option ByteArray
 |0,_,_=>none
 |k+1,t5,out7=>
 if decide (t5<t4)=true then
 if(0:Int)<=t5/\t5<(Jr t3:Int)then
 (self138 r6 (Jv t3 (Jt t5) 0)).bind λr8=>
 if Jr out7+Jr [r8]<=aT then
 l0 n self138 self179 self199 t3 t4 r6 K0 k (Ju.wrap (t5+1)) (out7++[r8])
 else
 none
 else
 none
 else
 K0 out7
def G (n:Nat)(self138:Wk->Int->Option ByteArray)(self179:Wk->WN->Option ByteArray)(self199:Int->Wk->Option ByteArray)(r1:Wk)(l2:WN):Option ByteArray:=
 l0 n self138 self179 self199 l2 (Jr l2:Int) r1 (λout9=>
 (cJ.F n out9 ⟨#[44,32]⟩).bind λr10=>
 some r10) n 0 []
end ar
namespace aM
def G (n:Nat)(self138:Wk->Int->Option ByteArray)(self179:Wk->WN->Option ByteArray)(self199:Int->Wk->Option ByteArray)(k1:Int)(t2:Wk):Option ByteArray:=
 if(0:Int)<=k1/\k1<(Jr t2.1:Int)then
 (gZ.F n ((Jv t2.1 (Jt k1) (0,(Jq,[]))).1)).bind λr3=>
 if r3=true then
 (self138 t2 k1).bind λr4=>
 if Js ⟨#[40]⟩+Js r4<=aT then
 if Js (⟨#[40]⟩++r4)+Js ⟨#[41]⟩<=aT then
 some ((⟨#[40]⟩++r4)++⟨#[41]⟩)
 else
 none
 else
 none
 else
 (self138 t2 k1).bind λr5=>
 some r5
 else
 none
end aM
def eQ:Nat->(Wk->Int->Option ByteArray)×(Wk->WN->Option ByteArray)×(Int->Wk->Option ByteArray)
 |0=>(λ_ _=>none,λ_ _=>none,λ_ _=>none)
 |n+1=>(ax.G n (eQ n).1 (eQ n).2.1 (eQ n).2.2,ar.G n (eQ n).1 (eQ n).2.1 (eQ n).2.2,aM.G n (eQ n).1 (eQ n).2.1 (eQ n).2.2)
namespace ax
def code:Code:=Tryz.f138.body.getD .skip
def F (n:Nat):Wk->Int->Option ByteArray:=(eQ n).1
abbrev ash:List ASh:=[.ro Qf,.ro QA]
abbrev rsh:List RSh:=[.ro .str]
def ent (n:Nat):ip:=⟨ash,rsh,λv=>F n v.1 v.2.1⟩
end ax
namespace ar
def code:Code:=Tryz.f179.body.getD .skip
def F (n:Nat):Wk->WN->Option ByteArray:=(eQ n).2.1
abbrev ash:List ASh:=[.ro Qf,.ro Qy]
abbrev rsh:List RSh:=[.ro .str]
def ent (n:Nat):ip:=⟨ash,rsh,λv=>F n v.1 v.2.1⟩
end ar
namespace aM
def code:Code:=Tryz.f199.body.getD .skip
def F (n:Nat):Int->Wk->Option ByteArray:=(eQ n).2.2
abbrev ash:List ASh:=[.ro QA,.rp Qf]
abbrev rsh:List RSh:=[.ro .str]
def ent (n:Nat):ip:=⟨ash,rsh,λv=>F n v.1 v.2.1⟩
end aM
namespace ax
def cx (n:Nat):fX:=jJ JC TYS [(138,ax.ent n),(179,ar.ent n),(199,aM.ent n)]
def d:rK:=⟨code,60,.nil,[(.tmp 4,.str,.ro)]⟩
def kr (n:Nat)(v:jH ash):KN rsh:=jR (cx n) d (eJ ash v) (iu rsh)
def c0:Code:=(Jy (Jy (Jy (Jy (Jy (JA (Jy (JA (Jy (Jy code))))))))))
def an:An:=.seq .nil (.seq .nil (.seq (.seq .nil (.block (some [5]) (.seq .nil (.cond Vm (.seq .nil (.cond Vf (.seq W8 (.cut 0 [2,5,31])))))))) Vm))
def an0:An:=.cond Vk .nil
abbrev sh0:ES:=⟨[(2,.pt 2 []),(5,.pt 5 []),(31,.v .bool)],[⟨2,.st Qg,.ro,true,false,none⟩,⟨5,.st Qr,.ro,true,false,none⟩]⟩
abbrev sh0_n:ES:=⟨[(5,.pt 5 [])],[⟨5,.st Qr,.ro,true,false,none⟩]⟩
def g0 (n m:Nat)(x:sh0.V)(kn:KN rsh)(kx:KX rsh):Option (jS rsh):=j0 n (ax.F n) (ar.F n) (aM.F n) x.1.2.2.1 x.2.1 x.2.2.1 (λ_=>kn (sh0_n.enc (((()),()),(x.2.2.1,()))))
def T (n:Nat):tg (jS rsh):=λj e kn kx=>match j with
 |0=>Mm sh0 e λx=>g0 n n x kn kx
 |_=>none
theorem mk (n:Nat)(ih138:aq JC 138 (ax.ent n))(ih179:aq JC 179 (ar.ent n))(ih199:aq JC 199 (aM.ent n)):lZ (cx n):=fN (mem_cons ih138 (mem_cons ih179 (mem_cons ih199 bD)))
theorem u0 (n:Nat)(v:jH ash)(ih138:aq JC 138 (ax.ent n))(ih179:aq JC 179 (ar.ent n))(ih199:aq JC 199 (aM.ent n)):cQ (cx n) 60 (T n) (kr n v) 0 (c0):=
 jz (CO _) (mk n ih138 ih179 ih199) (MX _) an0 [(0,[5])] [5] sh0 (g0 n n) (λ_ _ _=>rfl) (λx kn kx=>by kernel_rfl) (l:=[]) (by kernel_rfl) (bD)
theorem ok0:aq JC 138 (ent 0):=gw Tryz.f138 (by kernel_rfl) (by kernel_rfl) (by kernel_rfl) (λ_=>rfl)
theorem okS (n:Nat)(ih138:aq JC 138 (ax.ent n))(ih179:aq JC 179 (ar.ent n))(ih199:aq JC 199 (aM.ent n)):aq JC 138 (ent (n+1)):=
 iv (c:=cx n) (e:=ent (n+1)) (d:=d) (CO _) (mk n ih138 ih179 ih199) (MX _) an Tryz.func138 (by kernel_rfl) (T n) (l:=[(0,c0)]) (by kernel_rfl) (λv=>mem_cons (u0 n v ih138 ih179 ih199) bD) (λv=>by kernel_rfl)
end ax
namespace ar
def cx (n:Nat):fX:=jJ JC TYS [(107,cJ.E.e n),(138,ax.ent n),(179,ar.ent n),(199,aM.ent n)]
def d:rK:=⟨code,24,.nil,[(.tmp 4,.str,.ro)]⟩
def kr (n:Nat)(v:jH ash):KN rsh:=jR (cx n) d (eJ ash v) (iu rsh)
def b0:Code:=JA (JA (Jy (JA (Jy (Jy code)))))
def an:An:=.seq .nil (.seq (.reg [(8,.own .ro)]) (.seq (.seq .nil (.block (some [5]) (.cut 0 [2,5,9,10,11]))) Vm))
def an0:An:=.seq .nil (.seq Vl (.seq (.block (some [2,5,9,10,11]) Vm) .nil))
abbrev sh0:ES:=⟨[(2,.pt 2 []),(5,.al 5 []),(9,.v Qy),(10,.v QA),(11,.v QA)],[⟨2,.st Qg,.ro,true,false,none⟩,⟨5,.sl QC,.own .ro,false,false,none⟩]⟩
abbrev sh0_0:ES:=⟨[(5,.al 5 [])],[⟨5,.sl QC,.own .ro,false,false,none⟩]⟩
def g0 (n m:Nat)(x:sh0.V)(kn:KN rsh)(kx:KX rsh):Option (jS rsh):=l0 n (ax.F n) (ar.F n) (aM.F n) x.1.2.2.1 x.1.2.2.2.1 x.2.1 (λy0=>kx 0 (sh0_0.enc (((()),()),(y0,())))) m x.1.2.2.2.2.1 x.2.2.1
def T (n:Nat):tg (jS rsh):=λj e kn kx=>match j with
 |0=>Mm sh0 e λx=>g0 n n x kn kx
 |_=>none
theorem mk (n:Nat)(ih138:aq JC 138 (ax.ent n))(ih179:aq JC 179 (ar.ent n))(ih199:aq JC 199 (aM.ent n)):lZ (cx n):=fN (mem_cons (cJ.E.ok n) (mem_cons ih138 (mem_cons ih179 (mem_cons ih199 bD))))
theorem u0 (n:Nat)(v:jH ash)(ih138:aq JC 138 (ax.ent n))(ih179:aq JC 179 (ar.ent n))(ih199:aq JC 199 (aM.ent n)):cQ (cx n) 24 (T n) (kr n v) 0 (.loop b0):=
 kz (n:=n) (CO _) (mk n ih138 ih179 ih199) (MX _) an0 [(0,[5])] [2,5,9,10,11] sh0 (g0 n) (λ_ _ _=>rfl) (λ_ _ _=>rfl) (λm x kn kx=>by kernel_rfl) (l:=[]) (by kernel_rfl) (bD)
theorem ok0:aq JC 179 (ent 0):=gw Tryz.f179 (by kernel_rfl) (by kernel_rfl) (by kernel_rfl) (λ_=>rfl)
theorem okS (n:Nat)(ih138:aq JC 138 (ax.ent n))(ih179:aq JC 179 (ar.ent n))(ih199:aq JC 199 (aM.ent n)):aq JC 179 (ent (n+1)):=
 iv (c:=cx n) (e:=ent (n+1)) (d:=d) (CO _) (mk n ih138 ih179 ih199) (MX _) an Tryz.func179 (by kernel_rfl) (T n) (l:=[(0,.loop b0)]) (by kernel_rfl) (λv=>mem_cons (u0 n v ih138 ih179 ih199) bD) (λv=>by kernel_rfl)
end ar
namespace aM
def cx (n:Nat):fX:=jJ JC TYS [(177,gZ.E.e n),(138,ax.ent n),(179,ar.ent n),(199,aM.ent n)]
def d:rK:=⟨code,19,.nil,[(.tmp 3,.str,.ro)]⟩
def an:An:=.seq .nil W4
theorem ok0:aq JC 199 (ent 0):=gw Tryz.f199 (by kernel_rfl) (by kernel_rfl) (by kernel_rfl) (λ_=>rfl)
theorem okS (n:Nat)(ih138:aq JC 138 (ax.ent n))(ih179:aq JC 179 (ar.ent n))(ih199:aq JC 199 (aM.ent n)):aq JC 199 (ent (n+1)):=
 F6 (c:=cx n) (e:=ent (n+1)) (d:=d) (CO _) (fN (mem_cons (gZ.E.ok n) (mem_cons ih138 (mem_cons ih179 (mem_cons ih199 bD))))) (MX _) an Tryz.func199 (by kernel_rfl) (by kernel_rfl) (λv=>by kernel_rfl)
end aM
theorem zf:(n:Nat)->aq JC 138 (ax.ent n)/\aq JC 179 (ar.ent n)/\aq JC 199 (aM.ent n)
 |0=>⟨ax.ok0,ar.ok0,aM.ok0⟩
 |n+1=>have ih:=zf n;⟨ax.okS n ih.1 ih.2.1 ih.2.2,ar.okS n ih.1 ih.2.1 ih.2.2,aM.okS n ih.1 ih.2.1 ih.2.2⟩
theorem ax.ok (n:Nat):aq JC 138 (ax.ent n):=(zf n).1
def ax.E:En:=⟨138,ax.ent,ax.ok⟩
theorem ar.ok (n:Nat):aq JC 179 (ar.ent n):=(zf n).2.1
def ar.E:En:=⟨179,ar.ent,ar.ok⟩
namespace eS
def F (n:Nat)(r1:Wk)(l2:WG):Option ByteArray:=
 if decide (l2.1=3)=true then
 if(0:Int)<=0/\0<(Jr l2.2.2:Int)then
 (ax.F n r1 (Jv l2.2.2 (0) 0)).bind λr3=>
 if Js r3+Js ⟨#[32]⟩<=aT then
 if Js (r3++⟨#[32]⟩)+Js l2.2.1<=aT then
 if Js ((r3++⟨#[32]⟩)++l2.2.1)+Js ⟨#[32]⟩<=aT then
 if(0:Int)<=1/\1<(Jr l2.2.2:Int)then
 (ax.F n r1 (Jv l2.2.2 (1) 0)).bind λr4=>
 if Js (((r3++⟨#[32]⟩)++l2.2.1)++⟨#[32]⟩)+Js r4<=aT then
 some ((((r3++⟨#[32]⟩)++l2.2.1)++⟨#[32]⟩)++r4)
 else
 none
 else
 none
 else
 none
 else
 none
 else
 none
 else
 none
 else
 if decide (l2.1=2)=true then
 if Js ⟨#[33]⟩+Js l2.2.1<=aT then
 if Js (⟨#[33]⟩++l2.2.1)+Js ⟨#[40]⟩<=aT then
 (ar.F n r1 l2.2.2).bind λr5=>
 if Js ((⟨#[33]⟩++l2.2.1)++⟨#[40]⟩)+Js r5<=aT then
 if Js (((⟨#[33]⟩++l2.2.1)++⟨#[40]⟩)++r5)+Js ⟨#[41]⟩<=aT then
 some ((((⟨#[33]⟩++l2.2.1)++⟨#[40]⟩)++r5)++⟨#[41]⟩)
 else
 none
 else
 none
 else
 none
 else
 none
 else
 if Js l2.2.1+Js ⟨#[40]⟩<=aT then
 (ar.F n r1 l2.2.2).bind λr6=>
 if Js (l2.2.1++⟨#[40]⟩)+Js r6<=aT then
 if Js ((l2.2.1++⟨#[40]⟩)++r6)+Js ⟨#[41]⟩<=aT then
 some (((l2.2.1++⟨#[40]⟩)++r6)++⟨#[41]⟩)
 else
 none
 else
 none
 else
 none
def code:=Tryz.f106.body.getD .skip
abbrev ash:List ASh:=[.ro Qf,.ro Qn]
abbrev rsh:List RSh:=[.ro .str]
def B:Bd:=⟨ash,rsh,[ax.E,ar.E],⟨code,48,.nil,[(.tmp 4,.str,.ro)]⟩,[]⟩
def E:En:=⟨106,λn=>⟨B.a,B.r,λv=>F n v.1 v.2.1⟩,cD B (.seq .nil (.seq (.seq .nil (.block (some [2,3]) WZ)) Vm)) Tryz.func106 mn⟩
end eS
namespace ff
def l0 (n:Nat)(out4:ByteArray)(t5:WD)(t6:Int)(r8:Wk)(K0:WL->Option ByteArray):Nat->Int->WL->Option ByteArray
 |0,_,_=>none
 |k+1,t7,body9=>
 if decide (t7<t6)=true then
 if(0:Int)<=t7/\t7<(Jr t5:Int)then
 (eS.F n r8 (Jv t5 (Jt t7) (0,(Jq,[])))).bind λr10=>
 if Jr body9+Jr [r10]<=aT then
 l0 n out4 t5 t6 r8 K0 k (Ju.wrap (t7+1)) (body9++[r10])
 else
 none
 else
 none
 else
 K0 body9
def F (n:Nat)(r1:Wk):Option ByteArray:=
 (bI.F n r1).bind λr2=>
 if(!r2)=true then
 some Jq
 else
 (eS.F n r1 r1.2.1).bind λr3=>
 l0 n r3 r1.2.2 (Jr r1.2.2:Int) r1 (λbody11=>
 if decide ((Jr body11:Int)>0)=true then
 (cJ.F n body11 ⟨#[44,32]⟩).bind λr12=>
 if Js ⟨#[32,58,45,32]⟩+Js r12<=aT then
 if Js r3+Js (⟨#[32,58,45,32]⟩++r12)<=aT then
 if Js (r3++(⟨#[32,58,45,32]⟩++r12))+Js ⟨#[46]⟩<=aT then
 if decide ((Js ((r3++(⟨#[32,58,45,32]⟩++r12))++⟨#[46]⟩):Int)>3000)=true then
 some Jq
 else
 some ((r3++(⟨#[32,58,45,32]⟩++r12))++⟨#[46]⟩)
 else
 none
 else
 none
 else
 none
 else
 if Js r3+Js ⟨#[46]⟩<=aT then
 if decide ((Js (r3++⟨#[46]⟩):Int)>3000)=true then
 some Jq
 else
 some (r3++⟨#[46]⟩)
 else
 none) n 0 []
def code:=Tryz.f37.body.getD .skip
abbrev ash:List ASh:=[.ro Qf]
abbrev rsh:List RSh:=[.ro .str]
def b0:=JA (JA (Jy (JA (Jy (Jy (Jy (Jy code)))))))
abbrev sh0:ES:=⟨[(1,.pt 1 []),(3,.v .str),(4,.al 4 []),(16,.v Qk),(17,.v QA),(18,.v QA)],[⟨1,.st Qg,.ro,true,false,none⟩,⟨4,.sl QC,.own .ro,false,false,none⟩]⟩
abbrev sh0_0:ES:=⟨[(3,.v .str),(4,.al 4 [])],[⟨4,.sl QC,.own .ro,false,false,none⟩]⟩
def g0:GL rsh sh0:=λn m x kn kx=>l0 n x.1.2.1 x.1.2.2.2.1 x.1.2.2.2.2.1 x.2.1 (λy0=>kx 0 (sh0_0.enc ((x.1.2.1,(()),()),(y0,())))) m x.1.2.2.2.2.2.1 x.2.2.1
def B:Bd:=⟨ash,rsh,[bI.E,eS.E,cJ.E],⟨code,43,.nil,[(.tmp 2,.str,.ro)]⟩,[⟨0,sh0,g0⟩]⟩
theorem u0:UO B 0 (.loop b0):=
 lu (.seq .nil (.seq Vl (.seq (.block (some [1,3,4,16,17,18]) Vm) .nil))) [(0,[3,4])] [1,3,4,16,17,18] sh0 g0 mn
def E:En:=⟨37,λn=>⟨B.a,B.r,λv=>F n v.1⟩,cD B (.seq .nil (.seq Vf (.seq .nil (.seq (.reg [(14,.own .ro)]) (.seq (.seq .nil (.block (some [3,4]) (.cut 0 [1,3,4,16,17,18]))) (.seq Vi W1)))))) Tryz.func37 (mc u0 mn)⟩
end ff
namespace fb
def F (n:Nat)(l1:WG):Option WG:=
 if Jr ([]:WN)+Jr l1.2.2<=aT then
 some (l1.1,(l1.2.1,[]++l1.2.2))
 else
 none
def code:=Tryz.f174.body.getD .skip
abbrev ash:List ASh:=[.ro Qn]
abbrev rsh:List RSh:=[.own Qn QT]
def B:Bd:=⟨ash,rsh,[],⟨code,12,.nil,[(.cell 2 31,.st Qr,.pr .ro QX)]⟩,[]⟩
def E:En:=⟨174,λn=>⟨B.a,B.r,λv=>F n v.1⟩,cD B (.seq .nil (.seq (.reg [(7,.own .ro),(11,.pr .ro QX)]) .nil)) Tryz.func174 mn⟩
end fb
namespace ja
def F (n:Nat)(_1:Int)(e2:WG):Option WG:=
 some e2
def code:=Tryz.f103.body.getD .skip
abbrev ash:List ASh:=[.ro QA,.mv Qn QT]
abbrev rsh:List RSh:=[.own Qn QT]
def B:Bd:=⟨ash,rsh,[],⟨code,6,.nil,[(.cell 4 94,.st Qr,.pr .ro QX)]⟩,[]⟩
def E:En:=⟨103,λn=>⟨B.a,B.r,λv=>F n v.1 v.2.1⟩,cD B (.seq (.reg [(4,.pr .ro QX)]) Vm) Tryz.func103 mn⟩
end ja
namespace cc
def l0 (n:Nat)(t4:WD)(t5:Int)(r7:Wk)(t8:Wk)(K0:Wk->Option Wk):Nat->Int->Wk->Option Wk
 |0,_,_=>none
 |k+1,t6,out9=>
 if decide (t6<t5)=true then
 if(0:Int)<=t6/\t6<(Jr t4:Int)then
 if Jr ([]:WN)+Jr (((Jv t4 (Jt t6) (0,(Jq,[]))).2).2:WN)<=aT then
 (ja.F n t6 ((Jv t4 (Jt t6) (0,(Jq,[]))).1,(((Jv t4 (Jt t6) (0,(Jq,[]))).2).1,[]++(((Jv t4 (Jt t6) (0,(Jq,[]))).2).2)))).bind λr10=>
 if Jr out9.1+Jr [r10]<=aT then
 l0 n t4 t5 r7 t8 K0 k (Ju.wrap (t6+1)) (out9.1++[r10],out9.2)
 else
 none
 else
 none
 else
 none
 else
 K0 out9
def l1 (n:Nat)(t12:WD)(t13:Int)(t15:Wk)(K2:Wk->Option Wk):Nat->Int->Wk->Option Wk
 |0,_,_=>none
 |k+1,t14,out16=>
 if decide (t14<t13)=true then
 if(0:Int)<=t14/\t14<(Jr t12:Int)then
 (fb.F n (Jv t12 (Jt t14) (0,(Jq,[])))).bind λr17=>
 if Jr out16.2.2+Jr [r17]<=aT then
 l1 n t12 t13 t15 K2 k (Ju.wrap (t14+1)) (out16.1,(out16.2.1,out16.2.2++[r17]))
 else
 none
 else
 none
 else
 K2 out16
def F (n:Nat)(r1:Wk)(other2:Unit×Unit):Option Wk:=
 (fb.F n r1.2.1).bind λr3=>
 l0 n r1.1 (Jr r1.1:Int) r1 ([],((0,(Jq,[])),[])) (λout11=>
 l1 n r1.2.2 (Jr r1.2.2:Int) ([],((0,(Jq,[])),[])) (λout18=>
 some out18) n 0 out11) n 0 ([],(r3,[]))
def code:=Tryz.f102.body.getD .skip
abbrev ash:List ASh:=[.ro Qf,.fc 103 [] []]
abbrev rsh:List RSh:=[.own Qf QJ]
def b0:=JA (JA (Jy (JA (Jy (Jy code)))))
def b1:=JA (JA (Jy (JA (Jy (Jy (Jy code))))))
abbrev sh0:ES:=⟨[(1,.fv 103 [] []),(2,.pt 2 []),(4,.pt 4 []),(5,.pt 5 []),(15,.v Qk),(16,.v QA),(17,.v QA)],[⟨2,.st Qg,.ro,true,false,none⟩,⟨4,.st Qg,.pr QQ QN,true,false,none⟩,⟨5,.st Qg,.pr QQ QN,true,false,none⟩]⟩
abbrev sh0_0:ES:=⟨[(2,.pt 2 []),(4,.pt 4 []),(5,.pt 5 [])],[⟨2,.st Qg,.ro,true,false,none⟩,⟨4,.st Qg,.pr QQ QN,true,false,none⟩,⟨5,.st Qg,.pr QQ QN,true,false,none⟩]⟩
abbrev sh1:ES:=⟨[(4,.pt 4 []),(5,.pt 5 []),(38,.v Qk),(39,.v QA),(40,.v QA)],[⟨4,.st Qg,.pr QQ QN,true,false,none⟩,⟨5,.st Qg,.pr QQ QN,true,false,none⟩]⟩
abbrev sh1_2:ES:=⟨[(4,.pt 4 []),(5,.pt 5 [])],[⟨4,.st Qg,.pr QQ QN,true,false,none⟩,⟨5,.st Qg,.pr QQ QN,true,false,none⟩]⟩
def g0:GL rsh sh0:=λn m x kn kx=>l0 n x.1.2.2.2.2.1 x.1.2.2.2.2.2.1 x.2.1 x.2.2.1 (λy0=>kx 0 (sh0_0.enc (((()),(()),(()),()),(x.2.1,x.2.2.1,y0,())))) m x.1.2.2.2.2.2.2.1 x.2.2.2.1
def g1:GL rsh sh1:=λn m x kn kx=>l1 n x.1.2.2.1 x.1.2.2.2.1 x.2.1 (λy0=>kx 2 (sh1_2.enc (((()),(()),()),(x.2.1,y0,())))) m x.1.2.2.2.2.1 x.2.2.1
def B:Bd:=⟨ash,rsh,[ja.E,fb.E],⟨code,53,.nil,[(.cell 4 34,.st Qg,.pr QQ QN)]⟩,[⟨0,sh0,g0⟩,⟨1,sh1,g1⟩]⟩
theorem u0:UO B 0 (.loop b0):=
 lu (.seq .nil (.seq Vl (.seq (.block (some [1,2,4,5,15,16,17]) (.seq .nil (.seq (.reg [(22,.own .ro)]) (.reg [(32,.pr .ro QX),(33,.own QT)])))) .nil))) [(0,[2,4,5])] [1,2,4,5,15,16,17] sh0 g0 mn
theorem u1:UO B 1 (.loop b1):=
 lu (.seq .nil (.seq Vl (.seq (.block (some [4,5,38,39,40]) (.seq .nil (.reg [(47,.pr .ro QX),(48,.own QT)]))) .nil))) [(2,[4,5])] [4,5,38,39,40] sh1 g1 mn
def E:En:=⟨102,λn=>⟨B.a,B.r,λv=>F n v.1 v.2.1⟩,cD B (.seq (.reg [(4,.pr QQ QN)]) (.seq (.reg [(12,.pr .ro QX),(13,.pr QQ QN),(5,.pr QQ QN)]) (.seq (.seq .nil (.block (some [2,4,5]) (.cut 0 [1,2,4,5,15,16,17]))) (.seq (.seq .nil (.block (some [4,5]) (.cut 1 [4,5,38,39,40]))) Vm)))) Tryz.func102 (mc u0 (mc u1 mn))⟩
end cc
namespace gj
def F (n:Nat)(r1:Wk):Option Wk:=
 (cc.F n r1 ((),())).bind λr2=>
 some r2
def code:=Tryz.f35.body.getD .skip
abbrev ash:List ASh:=[.ro Qf]
abbrev rsh:List RSh:=[.own Qf QJ]
def B:Bd:=⟨ash,rsh,[cc.E],⟨code,5,.nil,[(.cell 2 34,.st Qg,.pr QQ QN)]⟩,[]⟩
def E:En:=⟨35,λn=>⟨B.a,B.r,λv=>F n v.1⟩,cD B (.seq (.reg [(2,.pr QQ QN)]) (.seq (.reg [(4,.pr QQ QN)]) .nil)) Tryz.func35 mn⟩
end gj
namespace internal_stringslite_HasPrefix
def F (n:Nat)(s1:ByteArray)(t2:ByteArray):Option Bool:=
 if(decide ((Js s1:Int)>=(Js t2:Int)))=true then
 if(0:Int)<=0/\(0:Int)<=(Js t2:Int)/\(Js t2:Int)<=(Js s1:Int)then
 some (Km (JO s1 (Jt 0) (Jt (Js t2:Int))) t2)
 else
 none
 else
 some false
def code:=Tryz.f260.body.getD .skip
abbrev ash:List ASh:=[.ro .str,.ro .str]
abbrev rsh:List RSh:=[.ro .bool]
def B:Bd:=⟨ash,rsh,[],⟨code,18,.nil,[(.tmp 4,.bool,.ro)]⟩,[]⟩
def E:En:=⟨260,λn=>⟨B.a,B.r,λv=>F n v.1 v.2.1⟩,cD B Vk Tryz.func260 mn⟩
end internal_stringslite_HasPrefix
namespace dZ
def F (n:Nat)(s1:ByteArray)(t2:ByteArray):Option Bool:=
 (internal_stringslite_HasPrefix.F n s1 t2).bind λr3=>
 some r3
def code:=Tryz.f223.body.getD .skip
abbrev ash:List ASh:=[.ro .str,.ro .str]
abbrev rsh:List RSh:=[.ro .bool]
def B:Bd:=⟨ash,rsh,[internal_stringslite_HasPrefix.E],⟨code,8,.nil,[(.tmp 4,.bool,.ro)]⟩,[]⟩
def E:En:=⟨223,λn=>⟨B.a,B.r,λv=>F n v.1 v.2.1⟩,cD B Vk Tryz.func223 mn⟩
end dZ
namespace gh
def F (n:Nat)(b1:Int):Option Bool:=
 if(decide (b1>=97))=true then
 if(decide (b1<=122))=false then
 if(decide (b1>=65))=true then
 some (decide (b1<=90))
 else
 some false
 else
 some true
 else
 if(decide (b1>=65))=true then
 some (decide (b1<=90))
 else
 some false
def code:=Tryz.f216.body.getD .skip
abbrev ash:List ASh:=[.ro QB]
abbrev rsh:List RSh:=[.ro .bool]
def B:Bd:=⟨ash,rsh,[],⟨code,17,.nil,[(.tmp 2,.bool,.ro)]⟩,[]⟩
def E:En:=⟨216,λn=>⟨B.a,B.r,λv=>F n v.1⟩,cD B Vk Tryz.func216 mn⟩
end gh
namespace dJ
def F (n:Nat)(b1:Int):Option Bool:=
 if(decide (b1>=48))=true then
 some (decide (b1<=57))
 else
 some false
def code:=Tryz.f257.body.getD .skip
abbrev ash:List ASh:=[.ro QB]
abbrev rsh:List RSh:=[.ro .bool]
def B:Bd:=⟨ash,rsh,[],⟨code,9,.nil,[(.tmp 2,.bool,.ro)]⟩,[]⟩
def E:En:=⟨257,λn=>⟨B.a,B.r,λv=>F n v.1⟩,cD B Vk Tryz.func257 mn⟩
end dJ
namespace ie
def F (n:Nat)(b1:Int):Option Bool:=
 (gh.F n b1).bind λr2=>
 if r2=false then
 (dJ.F n b1).bind λr3=>
 if r3=false then
 some (decide (b1=95))
 else
 some true
 else
 some true
def code:=Tryz.f215.body.getD .skip
abbrev ash:List ASh:=[.ro QB]
abbrev rsh:List RSh:=[.ro .bool]
def B:Bd:=⟨ash,rsh,[gh.E,dJ.E],⟨code,13,.nil,[(.tmp 2,.bool,.ro)]⟩,[]⟩
def E:En:=⟨215,λn=>⟨B.a,B.r,λv=>F n v.1⟩,cD B Vk Tryz.func215 mn⟩
end ie
namespace cK
def l0 (n:Nat)(s2:ByteArray)(K0:Int->Option Int):Nat->Int->Option Int
 |0,_=>none
 |k+1,t3=>
 if(decide (t3<(Js s2:Int)))=true then
 if(0:Int)<=t3/\t3<(Js s2:Int)then
 (ie.F n (aP s2 t3)).bind λr4=>
 if r4=true then
 if(decide (t3>0))=false then
 if(0:Int)<=0/\0<(Js s2:Int)then
 (gh.F n (aP s2 0)).bind λr5=>
 if r5=true then
 l0 n s2 K0 k (Ju.wrap (t3+1))
 else
 K0 t3
 else
 none
 else
 l0 n s2 K0 k (Ju.wrap (t3+1))
 else
 K0 t3
 else
 none
 else
 K0 t3
def F (n:Nat)(s1:ByteArray):Option Int:=
 l0 n s1 (λt6=>
 some t6) n 0
def code:=Tryz.f152.body.getD .skip
abbrev ash:List ASh:=[.ro .str]
abbrev rsh:List RSh:=[.ro QA]
def b0:=JA (JA (JA (Jy (Jy code))))
abbrev sh0:ES:=⟨[(0,.v .str),(3,.v QA)],[]⟩
abbrev sh0_0:ES:=⟨[(3,.v QA)],[]⟩
def g0:GL rsh sh0:=λn m x kn kx=>l0 n x.1.1 (λy0=>kx 0 (sh0_0.enc ((y0,()),(())))) m x.1.2.1
def B:Bd:=⟨ash,rsh,[ie.E,gh.E],⟨code,26,.nil,[(.tmp 2,.int .i64,.ro)]⟩,[⟨0,sh0,g0⟩]⟩
theorem u0:UO B 0 (.loop b0):=
 lu (.seq Vi (.block (some [0,3]) .nil)) [(0,[3])] [0,3] sh0 g0 mn
def E:En:=⟨152,λn=>⟨B.a,B.r,λv=>F n v.1⟩,cD B (.seq .nil (.seq .nil (.seq (.block (some [3]) (.cut 0 [0,3])) Vm))) Tryz.func152 (mc u0 mn)⟩
end cK
namespace cG
def j1 (n:Nat)(s4:ByteArray)(t5:Int)(Kn:Int->Option Int):Option Int:=
 if(0:Int)<=t5/\t5<(Js s4:Int)then
 if decide ((aP s4 t5)=34)=true then
 some (Ju.wrap (t5+1))
 else
 if(0:Int)<=t5/\t5<(Js s4:Int)then
 if(decide ((aP s4 t5)<32))=false then
 if(0:Int)<=t5/\t5<(Js s4:Int)then
 if(decide ((aP s4 t5)>126))=false then
 if(0:Int)<=t5/\t5<(Js s4:Int)then
 if decide ((aP s4 t5)=92)=true then
 some 0
 else
 Kn (Ju.wrap (t5+1))
 else
 none
 else
 some 0
 else
 none
 else
 some 0
 else
 none
 else
 none
def l0 (n:Nat)(s2:ByteArray)(K0:Unit->Option Int):Nat->Int->Option Int
 |0,_=>none
 |k+1,t3=>
 if(decide (t3<(Js s2:Int)))=true then
 if decide (t3<=21)=true then
 j1 n s2 t3 (λt6=>
 l0 n s2 K0 k t6)
 else
 K0 ()
 else
 K0 ()
def F (n:Nat)(s1:ByteArray):Option Int:=
 l0 n s1 (λ_=>
 some 0) n 1
def code:=Tryz.f262.body.getD .skip
abbrev ash:List ASh:=[.ro .str]
abbrev rsh:List RSh:=[.ro QA]
def b0:=JA (JA (Jy (JA (Jy code))))
def c1:=Jy b0
abbrev sh1:ES:=⟨[(0,.v .str),(3,.v QA)],[]⟩
abbrev sh0_0:ES:=⟨[],[]⟩
def g1:GL rsh sh1:=λn m x kn kx=>j1 n x.1.1 x.1.2.1 (λy0=>kn (sh1.enc ((x.1.1,y0,()),(()))))
def g0:GL rsh sh1:=λn m x kn kx=>l0 n x.1.1 (λ_=>kx 0 (sh0_0.enc ((()),(())))) m x.1.2.1
def B:Bd:=⟨ash,rsh,[],⟨code,38,.nil,[(.tmp 2,.int .i64,.ro)]⟩,[⟨1,sh1,g1⟩,⟨0,sh1,g0⟩]⟩
theorem u1:UO B 1 c1:=
 ju (.seq (.block (some [0,3]) (.block (some [0,3]) WZ)) .nil) [(0,[])] [0,3] sh1 g1 mn
theorem u0:UO B 0 (.loop b0):=
 lu (.seq Vi (.cut 1 [0,3])) [(0,[])] [0,3] sh1 g0 (mc u1 mn)
def E:En:=⟨262,λn=>⟨B.a,B.r,λv=>F n v.1⟩,cD B (.seq .nil (.seq (.seq .nil (.block (some []) (.cut 0 [0,3]))) Vm)) Tryz.func262 (mc u0 mn)⟩
end cG
namespace aH
def l1 (n:Nat)(self:ByteArray->Option WM)(t6:ByteArray)(K1:Int->Option WM):Nat->Int->Option WM
 |0,_=>none
 |k+1,t7=>
 if(decide (t7<(Js t6:Int)))=true then
 if(0:Int)<=t7/\t7<(Js t6:Int)then
 (dJ.F n (aP t6 t7)).bind λr8=>
 if r8=true then
 l1 n self t6 K1 k (Ju.wrap (t7+1))
 else
 K1 t7
 else
 none
 else
 K1 t7
def l4 (n:Nat)(self:ByteArray->Option WM)(t18:ByteArray)(K3:Int->Option WM):Nat->Int->Bool->Option WM
 |0,_,_=>none
 |k+1,t19,t20=>
 if t20=true then
 if(0:Int)<=(Ju.wrap (t19+1))/\(Ju.wrap (t19+1))<=(Js t18:Int)/\(Js t18:Int)<=(Js t18:Int)then
 (self (JO t18 (Jt (Ju.wrap (t19+1))) (Jt (Js t18:Int)))).bind λr21=>
 if decide (r21.1=0)=true then
 some (0,0)
 else
 if(decide ((Ju.wrap (t19+(Ju.wrap (1+r21.2))))<(Js t18:Int)))=true then
 if(0:Int)<=(Ju.wrap (t19+(Ju.wrap (1+r21.2))))/\(Ju.wrap (t19+(Ju.wrap (1+r21.2))))<(Js t18:Int)then
 l4 n self t18 K3 k (Ju.wrap (t19+(Ju.wrap (1+r21.2)))) (decide ((aP t18 (Ju.wrap (t19+(Ju.wrap (1+r21.2)))))=44))
 else
 none
 else
 l4 n self t18 K3 k (Ju.wrap (t19+(Ju.wrap (1+r21.2)))) false
 else
 none
 else
 K3 t19
def j3 (n:Nat)(self:ByteArray->Option WM)(t16:ByteArray)(t17:Int)(Kn:Unit->Option WM):Option WM:=
 l4 n self t16 (λt22=>
 if(decide (t22<(Js t16:Int)))=true then
 if(0:Int)<=t22/\t22<(Js t16:Int)then
 if decide ((aP t16 t22)=41)=true then
 some (3,Ju.wrap (t22+1))
 else
 Kn ()
 else
 none
 else
 Kn ()) n t17 true
def j2 (n:Nat)(self:ByteArray->Option WM)(t13:ByteArray)(t14:Bool)(Kn:Unit->Option WM):Option WM:=
 if t14=true then
 (cK.F n t13).bind λr15=>
 if decide (r15>20)=true then
 some (0,0)
 else
 if(decide (r15=(Js t13:Int)))=false then
 if(0:Int)<=r15/\r15<(Js t13:Int)then
 if(!decide ((aP t13 r15)=40))=true then
 some (3,r15)
 else
 j3 n self t13 r15 (λ_=>
 Kn ())
 else
 none
 else
 some (3,r15)
 else
 Kn ()
def j0 (n:Nat)(self:ByteArray->Option WM)(t4:ByteArray)(t5:Bool)(Kn:Unit->Option WM):Option WM:=
 if t5=true then
 l1 n self t4 (λt9=>
 if(0:Int)<=0/\(0:Int)<=t9/\t9<=(Js t4:Int)then
 (fa.F n (JO t4 (Jt 0) (Jt t9))).bind λr10=>
 if(r10.2&&false)=true then
 none
 else
 if(r10.2==false)=true then
 (eE.F n r10.1 (-1000000) 1000000).bind λr11=>
 if r11=true then
 (cI.F n r10.1).bind λr12=>
 if(0:Int)<=0/\(0:Int)<=t9/\t9<=(Js t4:Int)then
 if(Km r12 (JO t4 (Jt 0) (Jt t9)))=true then
 some (1,t9)
 else
 Kn ()
 else
 none
 else
 Kn ()
 else
 Kn ()
 else
 none) n 1
 else
 if(0:Int)<=0/\0<(Js t4:Int)then
 if(decide ((aP t4 0)>=65))=true then
 if(0:Int)<=0/\0<(Js t4:Int)then
 j2 n self t4 (decide ((aP t4 0)<=90)) (λ_=>
 Kn ())
 else
 none
 else
 j2 n self t4 false (λ_=>
 Kn ())
 else
 none
def G (n:Nat)(self:ByteArray->Option WM)(t1:ByteArray):Option WM:=
 if(Km t1 Jq)=true then
 some (0,0)
 else
 if(0:Int)<=0/\0<(Js t1:Int)then
 if decide ((aP t1 0)=34)=true then
 (cG.F n t1).bind λr2=>
 if decide (r2>0)=true then
 some (2,r2)
 else
 some (0,0)
 else
 if(0:Int)<=0/\0<(Js t1:Int)then
 if(decide ((aP t1 0)=45))=false then
 if(0:Int)<=0/\0<(Js t1:Int)then
 (dJ.F n (aP t1 0)).bind λr3=>
 j0 n self t1 r3 (λ_=>
 some (0,0))
 else
 none
 else
 j0 n self t1 true (λ_=>
 some (0,0))
 else
 none
 else
 none
def F:Nat->ByteArray->Option WM
 |0=>λ_=>none
 |n+1=>G n (F n)
def code:Code:=Tryz.f283.body.getD .skip
abbrev ash:List ASh:=[.ro .str]
abbrev rsh:List RSh:=[.ro QA,.ro QA]
def ent (n:Nat):ip:=⟨ash,rsh,λv=>F n v.1⟩
def cx (n:Nat):fX:=jJ JC TYS [(125,eE.E.e n),(128,cI.E.e n),(152,cK.E.e n),(257,dJ.E.e n),(262,cG.E.e n),(292,fa.E.e n),(283,ent n)]
def d:rK:=⟨code,127,.nil,[(.tmp 2,.int .i64,.ro),(.tmp 3,.int .i64,.ro)]⟩
def kr (n:Nat)(v:jH ash):KN rsh:=jR (cx n) d (eJ ash v) (iu rsh)
def b1:Code:=JA (JA (JA (Jy (JA (Jy (Jy (Jy (JA (JA (Jy (Jy code)))))))))))
def b4:Code:=JA (JA (Jy (JA (Jy (Jy (Jy (JA (Jy (Jy (Jy (Jy (Jy (JA (JA (Jy (Jy code))))))))))))))))
def c3:Code:=(Jy (Jy (Jy (JA (Jy (Jy (Jy (Jy (Jy (JA (JA (Jy (Jy code)))))))))))))
def c2:Code:=(Jy (Jy (Jy (Jy (Jy (JA (JA (Jy (Jy code)))))))))
def c0:Code:=(Jy (Jy (Jy (JA (JA (Jy (Jy code)))))))
def an:An:=.seq .nil (.seq Vf (.seq (.block (some []) (.seq .nil (.cond Va (.seq .nil (.cut 0 [0,23]))))) Vm))
def an1:An:=.seq Vi (.block (some [0,5]) .nil)
abbrev sh1:ES:=⟨[(0,.v .str),(5,.v QA)],[]⟩
abbrev sh1_1:ES:=⟨[(0,.v .str),(5,.v QA)],[]⟩
def an4:An:=.seq Vi (.seq (.block (some [0,8]) W3) .nil)
abbrev sh4:ES:=⟨[(0,.v .str),(8,.v QA),(9,.v .bool)],[]⟩
abbrev sh4_3:ES:=⟨[(0,.v .str),(8,.v QA)],[]⟩
def an3:An:=.seq (.seq .nil (.block (some [0,8]) (.cut 4 [0,8,9]))) Vf
abbrev sh3:ES:=⟨[(0,.v .str),(8,.v QA)],[]⟩
abbrev sh3_n:ES:=⟨[],[]⟩
def an2:An:=.cond (.seq .nil (.seq Vf (.seq Vf (.cut 3 [0,8])))) .nil
abbrev sh2:ES:=⟨[(0,.v .str),(66,.v .bool)],[]⟩
abbrev sh2_n:ES:=⟨[],[]⟩
def an0:An:=.cond (.seq .nil (.seq (.block (some [0,5]) (.cut 1 [0,5])) Va)) (.seq .nil (.cut 2 [0,66]))
abbrev sh0:ES:=⟨[(0,.v .str),(23,.v .bool)],[]⟩
abbrev sh0_n:ES:=⟨[],[]⟩
def g1 (n m:Nat)(x:sh1.V)(kn:KN rsh)(kx:KX rsh):Option (jS rsh):=l1 n (F n) x.1.1 (λy0=>kx 1 (sh1_1.enc ((x.1.1,y0,()),(())))) m x.1.2.1
def g4 (n m:Nat)(x:sh4.V)(kn:KN rsh)(kx:KX rsh):Option (jS rsh):=l4 n (F n) x.1.1 (λy0=>kx 3 (sh4_3.enc ((x.1.1,y0,()),(())))) m x.1.2.1 x.1.2.2.1
def g3 (n m:Nat)(x:sh3.V)(kn:KN rsh)(kx:KX rsh):Option (jS rsh):=j3 n (F n) x.1.1 x.1.2.1 (λ_=>kn (sh3_n.enc ((()),(()))))
def g2 (n m:Nat)(x:sh2.V)(kn:KN rsh)(kx:KX rsh):Option (jS rsh):=j2 n (F n) x.1.1 x.1.2.1 (λ_=>kn (sh2_n.enc ((()),(()))))
def g0 (n m:Nat)(x:sh0.V)(kn:KN rsh)(kx:KX rsh):Option (jS rsh):=j0 n (F n) x.1.1 x.1.2.1 (λ_=>kn (sh0_n.enc ((()),(()))))
def T (n:Nat):tg (jS rsh):=λj e kn kx=>match j with
 |1=>Mm sh1 e λx=>g1 n n x kn kx
 |4=>Mm sh4 e λx=>g4 n n x kn kx
 |3=>Mm sh3 e λx=>g3 n n x kn kx
 |2=>Mm sh2 e λx=>g2 n n x kn kx
 |0=>Mm sh0 e λx=>g0 n n x kn kx
 |_=>none
theorem mk (n:Nat)(ih:aq JC 283 (ent n)):lZ (cx n):=fN (mem_cons (eE.E.ok n) (mem_cons (cI.E.ok n) (mem_cons (cK.E.ok n) (mem_cons (dJ.E.ok n) (mem_cons (cG.E.ok n) (mem_cons (fa.E.ok n) (mem_cons ih bD)))))))
theorem u1 (n:Nat)(v:jH ash)(ih:aq JC 283 (ent n)):cQ (cx n) 127 (T n) (kr n v) 1 (.loop b1):=
 kz (n:=n) (CO _) (mk n ih) (MX _) an1 [(0,[]),(1,[0,5])] [0,5] sh1 (g1 n) (λ_ _ _=>rfl) (λ_ _ _=>rfl) (λm x kn kx=>by kernel_rfl) (l:=[]) (by kernel_rfl) (bD)
theorem u4 (n:Nat)(v:jH ash)(ih:aq JC 283 (ent n)):cQ (cx n) 127 (T n) (kr n v) 4 (.loop b4):=
 kz (n:=n) (CO _) (mk n ih) (MX _) an4 [(0,[]),(3,[0,8])] [0,8,9] sh4 (g4 n) (λ_ _ _=>rfl) (λ_ _ _=>rfl) (λm x kn kx=>by kernel_rfl) (l:=[]) (by kernel_rfl) (bD)
theorem u3 (n:Nat)(v:jH ash)(ih:aq JC 283 (ent n)):cQ (cx n) 127 (T n) (kr n v) 3 (c3):=
 jz (CO _) (mk n ih) (MX _) an3 [(0,[])] [] sh3 (g3 n n) (λ_ _ _=>rfl) (λx kn kx=>by kernel_rfl) (l:=[(4,.loop b4)]) (by kernel_rfl) (mem_cons (u4 n v ih) bD)
theorem u2 (n:Nat)(v:jH ash)(ih:aq JC 283 (ent n)):cQ (cx n) 127 (T n) (kr n v) 2 (c2):=
 jz (CO _) (mk n ih) (MX _) an2 [(0,[])] [] sh2 (g2 n n) (λ_ _ _=>rfl) (λx kn kx=>by kernel_rfl) (l:=[(3,c3)]) (by kernel_rfl) (mem_cons (u3 n v ih) bD)
theorem u0 (n:Nat)(v:jH ash)(ih:aq JC 283 (ent n)):cQ (cx n) 127 (T n) (kr n v) 0 (c0):=
 jz (CO _) (mk n ih) (MX _) an0 [(0,[])] [] sh0 (g0 n n) (λ_ _ _=>rfl) (λx kn kx=>by kernel_rfl) (l:=[(1,.loop b1),(2,c2)]) (by kernel_rfl) (mem_cons (u1 n v ih) (mem_cons (u2 n v ih) bD))
theorem ok:(n:Nat)->aq JC 283 (ent n)
 |0=>gw Tryz.f283 (by kernel_rfl) (by kernel_rfl) (by kernel_rfl) (λ_=>rfl)
 |n+1=>have ih:=ok n
  iv (c:=cx n) (e:=ent (n+1)) (d:=d) (CO _) (mk n ih) (MX _) an Tryz.func283 (by kernel_rfl) (T n) (l:=[(0,c0)]) (by kernel_rfl) (λv=>mem_cons (u0 n v ih) bD) (λv=>by kernel_rfl)
def E:En:=⟨283,ent,ok⟩
end aH
namespace gK
def F (n:Nat)(s1:ByteArray):Option Int:=
 (aH.F n s1).bind λr2=>
 if(decide ((Js s1:Int)>200))=false then
 if(!decide (r2.2=(Js s1:Int)))=true then
 some 0
 else
 some r2.1
 else
 some 0
def code:=Tryz.f261.body.getD .skip
abbrev ash:List ASh:=[.ro .str]
abbrev rsh:List RSh:=[.ro QA]
def B:Bd:=⟨ash,rsh,[aH.E],⟨code,20,.nil,[(.tmp 2,.int .i64,.ro)]⟩,[]⟩
def E:En:=⟨261,λn=>⟨B.a,B.r,λv=>F n v.1⟩,cD B WX Tryz.func261 mn⟩
end gK
namespace bZ
def l0 (n:Nat)(s4:ByteArray)(K1:Int->Option WK):Nat->Int->Option WK
 |0,_=>none
 |k+1,t5=>
 if(decide (t5<(Js s4:Int)))=true then
 if(0:Int)<=t5/\t5<(Js s4:Int)then
 (dJ.F n (aP s4 t5)).bind λr6=>
 if r6=true then
 l0 n s4 K1 k (Ju.wrap (t5+1))
 else
 K1 t5
 else
 none
 else
 K1 t5
def l1 (n:Nat)(s10:ByteArray)(t11:WL)(t12:Int)(K3:Unit->Option WK):Nat->Int->Option WK
 |0,_=>none
 |k+1,t13=>
 if decide (t13<t12)=true then
 if(0:Int)<=t13/\t13<(Jr t11:Int)then
 (dZ.F n s10 (Jv t11 (Jt t13) Jq)).bind λr14=>
 if r14=true then
 some (5,(Js (Jv t11 (Jt t13) Jq):Int),0)
 else
 l1 n s10 t11 t12 K3 k (Ju.wrap (t13+1))
 else
 none
 else
 K3 ()
def F (n:Nat)(s1:ByteArray):Option WK:=
 (cK.F n s1).bind λr2=>
 if decide (r2>0)=true then
 if decide (r2>20)=true then
 some (0,0,2)
 else
 if(0:Int)<=0/\0<(Js s1:Int)then
 if decide ((aP s1 0)>=97)=true then
 some (1,r2,0)
 else
 some (2,r2,0)
 else
 none
 else
 if(0:Int)<=0/\0<(Js s1:Int)then
 (dJ.F n (aP s1 0)).bind λr3=>
 if r3=true then
 l0 n s1 (λt7=>
 if(0:Int)<=0/\(0:Int)<=t7/\t7<=(Js s1:Int)then
 (gK.F n (JO s1 (Jt 0) (Jt t7))).bind λr8=>
 if(!decide (r8=1))=true then
 some (0,0,4)
 else
 some (3,t7,0)
 else
 none) n 0
 else
 if(0:Int)<=0/\0<(Js s1:Int)then
 if decide ((aP s1 0)=34)=true then
 (cG.F n s1).bind λr9=>
 if decide (r9>0)=true then
 some (4,r9,0)
 else
 some (0,0,3)
 else
 l1 n s1 ([⟨#[58,45]⟩,⟨#[33,61]⟩,⟨#[60,61]⟩,⟨#[40]⟩,⟨#[41]⟩,⟨#[44]⟩,⟨#[46]⟩,⟨#[33]⟩,⟨#[61]⟩,⟨#[60]⟩,⟨#[43]⟩,⟨#[45]⟩,⟨#[42]⟩,⟨#[124]⟩,⟨#[95]⟩]:WL) (Jr ([⟨#[58,45]⟩,⟨#[33,61]⟩,⟨#[60,61]⟩,⟨#[40]⟩,⟨#[41]⟩,⟨#[44]⟩,⟨#[46]⟩,⟨#[33]⟩,⟨#[61]⟩,⟨#[60]⟩,⟨#[43]⟩,⟨#[45]⟩,⟨#[42]⟩,⟨#[124]⟩,⟨#[95]⟩]:WL):Int) (λ_=>
 some (0,0,2)) n 0
 else
 none
 else
 none
def code:=Tryz.f224.body.getD .skip
abbrev ash:List ASh:=[.ro .str]
abbrev rsh:List RSh:=[.ro QA,.ro QA,.ro QA]
def b1:=JA (JA (Jy (JA (Jy (Jy (Jy (Jy code)))))))
def b0:=JA (JA (JA (Jy (JA (Jy (JA (Jy (Jy code))))))))
abbrev sh0:ES:=⟨[(0,.v .str),(6,.v QA)],[]⟩
abbrev sh1:ES:=⟨[(0,.v .str),(52,.v Qz),(53,.v QA),(54,.v QA)],[]⟩
abbrev sh1_3:ES:=⟨[],[]⟩
def g0:GL rsh sh0:=λn m x kn kx=>l0 n x.1.1 (λy0=>kx 1 (sh0.enc ((x.1.1,y0,()),(())))) m x.1.2.1
def g1:GL rsh sh1:=λn m x kn kx=>l1 n x.1.1 x.1.2.1 x.1.2.2.1 (λ_=>kx 3 (sh1_3.enc ((()),(())))) m x.1.2.2.2.1
def B:Bd:=⟨ash,rsh,[cK.E,dZ.E,dJ.E,gK.E,cG.E],⟨code,64,.nil,[(.tmp 2,.int .i64,.ro),(.tmp 3,.int .i64,.ro),(.tmp 4,.int .i64,.ro)]⟩,[⟨0,sh0,g0⟩,⟨1,sh1,g1⟩]⟩
theorem u0:UO B 0 (.loop b0):=
 lu (.seq Vi (.block (some [0,6]) .nil)) [(1,[0,6])] [0,6] sh0 g0 mn
theorem u1:UO B 1 (.loop b1):=
 lu (.seq .nil (.seq Vl (.seq (.block (some [0,52,53,54]) Va) .nil))) [(3,[])] [0,52,53,54] sh1 g1 mn
def E:En:=⟨224,λn=>⟨B.a,B.r,λv=>F n v.1⟩,cD B (.seq .nil (.seq (.seq .nil (.seq .nil (.cond (.seq (.block (some [5]) WZ) Vm) .nil))) (.seq (.seq .nil (.cond (.seq .nil (.seq (.block (some [0,6]) (.cut 0 [0,6])) W4)) .nil)) (.seq (.seq .nil (.cond W1 .nil)) (.seq (.seq .nil (.block (some []) (.cut 1 [0,52,53,54]))) Vm))))) Tryz.func224 (mc u0 (mc u1 mn))⟩
end bZ
namespace db
def l1 (n:Nat)(t7:ByteArray)(t9:WF)(K3:Int->Option Wx):Nat->Int->Option Wx
 |0,_=>none
 |k+1,t8=>
 if(decide (t8<(Js t7:Int)))=true then
 if(0:Int)<=t8/\t8<(Js t7:Int)then
 if(!decide ((aP t7 t8)=10))=true then
 l1 n t7 t9 K3 k (Ju.wrap (t8+1))
 else
 K3 t8
 else
 none
 else
 K3 t8
def l0 (n:Nat)(t2:ByteArray)(K0:WF->Option Wx):Nat->Int->WF->Option Wx
 |0,_,_=>none
 |k+1,t3,t4=>
 if decide (t3<(Js t2:Int))=true then
 if(0:Int)<=t3/\t3<(Js t2:Int)then
 (ix.F n ⟨#[32,9,10,13]⟩ (aP t2 t3)).bind λr5=>
 if decide (r5>=0)=true then
 l0 n t2 K0 k (Ju.wrap (t3+1)) t4
 else
 if(0:Int)<=t3/\t3<=(Js t2:Int)/\(Js t2:Int)<=(Js t2:Int)then
 (dZ.F n (JO t2 (Jt t3) (Jt (Js t2:Int))) ⟨#[47,47]⟩).bind λr6=>
 if r6=true then
 l1 n t2 t4 (λt10=>
 l0 n t2 K0 k t10 t4) n t3
 else
 if(0:Int)<=t3/\t3<=(Js t2:Int)/\(Js t2:Int)<=(Js t2:Int)then
 (bZ.F n (JO t2 (Jt t3) (Jt (Js t2:Int)))).bind λr11=>
 if(!decide (r11.2.2=0))=true then
 some ([],t3,r11.2.2)
 else
 if(0:Int)<=t3/\t3<=(Ju.wrap (t3+r11.2.1))/\(Ju.wrap (t3+r11.2.1))<=(Js t2:Int)then
 if Jr t4+Jr [(r11.1,(JO t2 (Jt t3) (Jt (Ju.wrap (t3+r11.2.1))),t3))]<=aT then
 l0 n t2 K0 k (Ju.wrap (t3+r11.2.1)) (t4++[(r11.1,(JO t2 (Jt t3) (Jt (Ju.wrap (t3+r11.2.1))),t3))])
 else
 none
 else
 none
 else
 none
 else
 none
 else
 none
 else
 K0 t4
def F (n:Nat)(t1:ByteArray):Option Wx:=
 if decide ((Js t1:Int)>3000)=true then
 some ([],0,1)
 else
 l0 n t1 (λt12=>
 some (t12,0,0)) n 0 []
def code:=Tryz.f175.body.getD .skip
abbrev ash:List ASh:=[.ro .str]
abbrev rsh:List RSh:=[.ro Qo,.ro QA,.ro QA]
def b0:=JA (JA (Jy (JA (Jy (Jy (Jy code))))))
def b1:=JA (JA (JA (JA (Jy (Jy (Jy (JA (JA (JA (Jy b0))))))))))
abbrev sh1:ES:=⟨[(0,.v .str),(5,.al 5 []),(6,.v QA)],[⟨5,.sl Qs,.own .ro,false,false,none⟩]⟩
abbrev sh0_0:ES:=⟨[(5,.al 5 [])],[⟨5,.sl Qs,.own .ro,false,false,none⟩]⟩
def g1:GL rsh sh1:=λn m x kn kx=>l1 n x.1.1 x.2.1 (λy0=>kx 3 (sh1.enc ((x.1.1,(()),y0,()),(x.2.1,())))) m x.1.2.2.1
def g0:GL rsh sh1:=λn m x kn kx=>l0 n x.1.1 (λy0=>kx 0 (sh0_0.enc (((()),()),(y0,())))) m x.1.2.2.1 x.2.1
def B:Bd:=⟨ash,rsh,[ix.E,dZ.E,bZ.E],⟨code,71,.nil,[(.tmp 2,.sl Qs,.ro),(.tmp 3,.int .i64,.ro),(.tmp 4,.int .i64,.ro)]⟩,[⟨1,sh1,g1⟩,⟨0,sh1,g0⟩]⟩
theorem u1:UO B 1 (.loop b1):=
 lu (.seq Vi (.block (some [0,5,6]) .nil)) [(0,[5]),(1,[0,5,6]),(2,[0,5,6]),(3,[0,5,6])] [0,5,6] sh1 g1 mn
theorem u0:UO B 0 (.loop b0):=
 lu (.seq Vi (.block (some [0,5,6]) (.seq (.block (some [0,5,6]) (.seq .nil (.cond Vm (.seq .nil (.cond (.seq (.block (some [0,5,6]) (.cut 1 [0,5,6])) .nil) .nil))))) W2))) [(0,[5])] [0,5,6] sh1 g0 (mc u1 mn)
def E:En:=⟨175,λn=>⟨B.a,B.r,λv=>F n v.1⟩,cD B (.seq .nil (.seq Vf (.seq (.reg [(13,.own .ro)]) (.seq (.seq .nil (.block (some [5]) (.cut 0 [0,5,6]))) Vm)))) Tryz.func175 (mc u0 mn)⟩
end db
namespace aZ
def F (n:Nat)(p1:Wt)(behind2:Int):Option WJ:=
 if(decide (p1.2.2.2.1>=0))=false then
 if decide ((Ju.wrap (p1.2.1+behind2))>=(Jr p1.1:Int))=true then
 some (0,(Jq,0))
 else
 if(0:Int)<=(Ju.wrap (p1.2.1+behind2))/\(Ju.wrap (p1.2.1+behind2))<(Jr p1.1:Int)then
 some (Jv p1.1 (Jt (Ju.wrap (p1.2.1+behind2))) (0,(Jq,0)))
 else
 none
 else
 some (0,(Jq,0))
def code:=Tryz.f263.body.getD .skip
abbrev ash:List ASh:=[.rp Qh,.ro QA]
abbrev rsh:List RSh:=[.ro Qs]
def B:Bd:=⟨ash,rsh,[],⟨code,37,.nil,[(.cell 4 218,.st Qu,.ro)]⟩,[]⟩
def E:En:=⟨263,λn=>⟨B.a,B.r,λv=>F n v.1 v.2.1⟩,cD B W2 Tryz.func263 mn⟩
end aZ
namespace bP
def F (n:Nat)(p1:Wt)(word2:ByteArray):Option Bool:=
 (aZ.F n p1 0).bind λr3=>
 if(decide (r3.1=1))=true then
 some (Km r3.2.1 word2)
 else
 some false
def code:=Tryz.f225.body.getD .skip
abbrev ash:List ASh:=[.rp Qh,.ro .str]
abbrev rsh:List RSh:=[.ro .bool]
def B:Bd:=⟨ash,rsh,[aZ.E],⟨code,17,.nil,[(.tmp 4,.bool,.ro)]⟩,[]⟩
def E:En:=⟨225,λn=>⟨B.a,B.r,λv=>F n v.1 v.2.1⟩,cD B Vh Tryz.func225 mn⟩
end bP
open Go.Proofs
namespace aY
def F (n:Nat)(p1:Wt):Option Wt:=
 if decide (p1.2.2.2.1>=0)=true then
 some p1
 else
 if decide (p1.2.1<(Jr p1.1:Int))=true then
 if(0:Int)<=p1.2.1/\p1.2.1<(Jr p1.1:Int)then
 some (p1.1,(p1.2.1,(p1.2.2.1,(((Jv p1.1 (Jt p1.2.1) (0,(Jq,0))).2).2,p1.2.2.2.2))))
 else
 none
 else
 some (p1.1,(p1.2.1,(p1.2.2.1,(p1.2.2.1,p1.2.2.2.2))))
def code:=Tryz.f264.body.getD .skip
abbrev ash:List ASh:=[.mp Qh .ro]
abbrev rsh:List RSh:=[.out Qh]
def B:Bd:=⟨ash,rsh,[],⟨code,38,.nil,[]⟩,[]⟩
def E:En:=⟨264,λn=>⟨B.a,B.r,λv=>F n v.1⟩,cD B (.seq Vi Ve) Tryz.func264 mn⟩
end aY
namespace bR
def F (n:Nat)(p1:Wt)(kind2:Int):Option Wo:=
 (aZ.F n p1 0).bind λr3=>
 if(!decide (r3.1=kind2))=true then
 (aY.F n p1).bind λr4=>
 some (Jq,r4)
 else
 some (r3.2.1,(p1.1,(Ju.wrap (p1.2.1+1),p1.2.2)))
def code:=Tryz.f226.body.getD .skip
abbrev ash:List ASh:=[.mp Qh .ro,.ro QA]
abbrev rsh:List RSh:=[.ro .str,.out Qh]
def B:Bd:=⟨ash,rsh,[aZ.E,aY.E],⟨code,23,.nil,[(.tmp 4,.str,.ro)]⟩,[]⟩
def E:En:=⟨226,λn=>⟨B.a,B.r,λv=>F n v.1 v.2.1⟩,cD B WW Tryz.func226 mn⟩
end bR
namespace bV
def F (n:Nat)(p1:Wt)(sign2:ByteArray):Option Bool:=
 (aZ.F n p1 0).bind λr3=>
 if(decide (r3.1=5))=true then
 some (Km r3.2.1 sign2)
 else
 some false
def code:=Tryz.f230.body.getD .skip
abbrev ash:List ASh:=[.rp Qh,.ro .str]
abbrev rsh:List RSh:=[.ro .bool]
def B:Bd:=⟨ash,rsh,[aZ.E],⟨code,17,.nil,[(.tmp 4,.bool,.ro)]⟩,[]⟩
def E:En:=⟨230,λn=>⟨B.a,B.r,λv=>F n v.1 v.2.1⟩,cD B Vh Tryz.func230 mn⟩
end bV
namespace aD
def F (n:Nat)(p1:Wt)(sign2:ByteArray):Option (Bool×WF×Int×Int×Int×Bool):=
 (bV.F n p1 sign2).bind λr3=>
 if r3=true then
 some (r3,(p1.1,(Ju.wrap (p1.2.1+1),p1.2.2)))
 else
 some (r3,p1)
def code:=Tryz.f229.body.getD .skip
abbrev ash:List ASh:=[.mp Qh .ro,.ro .str]
abbrev rsh:List RSh:=[.ro .bool,.out Qh]
def B:Bd:=⟨ash,rsh,[bV.E],⟨code,18,.nil,[(.tmp 4,.bool,.ro)]⟩,[]⟩
def E:En:=⟨229,λn=>⟨B.a,B.r,λv=>F n v.1 v.2.1⟩,cD B W0 Tryz.func229 mn⟩
end aD
namespace aA
def F (n:Nat)(p1:Wt)(sign2:ByteArray):Option Wt:=
 (aD.F n p1 sign2).bind λr3=>
 if(!r3.1)=true then
 (aY.F n r3.2).bind λr4=>
 some r4
 else
 some r3.2
def code:=Tryz.f227.body.getD .skip
abbrev ash:List ASh:=[.mp Qh .ro,.ro .str]
abbrev rsh:List RSh:=[.out Qh]
def B:Bd:=⟨ash,rsh,[aD.E,aY.E],⟨code,10,.nil,[]⟩,[]⟩
def E:En:=⟨227,λn=>⟨B.a,B.r,λv=>F n v.1 v.2.1⟩,cD B Vi Tryz.func227 mn⟩
end aA
namespace dp
def j0 (n:Nat)(p6:Wt)(t7:WJ):Option Wo:=
 some (t7.2.1,(p6.1,(Ju.wrap (p6.2.1+1),p6.2.2)))
def F (n:Nat)(p1:Wt):Option Wo:=
 (aZ.F n p1 0).bind λr2=>
 if(!decide (r2.1=2))=true then
 (bP.F n p1 ⟨#[110,117,109,98,101,114]⟩).bind λr3=>
 if(!r3)=true then
 (bP.F n p1 ⟨#[115,121,109,98,111,108]⟩).bind λr4=>
 if(!r4)=true then
 (aY.F n p1).bind λr5=>
 some (Jq,r5)
 else
 j0 n p1 r2
 else
 j0 n p1 r2
 else
 j0 n p1 r2
def code:=Tryz.f265.body.getD .skip
abbrev ash:List ASh:=[.mp Qh .ro]
abbrev rsh:List RSh:=[.ro .str,.out Qh]
def c0:=Jy (Jy (Jy code))
abbrev sh0:ES:=⟨[(0,.pt 0 []),(3,.pt 3 [])],[⟨0,.st Qi,.ro,true,true,none⟩,⟨3,.st Qu,.ro,true,false,none⟩]⟩
def g0:GL rsh sh0:=λn m x kn kx=>j0 n x.2.1 x.2.2.1
def B:Bd:=⟨ash,rsh,[bP.E,aZ.E,aY.E],⟨code,30,.nil,[(.tmp 2,.str,.ro)]⟩,[⟨0,sh0,g0⟩]⟩
theorem u0:UO B 0 c0:=
 ju Vk [] [0,2] sh0 g0 mn
def E:En:=⟨265,λn=>⟨B.a,B.r,λv=>F n v.1⟩,cD B (.seq .nil (.seq .nil (.seq W9 (.cut 0 [0,3])))) Tryz.func265 (mc u0 mn)⟩
end dp
namespace bQ
def l0 (n:Nat)(K0:Wt->WL->Option Wn):Nat->Wt->WL->Option Wn
 |0,_,_=>none
 |k+1,p3,out4=>
 (aD.F n p3 ⟨#[44]⟩).bind λr5=>
 if r5.1=true then
 (dp.F n r5.2).bind λr6=>
 if Jr out4+Jr [r6.1]<=aT then
 l0 n K0 k r6.2 (out4++[r6.1])
 else
 none
 else
 K0 r5.2 out4
def F (n:Nat)(p1:Wt):Option Wn:=
 (dp.F n p1).bind λr2=>
 l0 n (λp7 out8=>
 if p7.2.2.2.2=false then
 some (out8,(p7.1,(p7.2.1,(p7.2.2.1,(p7.2.2.2.1,decide ((Jr out8:Int)>6))))))
 else
 some (out8,(p7.1,(p7.2.1,(p7.2.2.1,(p7.2.2.2.1,true)))))) n r2.2 [r2.1]
def code:=Tryz.f231.body.getD .skip
abbrev ash:List ASh:=[.mp Qh .ro]
abbrev rsh:List RSh:=[.ro Qz,.out Qh]
def b0:=JA (JA (JA (Jy (Jy code))))
abbrev sh0:ES:=⟨[(0,.pt 0 []),(3,.al 3 [])],[⟨0,.st Qi,.ro,true,true,none⟩,⟨3,.sl QC,.own .ro,false,false,none⟩]⟩
def g0:GL rsh sh0:=λn m x kn kx=>l0 n (λy0 y1=>kx 0 (sh0.enc (((()),(()),()),(y0,y1,())))) m x.2.1 x.2.2.1
def B:Bd:=⟨ash,rsh,[aD.E,dp.E],⟨code,27,.nil,[(.tmp 2,.sl QC,.ro)]⟩,[⟨0,sh0,g0⟩]⟩
theorem u0:UO B 0 (.loop b0):=
 lu (.seq Vi (.block (some [0,3]) .nil)) [(0,[0,3])] [0,3] sh0 g0 mn
def E:En:=⟨231,λn=>⟨B.a,B.r,λv=>F n v.1⟩,cD B (.seq .nil (.seq (.reg [(6,.own .ro)]) (.seq (.block (some [0,3]) (.cut 0 [0,3])) Vk))) Tryz.func231 (mc u0 mn)⟩
end bQ
namespace ei
def F (n:Nat)(p1:Wt):Option (WH×WF×Int×Int×Int×Bool):=
 (bR.F n p1 2).bind λr2=>
 (aD.F n r2.2 ⟨#[40]⟩).bind λr3=>
 if r3.1=true then
 (bQ.F n r3.2).bind λr4=>
 (aA.F n r4.2 ⟨#[41]⟩).bind λr5=>
 some ((r2.1,r4.1),r5)
 else
 some ((r2.1,[]),r3.2)
def code:=Tryz.f228.body.getD .skip
abbrev ash:List ASh:=[.mp Qh .ro]
abbrev rsh:List RSh:=[.ro Qw,.out Qh]
def B:Bd:=⟨ash,rsh,[bR.E,aA.E,aD.E,bQ.E],⟨code,15,.nil,[(.cell 2 177,.st Qx,.ro)]⟩,[]⟩
def E:En:=⟨228,λn=>⟨B.a,B.r,λv=>F n v.1⟩,cD B WX Tryz.func228 mn⟩
end ei
namespace fu
def F (n:Nat):Option WL:=
 some ([Jq,⟨#[105,110,112,117,116]⟩,⟨#[111,117,116,112,117,116]⟩,⟨#[105,110,108,105,110,101]⟩]:WL)
def code:=Tryz.f206.body.getD .skip
abbrev ash:List ASh:=[]
abbrev rsh:List RSh:=[.ro Qz]
def B:Bd:=⟨ash,rsh,[],⟨code,2,.nil,[(.tmp 0,.sl QC,.ro)]⟩,[]⟩
def E:En:=⟨206,λn=>⟨B.a,B.r,λv=>F n⟩,cD B Vk Tryz.func206 mn⟩
end fu
namespace iL
def F (n:Nat)(s1:ByteArray):Option Int:=
 (fa.F n s1).bind λr2=>
 some r2.1
def code:=Tryz.f305.body.getD .skip
abbrev ash:List ASh:=[.ro .str]
abbrev rsh:List RSh:=[.ro QA]
def B:Bd:=⟨ash,rsh,[fa.E],⟨code,11,.nil,[(.tmp 2,.int .i64,.ro)]⟩,[]⟩
def E:En:=⟨305,λn=>⟨B.a,B.r,λv=>F n v.1⟩,cD B Vh Tryz.func305 mn⟩
end iL
namespace bq
def F (n:Nat)(r1:WD)(e2:WG):Option Wz:=
 if Jr r1+Jr [e2]<=aT then
 some (Ju.wrap ((Jr (r1++[e2]):Int) - 1),r1++[e2])
 else
 none
def code:=Tryz.f294.body.getD .skip
abbrev ash:List ASh:=[.mp Qk QQ,.mv Qn QT]
abbrev rsh:List RSh:=[.ro QA,.out Qk]
def B:Bd:=⟨ash,rsh,[],⟨code,21,.nil,[(.tmp 4,.int .i64,.ro)]⟩,[]⟩
def E:En:=⟨294,λn=>⟨B.a,B.r,λv=>F n v.1 v.2.1⟩,cD B (.seq .nil (.seq (.reg [(11,.own QT)]) Vm)) Tryz.func294 mn⟩
end bq
namespace ac
def l0 (n:Nat)(self5800284:Wt->WD->Option Wi)(self5900285:Wc)(self6000293:Wc)(self6100299:Wc)(K0:Wt->WD->WN->Option Wi):Nat->Wt->WD->WN->Option Wi
 |0,_,_,_=>none
 |k+1,p4,r5,out6=>
 (aD.F n p4 ⟨#[44]⟩).bind λr7=>
 if r7.1=true then
 (self5900285 r7.2 r5).bind λr8=>
 if Jr out6+Jr [r8.1]<=aT then
 l0 n self5800284 self5900285 self6000293 self6100299 K0 k r8.2.1 r8.2.2 (out6++[r8.1])
 else
 none
 else
 K0 r7.2 r5 out6
def G (n:Nat)(self5800284:Wt->WD->Option Wi)(self5900285:Wc)(self6000293:Wc)(self6100299:Wc)(p1:Wt)(r2:WD):Option Wi:=
 (self5900285 p1 r2).bind λr3=>
 l0 n self5800284 self5900285 self6000293 self6100299 (λp9 r10 out11=>
 if p9.2.2.2.2=false then
 some (out11,(p9.1,(p9.2.1,(p9.2.2.1,(p9.2.2.2.1,decide ((Jr out11:Int)>6))))),r10)
 else
 some (out11,(p9.1,(p9.2.1,(p9.2.2.1,(p9.2.2.2.1,true)))),r10)) n r3.2.1 r3.2.2 [r3.1]
end ac
namespace aa
def j2 (n:Nat)(self5800284:Wt->WD->Option Wi)(self5900285:Wc)(self6000293:Wc)(self6100299:Wc)(a13:Int)(kind14:Int)(p15:Wt)(r16:WD)(Kn:Int->Wt->WD->Option Wl):Option Wl:=
 (self6000293 (p15.1,(Ju.wrap (p15.2.1+1),p15.2.2)) r16).bind λr17=>
 (bq.F n r17.2.2 (kind14,(Jq,[a13,r17.1]))).bind λr18=>
 Kn r18.1 r17.2.1 r18.2
def j1 (n:Nat)(self5800284:Wt->WD->Option Wi)(self5900285:Wc)(self6000293:Wc)(self6100299:Wc)(a9:Int)(p10:Wt)(r11:WD)(Kn:Int->Wt->WD->Option Wl):Option Wl:=
 (bV.F n p10 ⟨#[45]⟩).bind λr12=>
 if r12=true then
 j2 n self5800284 self5900285 self6000293 self6100299 a9 6 p10 r11 (λa19 p20 r21=>
 Kn a19 p20 r21)
 else
 j2 n self5800284 self5900285 self6000293 self6100299 a9 5 p10 r11 (λa22 p23 r24=>
 Kn a22 p23 r24)
def l0 (n:Nat)(self5800284:Wt->WD->Option Wi)(self5900285:Wc)(self6000293:Wc)(self6100299:Wc)(K0:Int->Wt->WD->Option Wl):Nat->Int->Wt->WD->Option Wl
 |0,_,_,_=>none
 |k+1,a4,p5,r6=>
 (bV.F n p5 ⟨#[43]⟩).bind λr7=>
 if r7=false then
 (bV.F n p5 ⟨#[45]⟩).bind λr8=>
 if r8=true then
 j1 n self5800284 self5900285 self6000293 self6100299 a4 p5 r6 (λa25 p26 r27=>
 l0 n self5800284 self5900285 self6000293 self6100299 K0 k a25 p26 r27)
 else
 K0 a4 p5 r6
 else
 j1 n self5800284 self5900285 self6000293 self6100299 a4 p5 r6 (λa28 p29 r30=>
 l0 n self5800284 self5900285 self6000293 self6100299 K0 k a28 p29 r30)
def G (n:Nat)(self5800284:Wt->WD->Option Wi)(self5900285:Wc)(self6000293:Wc)(self6100299:Wc)(p1:Wt)(r2:WD):Option Wl:=
 (self6000293 p1 r2).bind λr3=>
 l0 n self5800284 self5900285 self6000293 self6100299 (λa31 p32 r33=>
 some (a31,p32,r33)) n r3.1 r3.2.1 r3.2.2
end aa
namespace ai
def l0 (n:Nat)(self5800284:Wt->WD->Option Wi)(self5900285:Wc)(self6000293:Wc)(self6100299:Wc)(K0:Int->Wt->WD->Option Wl):Nat->Int->Wt->WD->Option Wl
 |0,_,_,_=>none
 |k+1,a4,p5,r6=>
 (aD.F n p5 ⟨#[42]⟩).bind λr7=>
 if r7.1=true then
 (self6100299 r7.2 r6).bind λr8=>
 (bq.F n r8.2.2 (7,(Jq,[a4,r8.1]))).bind λr9=>
 l0 n self5800284 self5900285 self6000293 self6100299 K0 k r9.1 r8.2.1 r9.2
 else
 K0 a4 r7.2 r6
def G (n:Nat)(self5800284:Wt->WD->Option Wi)(self5900285:Wc)(self6000293:Wc)(self6100299:Wc)(p1:Wt)(r2:WD):Option Wl:=
 (self6100299 p1 r2).bind λr3=>
 l0 n self5800284 self5900285 self6000293 self6100299 (λa10 p11 r12=>
 some (a10,p11,r12)) n r3.1 r3.2.1 r3.2.2
end ai
namespace ag
def j0 (n:Nat)(self5800284:Wt->WD->Option Wi)(self5900285:Wc)(self6000293:Wc)(self6100299:Wc)(t4:Bool)(t5:Wt)(t6:WD)(t7:WJ)(Kn:Wt->Option Wl):Option Wl:=
 if t4=true then
 (bq.F n t6 (3,(t7.2.1,[]))).bind λr8=>
 some (r8.1,(t5.1,(Ju.wrap (t5.2.1+1),t5.2.2)),r8.2)
 else
 if decide (t7.1=1)=true then
 (bq.F n t6 (1,(t7.2.1,[]))).bind λr9=>
 some (r9.1,(t5.1,(Ju.wrap (t5.2.1+1),t5.2.2)),r9.2)
 else
 (aD.F n t5 ⟨#[95]⟩).bind λr10=>
 if r10.1=true then
 (bq.F n t6 (2,(Jq,[]))).bind λr11=>
 some (r11.1,r10.2,r11.2)
 else
 (aD.F n r10.2 ⟨#[45]⟩).bind λr12=>
 if r12.1=true then
 (bR.F n r12.2 3).bind λr13=>
 (iL.F n r13.1).bind λr14=>
 (cI.F n (Ju.wrap (0 - r14))).bind λr15=>
 (bq.F n t6 (3,(r15,[]))).bind λr16=>
 some (r16.1,r13.2,r16.2)
 else
 if decide (t7.1=2)=true then
 (aD.F n (r12.2.1,(Ju.wrap (r12.2.2.1+1),r12.2.2.2)) ⟨#[40]⟩).bind λr17=>
 if r17.1=true then
 (self5800284 r17.2 t6).bind λr18=>
 (aA.F n r18.2.1 ⟨#[41]⟩).bind λr19=>
 (bq.F n r18.2.2 (4,(t7.2.1,r18.1))).bind λr20=>
 some (r20.1,r19,r20.2)
 else
 (bq.F n t6 (4,(t7.2.1,[]))).bind λr21=>
 some (r21.1,r17.2,r21.2)
 else
 (aD.F n r12.2 ⟨#[40]⟩).bind λr22=>
 if r22.1=true then
 (self5900285 r22.2 t6).bind λr23=>
 (aA.F n r23.2.1 ⟨#[41]⟩).bind λr24=>
 some (r23.1,r24,r23.2.2)
 else
 Kn r22.2
def G (n:Nat)(self5800284:Wt->WD->Option Wi)(self5900285:Wc)(self6000293:Wc)(self6100299:Wc)(t1:Wt)(t2:WD):Option Wl:=
 (aZ.F n t1 0).bind λr3=>
 if(decide (r3.1=3))=false then
 j0 n self5800284 self5900285 self6000293 self6100299 (decide (r3.1=4)) t1 t2 r3 (λt25=>
 (aY.F n t25).bind λr26=>
 some (0,r26,t2))
 else
 j0 n self5800284 self5900285 self6000293 self6100299 true t1 t2 r3 (λt27=>
 (aY.F n t27).bind λr28=>
 some (0,r28,t2))
end ag
def di:Nat->(Wt->WD->Option Wi)×Wc×Wc×Wc
 |0=>(λ_ _=>none,λ_ _=>none,λ_ _=>none,λ_ _=>none)
 |n+1=>(ac.G n (di n).1 (di n).2.1 (di n).2.2.1 (di n).2.2.2,aa.G n (di n).1 (di n).2.1 (di n).2.2.1 (di n).2.2.2,ai.G n (di n).1 (di n).2.1 (di n).2.2.1 (di n).2.2.2,ag.G n (di n).1 (di n).2.1 (di n).2.2.1 (di n).2.2.2)
namespace ac
def code:Code:=Tryz.f284.body.getD .skip
def F (n:Nat):Wt->WD->Option Wi:=(di n).1
abbrev ash:List ASh:=[.mp Qh .ro,.mp Qk QQ]
abbrev rsh:List RSh:=[.own Qy QZ,.out Qh,.out Qk]
def ent (n:Nat):ip:=⟨ash,rsh,λv=>F n v.1 v.2.1⟩
end ac
namespace aa
def code:Code:=Tryz.f285.body.getD .skip
def F (n:Nat):Wt->WD->Option Wl:=(di n).2.1
abbrev ash:List ASh:=[.mp Qh .ro,.mp Qk QQ]
abbrev rsh:List RSh:=[.ro QA,.out Qh,.out Qk]
def ent (n:Nat):ip:=⟨ash,rsh,λv=>F n v.1 v.2.1⟩
end aa
namespace ai
def code:Code:=Tryz.f293.body.getD .skip
def F (n:Nat):Wt->WD->Option Wl:=(di n).2.2.1
abbrev ash:List ASh:=[.mp Qh .ro,.mp Qk QQ]
abbrev rsh:List RSh:=[.ro QA,.out Qh,.out Qk]
def ent (n:Nat):ip:=⟨ash,rsh,λv=>F n v.1 v.2.1⟩
end ai
namespace ag
def code:Code:=Tryz.f299.body.getD .skip
def F (n:Nat):Wt->WD->Option Wl:=(di n).2.2.2
abbrev ash:List ASh:=[.mp Qh .ro,.mp Qk QQ]
abbrev rsh:List RSh:=[.ro QA,.out Qh,.out Qk]
def ent (n:Nat):ip:=⟨ash,rsh,λv=>F n v.1 v.2.1⟩
end ag
namespace ac
def cx (n:Nat):fX:=jJ JC TYS [(229,aD.E.e n),(284,ac.ent n),(285,aa.ent n),(293,ai.ent n),(299,ag.ent n)]
def d:rK:=⟨code,31,.nil,[(.tmp 4,.sl QA,.own .ro)]⟩
def kr (n:Nat)(v:jH ash):KN rsh:=jR (cx n) d (eJ ash v) (iu rsh)
def b0:Code:=JA (JA (JA (Jy (Jy code))))
def an:An:=.seq .nil (.seq (.reg [(9,.own .ro)]) (.seq (.block (some [0,1,5]) (.cut 0 [0,1,5])) Vk))
def an0:An:=.seq Vi (.block (some [0,1,5]) .nil)
abbrev sh0:ES:=⟨[(0,.pt 0 []),(1,.pt 1 []),(5,.al 5 [])],[⟨0,.st Qi,.ro,true,true,none⟩,⟨1,.sl Qn,.own QT,true,true,none⟩,⟨5,.sl QA,.own .ro,false,false,none⟩]⟩
abbrev sh0_0:ES:=⟨[(0,.pt 0 []),(1,.pt 1 []),(5,.al 5 [])],[⟨0,.st Qi,.ro,true,true,none⟩,⟨1,.sl Qn,.own QT,true,true,none⟩,⟨5,.sl QA,.own .ro,false,false,none⟩]⟩
def g0 (n m:Nat)(x:sh0.V)(kn:KN rsh)(kx:KX rsh):Option (jS rsh):=l0 n (ac.F n) (aa.F n) (ai.F n) (ag.F n) (λy0 y1 y2=>kx 0 (sh0_0.enc (((()),(()),(()),()),(y0,y1,y2,())))) m x.2.1 x.2.2.1 x.2.2.2.1
def T (n:Nat):tg (jS rsh):=λj e kn kx=>match j with
 |0=>Mm sh0 e λx=>g0 n n x kn kx
 |_=>none
theorem mk (n:Nat)(ih5800284:aq JC 284 (ac.ent n))(ih5900285:aq JC 285 (aa.ent n))(ih6000293:aq JC 293 (ai.ent n))(ih6100299:aq JC 299 (ag.ent n)):lZ (cx n):=fN (mem_cons (aD.E.ok n) (mem_cons ih5800284 (mem_cons ih5900285 (mem_cons ih6000293 (mem_cons ih6100299 bD)))))
theorem u0 (n:Nat)(v:jH ash)(ih5800284:aq JC 284 (ac.ent n))(ih5900285:aq JC 285 (aa.ent n))(ih6000293:aq JC 293 (ai.ent n))(ih6100299:aq JC 299 (ag.ent n)):cQ (cx n) 31 (T n) (kr n v) 0 (.loop b0):=
 kz (n:=n) (CO _) (mk n ih5800284 ih5900285 ih6000293 ih6100299) (MX _) an0 [(0,[0,1,5])] [0,1,5] sh0 (g0 n) (λ_ _ _=>rfl) (λ_ _ _=>rfl) (λm x kn kx=>by kernel_rfl) (l:=[]) (by kernel_rfl) (bD)
theorem ok0:aq JC 284 (ent 0):=gw Tryz.f284 (by kernel_rfl) (by kernel_rfl) (by kernel_rfl) (λ_=>rfl)
theorem okS (n:Nat)(ih5800284:aq JC 284 (ac.ent n))(ih5900285:aq JC 285 (aa.ent n))(ih6000293:aq JC 293 (ai.ent n))(ih6100299:aq JC 299 (ag.ent n)):aq JC 284 (ent (n+1)):=
 iv (c:=cx n) (e:=ent (n+1)) (d:=d) (CO _) (mk n ih5800284 ih5900285 ih6000293 ih6100299) (MX _) an Tryz.func284 (by kernel_rfl) (T n) (l:=[(0,.loop b0)]) (by kernel_rfl) (λv=>mem_cons (u0 n v ih5800284 ih5900285 ih6000293 ih6100299) bD) (λv=>by kernel_rfl)
end ac
namespace aa
def cx (n:Nat):fX:=jJ JC TYS [(230,bV.E.e n),(294,bq.E.e n),(284,ac.ent n),(285,aa.ent n),(293,ai.ent n),(299,ag.ent n)]
def d:rK:=⟨code,37,.nil,[(.tmp 4,.int .i64,.ro)]⟩
def kr (n:Nat)(v:jH ash):KN rsh:=jR (cx n) d (eJ ash v) (iu rsh)
def c2:Code:=(Jy (Jy (JA (Jy (JA (JA (JA (Jy (Jy code)))))))))
def c1:Code:=(Jy (JA (JA (JA (Jy (Jy code))))))
def b0:Code:=JA (JA (JA (Jy (Jy code))))
def an:An:=.seq .nil (.seq .nil (.seq (.block (some [0,1,5]) (.cut 0 [0,1,5])) Vm))
def an2:An:=.seq .nil (.seq .nil (.reg [(33,.own .ro),(34,.pr .ro QX)]))
abbrev sh2:ES:=⟨[(0,.pt 0 []),(1,.pt 1 []),(5,.v QA),(6,.v QA)],[⟨0,.st Qi,.ro,true,true,none⟩,⟨1,.sl Qn,.own QT,true,true,none⟩]⟩
abbrev sh2_n:ES:=⟨[(0,.pt 0 []),(1,.pt 1 []),(5,.v QA)],[⟨0,.st Qi,.ro,true,true,none⟩,⟨1,.sl Qn,.own QT,true,true,none⟩]⟩
def an1:An:=.block (some [0,1,5]) (.seq .nil (.seq Vi (.cut 2 [0,1,5,6])))
abbrev sh1:ES:=⟨[(0,.pt 0 []),(1,.pt 1 []),(5,.v QA)],[⟨0,.st Qi,.ro,true,true,none⟩,⟨1,.sl Qn,.own QT,true,true,none⟩]⟩
abbrev sh1_n:ES:=⟨[(0,.pt 0 []),(1,.pt 1 []),(5,.v QA)],[⟨0,.st Qi,.ro,true,true,none⟩,⟨1,.sl Qn,.own QT,true,true,none⟩]⟩
def an0:An:=.seq Vi (.cut 1 [0,1,5])
abbrev sh0:ES:=⟨[(0,.pt 0 []),(1,.pt 1 []),(5,.v QA)],[⟨0,.st Qi,.ro,true,true,none⟩,⟨1,.sl Qn,.own QT,true,true,none⟩]⟩
abbrev sh0_0:ES:=⟨[(0,.pt 0 []),(1,.pt 1 []),(5,.v QA)],[⟨0,.st Qi,.ro,true,true,none⟩,⟨1,.sl Qn,.own QT,true,true,none⟩]⟩
def g2 (n m:Nat)(x:sh2.V)(kn:KN rsh)(kx:KX rsh):Option (jS rsh):=j2 n (ac.F n) (aa.F n) (ai.F n) (ag.F n) x.1.2.2.1 x.1.2.2.2.1 x.2.1 x.2.2.1 (λy0 y1 y2=>kn (sh2_n.enc (((()),(()),y0,()),(y1,y2,()))))
def g1 (n m:Nat)(x:sh1.V)(kn:KN rsh)(kx:KX rsh):Option (jS rsh):=j1 n (ac.F n) (aa.F n) (ai.F n) (ag.F n) x.1.2.2.1 x.2.1 x.2.2.1 (λy0 y1 y2=>kn (sh1_n.enc (((()),(()),y0,()),(y1,y2,()))))
def g0 (n m:Nat)(x:sh0.V)(kn:KN rsh)(kx:KX rsh):Option (jS rsh):=l0 n (ac.F n) (aa.F n) (ai.F n) (ag.F n) (λy0 y1 y2=>kx 0 (sh0_0.enc (((()),(()),y0,()),(y1,y2,())))) m x.1.2.2.1 x.2.1 x.2.2.1
def T (n:Nat):tg (jS rsh):=λj e kn kx=>match j with
 |2=>Mm sh2 e λx=>g2 n n x kn kx
 |1=>Mm sh1 e λx=>g1 n n x kn kx
 |0=>Mm sh0 e λx=>g0 n n x kn kx
 |_=>none
theorem mk (n:Nat)(ih5800284:aq JC 284 (ac.ent n))(ih5900285:aq JC 285 (aa.ent n))(ih6000293:aq JC 293 (ai.ent n))(ih6100299:aq JC 299 (ag.ent n)):lZ (cx n):=fN (mem_cons (bV.E.ok n) (mem_cons (bq.E.ok n) (mem_cons ih5800284 (mem_cons ih5900285 (mem_cons ih6000293 (mem_cons ih6100299 bD))))))
theorem u2 (n:Nat)(v:jH ash)(ih5800284:aq JC 284 (ac.ent n))(ih5900285:aq JC 285 (aa.ent n))(ih6000293:aq JC 293 (ai.ent n))(ih6100299:aq JC 299 (ag.ent n)):cQ (cx n) 37 (T n) (kr n v) 2 (c2):=
 jz (CO _) (mk n ih5800284 ih5900285 ih6000293 ih6100299) (MX _) an2 [(0,[0,1,5]),(1,[0,1,5])] [0,1,5] sh2 (g2 n n) (λ_ _ _=>rfl) (λx kn kx=>by kernel_rfl) (l:=[]) (by kernel_rfl) (bD)
theorem u1 (n:Nat)(v:jH ash)(ih5800284:aq JC 284 (ac.ent n))(ih5900285:aq JC 285 (aa.ent n))(ih6000293:aq JC 293 (ai.ent n))(ih6100299:aq JC 299 (ag.ent n)):cQ (cx n) 37 (T n) (kr n v) 1 (c1):=
 jz (CO _) (mk n ih5800284 ih5900285 ih6000293 ih6100299) (MX _) an1 [(0,[0,1,5])] [0,1,5] sh1 (g1 n n) (λ_ _ _=>rfl) (λx kn kx=>by kernel_rfl) (l:=[(2,c2)]) (by kernel_rfl) (mem_cons (u2 n v ih5800284 ih5900285 ih6000293 ih6100299) bD)
theorem u0 (n:Nat)(v:jH ash)(ih5800284:aq JC 284 (ac.ent n))(ih5900285:aq JC 285 (aa.ent n))(ih6000293:aq JC 293 (ai.ent n))(ih6100299:aq JC 299 (ag.ent n)):cQ (cx n) 37 (T n) (kr n v) 0 (.loop b0):=
 kz (n:=n) (CO _) (mk n ih5800284 ih5900285 ih6000293 ih6100299) (MX _) an0 [(0,[0,1,5])] [0,1,5] sh0 (g0 n) (λ_ _ _=>rfl) (λ_ _ _=>rfl) (λm x kn kx=>by kernel_rfl) (l:=[(1,c1)]) (by kernel_rfl) (mem_cons (u1 n v ih5800284 ih5900285 ih6000293 ih6100299) bD)
theorem ok0:aq JC 285 (ent 0):=gw Tryz.f285 (by kernel_rfl) (by kernel_rfl) (by kernel_rfl) (λ_=>rfl)
theorem okS (n:Nat)(ih5800284:aq JC 284 (ac.ent n))(ih5900285:aq JC 285 (aa.ent n))(ih6000293:aq JC 293 (ai.ent n))(ih6100299:aq JC 299 (ag.ent n)):aq JC 285 (ent (n+1)):=
 iv (c:=cx n) (e:=ent (n+1)) (d:=d) (CO _) (mk n ih5800284 ih5900285 ih6000293 ih6100299) (MX _) an Tryz.func285 (by kernel_rfl) (T n) (l:=[(0,.loop b0)]) (by kernel_rfl) (λv=>mem_cons (u0 n v ih5800284 ih5900285 ih6000293 ih6100299) bD) (λv=>by kernel_rfl)
end aa
namespace ai
def cx (n:Nat):fX:=jJ JC TYS [(229,aD.E.e n),(294,bq.E.e n),(284,ac.ent n),(285,aa.ent n),(293,ai.ent n),(299,ag.ent n)]
def d:rK:=⟨code,22,.nil,[(.tmp 4,.int .i64,.ro)]⟩
def kr (n:Nat)(v:jH ash):KN rsh:=jR (cx n) d (eJ ash v) (iu rsh)
def b0:Code:=JA (JA (JA (Jy (Jy code))))
def an:An:=.seq .nil (.seq .nil (.seq (.block (some [0,1,5]) (.cut 0 [0,1,5])) Vm))
def an0:An:=.seq Vi (.block (some [0,1,5]) (.seq .nil (.reg [(18,.own .ro),(19,.pr .ro QX)])))
abbrev sh0:ES:=⟨[(0,.pt 0 []),(1,.pt 1 []),(5,.v QA)],[⟨0,.st Qi,.ro,true,true,none⟩,⟨1,.sl Qn,.own QT,true,true,none⟩]⟩
abbrev sh0_0:ES:=⟨[(0,.pt 0 []),(1,.pt 1 []),(5,.v QA)],[⟨0,.st Qi,.ro,true,true,none⟩,⟨1,.sl Qn,.own QT,true,true,none⟩]⟩
def g0 (n m:Nat)(x:sh0.V)(kn:KN rsh)(kx:KX rsh):Option (jS rsh):=l0 n (ac.F n) (aa.F n) (ai.F n) (ag.F n) (λy0 y1 y2=>kx 0 (sh0_0.enc (((()),(()),y0,()),(y1,y2,())))) m x.1.2.2.1 x.2.1 x.2.2.1
def T (n:Nat):tg (jS rsh):=λj e kn kx=>match j with
 |0=>Mm sh0 e λx=>g0 n n x kn kx
 |_=>none
theorem mk (n:Nat)(ih5800284:aq JC 284 (ac.ent n))(ih5900285:aq JC 285 (aa.ent n))(ih6000293:aq JC 293 (ai.ent n))(ih6100299:aq JC 299 (ag.ent n)):lZ (cx n):=fN (mem_cons (aD.E.ok n) (mem_cons (bq.E.ok n) (mem_cons ih5800284 (mem_cons ih5900285 (mem_cons ih6000293 (mem_cons ih6100299 bD))))))
theorem u0 (n:Nat)(v:jH ash)(ih5800284:aq JC 284 (ac.ent n))(ih5900285:aq JC 285 (aa.ent n))(ih6000293:aq JC 293 (ai.ent n))(ih6100299:aq JC 299 (ag.ent n)):cQ (cx n) 22 (T n) (kr n v) 0 (.loop b0):=
 kz (n:=n) (CO _) (mk n ih5800284 ih5900285 ih6000293 ih6100299) (MX _) an0 [(0,[0,1,5])] [0,1,5] sh0 (g0 n) (λ_ _ _=>rfl) (λ_ _ _=>rfl) (λm x kn kx=>by kernel_rfl) (l:=[]) (by kernel_rfl) (bD)
theorem ok0:aq JC 293 (ent 0):=gw Tryz.f293 (by kernel_rfl) (by kernel_rfl) (by kernel_rfl) (λ_=>rfl)
theorem okS (n:Nat)(ih5800284:aq JC 284 (ac.ent n))(ih5900285:aq JC 285 (aa.ent n))(ih6000293:aq JC 293 (ai.ent n))(ih6100299:aq JC 299 (ag.ent n)):aq JC 293 (ent (n+1)):=
 iv (c:=cx n) (e:=ent (n+1)) (d:=d) (CO _) (mk n ih5800284 ih5900285 ih6000293 ih6100299) (MX _) an Tryz.func293 (by kernel_rfl) (T n) (l:=[(0,.loop b0)]) (by kernel_rfl) (λv=>mem_cons (u0 n v ih5800284 ih5900285 ih6000293 ih6100299) bD) (λv=>by kernel_rfl)
end ai
namespace ag
def cx (n:Nat):fX:=jJ JC TYS [(128,cI.E.e n),(226,bR.E.e n),(227,aA.E.e n),(229,aD.E.e n),(263,aZ.E.e n),(264,aY.E.e n),(305,iL.E.e n),(294,bq.E.e n),(284,ac.ent n),(285,aa.ent n),(293,ai.ent n),(299,ag.ent n)]
def d:rK:=⟨code,100,.nil,[(.tmp 4,.int .i64,.ro)]⟩
def kr (n:Nat)(v:jH ash):KN rsh:=jR (cx n) d (eJ ash v) (iu rsh)
def c0:Code:=(Jy (JA (JA (Jy (Jy code)))))
def an:An:=.seq .nil (.seq .nil (.seq (.block (some [0,1]) (.seq .nil (.cut 0 [0,1,5,10]))) Vk))
def an0:An:=.cond (.seq .nil (.seq (.reg [(29,.pr .ro QX)]) .nil)) (.seq .nil (.cond (.seq .nil (.seq (.reg [(45,.pr .ro QX)]) .nil)) (.seq .nil (.cond (.seq (.reg [(51,.pr .ro QX)]) .nil) (.seq .nil (.cond (.seq (.reg [(62,.pr .ro QX)]) .nil) (.seq .nil (.cond (.seq .nil (.seq (.reg [(77,.pr .ro QX),(6,.pr .ro QX)]) (.seq (.seq .nil (.cond (.seq (.reg [(82,.own .ro)]) .nil) .nil)) Vm))) W5))))))))
abbrev sh0:ES:=⟨[(0,.pt 0 []),(1,.pt 1 []),(5,.pt 5 []),(10,.v .bool)],[⟨0,.st Qi,.ro,true,true,none⟩,⟨1,.sl Qn,.own QT,true,true,none⟩,⟨5,.st Qu,.ro,true,false,none⟩]⟩
abbrev sh0_n:ES:=⟨[(0,.pt 0 []),(1,.pt 1 [])],[⟨0,.st Qi,.ro,true,true,none⟩,⟨1,.sl Qn,.own QT,true,true,none⟩]⟩
def g0 (n m:Nat)(x:sh0.V)(kn:KN rsh)(kx:KX rsh):Option (jS rsh):=j0 n (ac.F n) (aa.F n) (ai.F n) (ag.F n) x.1.2.2.2.1 x.2.1 x.2.2.1 x.2.2.2.1 (λy0=>kn (sh0_n.enc (((()),(()),()),(y0,x.2.2.1,()))))
def T (n:Nat):tg (jS rsh):=λj e kn kx=>match j with
 |0=>Mm sh0 e λx=>g0 n n x kn kx
 |_=>none
theorem mk (n:Nat)(ih5800284:aq JC 284 (ac.ent n))(ih5900285:aq JC 285 (aa.ent n))(ih6000293:aq JC 293 (ai.ent n))(ih6100299:aq JC 299 (ag.ent n)):lZ (cx n):=fN (mem_cons (cI.E.ok n) (mem_cons (bR.E.ok n) (mem_cons (aA.E.ok n) (mem_cons (aD.E.ok n) (mem_cons (aZ.E.ok n) (mem_cons (aY.E.ok n) (mem_cons (iL.E.ok n) (mem_cons (bq.E.ok n) (mem_cons ih5800284 (mem_cons ih5900285 (mem_cons ih6000293 (mem_cons ih6100299 bD))))))))))))
theorem u0 (n:Nat)(v:jH ash)(ih5800284:aq JC 284 (ac.ent n))(ih5900285:aq JC 285 (aa.ent n))(ih6000293:aq JC 293 (ai.ent n))(ih6100299:aq JC 299 (ag.ent n)):cQ (cx n) 100 (T n) (kr n v) 0 (c0):=
 jz (CO _) (mk n ih5800284 ih5900285 ih6000293 ih6100299) (MX _) an0 [(0,[0,1])] [0,1] sh0 (g0 n n) (λ_ _ _=>rfl) (λx kn kx=>by kernel_rfl) (l:=[]) (by kernel_rfl) (bD)
theorem ok0:aq JC 299 (ent 0):=gw Tryz.f299 (by kernel_rfl) (by kernel_rfl) (by kernel_rfl) (λ_=>rfl)
theorem okS (n:Nat)(ih5800284:aq JC 284 (ac.ent n))(ih5900285:aq JC 285 (aa.ent n))(ih6000293:aq JC 293 (ai.ent n))(ih6100299:aq JC 299 (ag.ent n)):aq JC 299 (ent (n+1)):=
 iv (c:=cx n) (e:=ent (n+1)) (d:=d) (CO _) (mk n ih5800284 ih5900285 ih6000293 ih6100299) (MX _) an Tryz.func299 (by kernel_rfl) (T n) (l:=[(0,c0)]) (by kernel_rfl) (λv=>mem_cons (u0 n v ih5800284 ih5900285 ih6000293 ih6100299) bD) (λv=>by kernel_rfl)
end ag
theorem nX:(n:Nat)->aq JC 284 (ac.ent n)/\aq JC 285 (aa.ent n)/\aq JC 293 (ai.ent n)/\aq JC 299 (ag.ent n)
 |0=>⟨ac.ok0,aa.ok0,ai.ok0,ag.ok0⟩
 |n+1=>have ih:=nX n;⟨ac.okS n ih.1 ih.2.1 ih.2.2.1 ih.2.2.2,aa.okS n ih.1 ih.2.1 ih.2.2.1 ih.2.2.2,ai.okS n ih.1 ih.2.1 ih.2.2.1 ih.2.2.2,ag.okS n ih.1 ih.2.1 ih.2.2.1 ih.2.2.2⟩
theorem ac.ok (n:Nat):aq JC 284 (ac.ent n):=(nX n).1
def ac.E:En:=⟨284,ac.ent,ac.ok⟩
theorem aa.ok (n:Nat):aq JC 285 (aa.ent n):=(nX n).2.1
def aa.E:En:=⟨285,aa.ent,aa.ok⟩
namespace cW
def F (n:Nat)(p1:Wt)(r2:WD):Option We:=
 (bR.F n p1 1).bind λr3=>
 (aA.F n r3.2 ⟨#[40]⟩).bind λr4=>
 (bV.F n r4 ⟨#[41]⟩).bind λr5=>
 if(!r5)=true then
 (ac.F n r4 r2).bind λr6=>
 (aA.F n r6.2.1 ⟨#[41]⟩).bind λr7=>
 some ((1,(r3.1,r6.1)),r7,r6.2.2)
 else
 (aA.F n r4 ⟨#[41]⟩).bind λr8=>
 some ((1,(r3.1,[])),r8,r2)
def code:=Tryz.f266.body.getD .skip
abbrev ash:List ASh:=[.mp Qh .ro,.mp Qk QQ]
abbrev rsh:List RSh:=[.own Qn QT,.out Qh,.out Qk]
def B:Bd:=⟨ash,rsh,[bR.E,aA.E,bV.E,ac.E],⟨code,21,.nil,[(.cell 4 31,.st Qr,.pr .ro QX)]⟩,[]⟩
def E:En:=⟨266,λn=>⟨B.a,B.r,λv=>F n v.1 v.2.1⟩,cD B (.seq (.reg [(4,.pr .ro QX)]) (.seq (.reg [(8,.pr .ro QX),(5,.pr .ro QX)]) (.seq .nil (.seq (.seq .nil (.cond (.reg [(16,.own .ro)]) .nil)) Vk)))) Tryz.func266 mn⟩
end cW
namespace aJ
def j0 (n:Nat)(t7:Bool)(p8:Wt)(r9:WD)(t10:WG)(Kn:Unit->Option We):Option We:=
 if t7=true then
 (cW.F n p8 r9).bind λr11=>
 some (r11.1,r11.2.1,r11.2.2)
 else
 Kn ()
def l2 (n:Nat)(a16:Int)(t17:WL)(t18:Int)(r21:WD)(t22:WG)(K0:Wt->Option We):Nat->Int->Wt->Option We
 |0,_,_=>none
 |k+1,t19,p20=>
 if decide (t19<t18)=true then
 if(0:Int)<=t19/\t19<(Jr t17:Int)then
 (aD.F n p20 (Jv t17 (Jt t19) Jq)).bind λr23=>
 if r23.1=true then
 (aa.F n r23.2 r21).bind λr24=>
 some ((3,(Jv t17 (Jt t19) Jq,[a16,r24.1])),r24.2.1,r24.2.2)
 else
 l2 n a16 t17 t18 r21 t22 K0 k (Ju.wrap (t19+1)) r23.2
 else
 none
 else
 K0 p20
def j1 (n:Nat)(p12:Wt)(r13:WD)(t14:WG):Option We:=
 (aa.F n p12 r13).bind λr15=>
 l2 n r15.1 ([⟨#[61]⟩,⟨#[33,61]⟩,⟨#[60]⟩,⟨#[60,61]⟩]:WL) (Jr ([⟨#[61]⟩,⟨#[33,61]⟩,⟨#[60]⟩,⟨#[60,61]⟩]:WL):Int) r15.2.2 t14 (λp25=>
 (aY.F n p25).bind λr26=>
 some ((0,(Jq,[])),r26,r15.2.2)) n 0 r15.2.1
def F (n:Nat)(p1:Wt)(r2:WD):Option We:=
 (aD.F n p1 ⟨#[33]⟩).bind λr3=>
 if r3.1=true then
 (cW.F n r3.2 r2).bind λr4=>
 some ((2,r4.1.2),r4.2.1,r4.2.2)
 else
 (aZ.F n r3.2 1).bind λr5=>
 (aZ.F n r3.2 0).bind λr6=>
 if(decide (r6.1=1))=true then
 if(decide (r5.1=5))=true then
 j0 n (Km r5.2.1 ⟨#[40]⟩) r3.2 r2 (0,(Jq,[])) (λ_=>
 j1 n r3.2 r2 (0,(Jq,[])))
 else
 j0 n false r3.2 r2 (0,(Jq,[])) (λ_=>
 j1 n r3.2 r2 (0,(Jq,[])))
 else
 j0 n false r3.2 r2 (0,(Jq,[])) (λ_=>
 j1 n r3.2 r2 (0,(Jq,[])))
def code:=Tryz.f267.body.getD .skip
abbrev ash:List ASh:=[.mp Qh .ro,.mp Qk QQ]
abbrev rsh:List RSh:=[.own Qn QT,.out Qh,.out Qk]
def c1:=Jy (Jy (Jy (Jy code)))
def c0:=Jy (JA (Jy (Jy (Jy code))))
def b2:=JA (JA (Jy (JA (Jy c1))))
abbrev sh0:ES:=⟨[(0,.pt 0 []),(1,.pt 1 []),(4,.pt 4 []),(32,.v .bool)],[⟨0,.st Qi,.ro,true,true,none⟩,⟨1,.sl Qn,.own QT,true,true,none⟩,⟨4,.st Qr,.pr .ro QX,true,false,none⟩]⟩
abbrev sh0_n:ES:=⟨[(0,.pt 0 []),(1,.pt 1 []),(4,.pt 4 [])],[⟨0,.st Qi,.ro,true,true,none⟩,⟨1,.sl Qn,.own QT,true,true,none⟩,⟨4,.st Qr,.pr .ro QX,true,false,none⟩]⟩
abbrev sh2:ES:=⟨[(0,.pt 0 []),(1,.pt 1 []),(4,.pt 4 []),(7,.v QA),(39,.v Qz),(40,.v QA),(41,.v QA)],[⟨0,.st Qi,.ro,true,true,none⟩,⟨1,.sl Qn,.own QT,true,true,none⟩,⟨4,.st Qr,.pr .ro QX,true,false,none⟩]⟩
def g0:GL rsh sh0:=λn m x kn kx=>j0 n x.1.2.2.2.1 x.2.1 x.2.2.1 x.2.2.2.1 (λ_=>kn (sh0_n.enc (((()),(()),(()),()),(x.2.1,x.2.2.1,x.2.2.2.1,()))))
def g2:GL rsh sh2:=λn m x kn kx=>l2 n x.1.2.2.2.1 x.1.2.2.2.2.1 x.1.2.2.2.2.2.1 x.2.2.1 x.2.2.2.1 (λy0=>kx 0 (sh0_n.enc (((()),(()),(()),()),(y0,x.2.2.1,x.2.2.2.1,())))) m x.1.2.2.2.2.2.2.1 x.2.1
def g1:GL rsh sh0_n:=λn m x kn kx=>j1 n x.2.1 x.2.2.1 x.2.2.2.1
def B:Bd:=⟨ash,rsh,[aD.E,aZ.E,aY.E,cW.E,aa.E],⟨code,59,.nil,[(.cell 4 31,.st Qr,.pr .ro QX)]⟩,[⟨0,sh0,g0⟩,⟨2,sh2,g2⟩,⟨1,sh0_n,g1⟩]⟩
theorem u0:UO B 0 c0:=
 ju (.cond (.seq (.reg [(35,.pr .ro QX)]) .nil) .nil) [] [0,1,4] sh0 g0 mn
theorem u2:UO B 2 (.loop b2):=
 lu (.seq .nil (.seq Vl (.seq (.block (some [0,1,4,7,39,40,41]) (.seq .nil (.seq .nil (.cond (.seq (.reg [(53,.own .ro),(54,.pr .ro QX)]) .nil) .nil)))) .nil))) [(0,[0,1,4])] [0,1,4,7,39,40,41] sh2 g2 mn
theorem u1:UO B 1 c1:=
 ju (.seq .nil (.seq (.seq .nil (.block (some [0,1,4]) (.cut 2 [0,1,4,7,39,40,41]))) (.seq .nil (.seq (.reg [(58,.pr .ro QX)]) .nil)))) [] [0,1,4] sh0_n g1 (mc u2 mn)
def E:En:=⟨267,λn=>⟨B.a,B.r,λv=>F n v.1 v.2.1⟩,cD B (.seq (.reg [(4,.pr .ro QX)]) (.seq (.seq .nil (.cond (.seq (.reg [(14,.pr .ro QX),(5,.pr .ro QX)]) Vk) .nil)) (.seq .nil (.seq (.seq .nil (.cut 0 [0,1,4,32])) (.cut 1 [0,1,4]))))) Tryz.func267 (mc u0 (mc u1 mn))⟩
end aJ
namespace bY
def l0 (n:Nat)(t6:Wk)(K0:Wt->Wk->Option Wd):Nat->Wt->Wk->Option Wd
 |0,_,_=>none
 |k+1,p5,r7=>
 (aD.F n p5 ⟨#[44]⟩).bind λr8=>
 if r8.1=true then
 (aJ.F n r8.2 r7.1).bind λr9=>
 if Jr r7.2.2+Jr [r9.1]<=aT then
 l0 n t6 K0 k r9.2.1 (r9.2.2,(r7.2.1,r7.2.2++[r9.1]))
 else
 none
 else
 K0 r8.2 r7
def j1 (n:Nat)(p12:Wt)(t13:Wk)(r14:Wk):Option Wd:=
 (aA.F n p12 ⟨#[46]⟩).bind λr15=>
 if r15.2.2.2.2=false then
 if(decide ((Jr r14.2.2:Int)>12))=false then
 some (r14,(r15.1,(r15.2.1,(r15.2.2.1,(r15.2.2.2.1,decide ((Jr r14.1:Int)>60))))))
 else
 some (r14,(r15.1,(r15.2.1,(r15.2.2.1,(r15.2.2.2.1,true)))))
 else
 some (r14,(r15.1,(r15.2.1,(r15.2.2.1,(r15.2.2.2.1,true)))))
def F (n:Nat)(p1:Wt):Option Wd:=
 (cW.F n p1 []).bind λr2=>
 (aD.F n r2.2.1 ⟨#[58,45]⟩).bind λr3=>
 if r3.1=true then
 (aJ.F n r3.2 r2.2.2).bind λr4=>
 if Jr ([]:WD)+Jr [r4.1]<=aT then
 l0 n ([],((0,(Jq,[])),[])) (λp10 r11=>
 j1 n p10 ([],((0,(Jq,[])),[])) r11) n r4.2.1 (r4.2.2,(r2.1,[]++[r4.1]))
 else
 none
 else
 j1 n r3.2 ([],((0,(Jq,[])),[])) (r2.2.2,(r2.1,[]))
def code:=Tryz.f232.body.getD .skip
abbrev ash:List ASh:=[.mp Qh .ro]
abbrev rsh:List RSh:=[.own Qf QJ,.out Qh]
def c1:=Jy (Jy (Jy (Jy code)))
def b0:=JA (JA (Jy (JA (Jy (JA (Jy (Jy (Jy code))))))))
abbrev sh0:ES:=⟨[(0,.pt 0 []),(2,.pt 2 []),(3,.pt 3 [])],[⟨0,.st Qi,.ro,true,true,none⟩,⟨2,.st Qg,.pr QQ QN,true,false,none⟩,⟨3,.st Qg,.pr QQ QN,true,false,none⟩]⟩
def g0:GL rsh sh0:=λn m x kn kx=>l0 n x.2.2.1 (λy0 y1=>kx 0 (sh0.enc (((()),(()),(()),()),(y0,x.2.2.1,y1,())))) m x.2.1 x.2.2.2.1
def g1:GL rsh sh0:=λn m x kn kx=>j1 n x.2.1 x.2.2.1 x.2.2.2.1
def B:Bd:=⟨ash,rsh,[aA.E,aD.E,cW.E,aJ.E],⟨code,48,.nil,[(.cell 2 34,.st Qg,.pr QQ QN)]⟩,[⟨0,sh0,g0⟩,⟨1,sh0,g1⟩]⟩
theorem u0:UO B 0 (.loop b0):=
 lu (.seq Vi (.block (some [0,2,3]) (.reg [(19,.own .ro),(20,.own .ro),(22,.pr .ro QX),(23,.own QT),(500003,.ro)]))) [(0,[0,2,3])] [0,2,3] sh0 g0 mn
theorem u1:UO B 1 c1:=
 ju Vh [] [0,2] sh0 g1 mn
def E:En:=⟨232,λn=>⟨B.a,B.r,λv=>F n v.1⟩,cD B (.seq (.reg [(2,.pr QQ QN)]) (.seq (.reg [(4,.pr QQ QN),(3,.pr QQ QN)]) (.seq (.reg [(6,.pr .ro QX),(500003,.ro)]) (.seq (.seq .nil (.cond (.seq (.reg [(10,.own .ro),(11,.own .ro),(13,.pr .ro QX),(14,.own QT),(500003,.ro)]) (.block (some [0,2,3]) (.cut 0 [0,2,3]))) .nil)) (.cut 1 [0,2,3]))))) Tryz.func232 (mc u0 (mc u1 mn))⟩
end bY
namespace aF
def l0 (n:Nat)(t8:Wb)(K1:Wt->Ww->Option Q8):Nat->Wt->Ww->Option Q8
 |0,_,_=>none
 |k+1,t7,t9=>
 (aD.F n t7 ⟨#[124]⟩).bind λr10=>
 if r10.1=true then
 (ei.F n r10.2).bind λr11=>
 if Jr t9.2+Jr [r11.1]<=aT then
 l0 n t8 K1 k r11.2 (t9.1,t9.2++[r11.1])
 else
 none
 else
 K1 r10.2 t9
def l2 (n:Nat)(t25:WL)(t26:Int)(t28:Wt)(t29:Wb)(t30:WC)(K3:Wt->WC->Option Q8):Nat->Int->Option Q8
 |0,_=>none
 |k+1,t27=>
 if decide (t27<t26)=true then
 if(0:Int)<=t27/\t27<(Jr t25:Int)then
 if(!decide (t27=0))=true then
 (bP.F n t28 (Jv t25 (Jt t27) Jq)).bind λr31=>
 if r31=true then
 K3 (t28.1,(Ju.wrap (t28.2.1+1),t28.2.2)) (t30.1,(t30.2.1,t27))
 else
 l2 n t25 t26 t28 t29 t30 K3 k (Ju.wrap (t27+1))
 else
 l2 n t25 t26 t28 t29 t30 K3 k (Ju.wrap (t27+1))
 else
 none
 else
 K3 t28 t30
def j1 (n:Nat)(t20:Wt)(t21:Wb)(t22:WC)(Kn:Wt->Wb->Option Q8):Option Q8:=
 (aA.F n t20 ⟨#[41]⟩).bind λr23=>
 (fu.F n).bind λr24=>
 l2 n r24 (Jr r24:Int) r23 t21 t22 (λt32 t33=>
 (aA.F n t32 ⟨#[46]⟩).bind λr34=>
 if Jr t21.2.1+Jr [t33]<=aT then
 Kn r34 (t21.1,(t21.2.1++[t33],t21.2.2))
 else
 none) n 0
def F (n:Nat)(t1:Wt)(t2:Wb):Option Q8:=
 (bP.F n t1 ⟨#[116,121,112,101]⟩).bind λr3=>
 if r3=true then
 (bR.F n (t1.1,(Ju.wrap (t1.2.1+1),t1.2.2)) 2).bind λr4=>
 (aA.F n r4.2 ⟨#[61]⟩).bind λr5=>
 (ei.F n r5).bind λr6=>
 if Jr ([]:WE)+Jr [r6.1]<=aT then
 l0 n t2 (λt12 t13=>
 (aA.F n t12 ⟨#[46]⟩).bind λr14=>
 if r14.2.2.2.2=false then
 if Jr t2.1+Jr [t13]<=aT then
 some ((r14.1,(r14.2.1,(r14.2.2.1,(r14.2.2.2.1,decide ((Jr t13.2:Int)>12))))),(t2.1++[t13],t2.2))
 else
 none
 else
 if Jr t2.1+Jr [t13]<=aT then
 some ((r14.1,(r14.2.1,(r14.2.2.1,(r14.2.2.2.1,true)))),(t2.1++[t13],t2.2))
 else
 none) n r6.2 (r4.1,[]++[r6.1])
 else
 none
 else
 (bP.F n t1 ⟨#[114,101,108]⟩).bind λr15=>
 if r15=true then
 (bR.F n (t1.1,(Ju.wrap (t1.2.1+1),t1.2.2)) 1).bind λr16=>
 (aA.F n r16.2 ⟨#[40]⟩).bind λr17=>
 (bV.F n r17 ⟨#[41]⟩).bind λr18=>
 if(!r18)=true then
 (bQ.F n r17).bind λr19=>
 j1 n r19.2 t2 (r16.1,(r19.1,0)) (λt35 t36=>
 some (t35,t36))
 else
 j1 n r17 t2 (r16.1,([],0)) (λt37 t38=>
 some (t37,t38))
 else
 (bY.F n t1).bind λr39=>
 if Jr t2.2.2+Jr [r39.1]<=aT then
 some (r39.2,(t2.1,(t2.2.1,t2.2.2++[r39.1])))
 else
 none
def code:=Tryz.f176.body.getD .skip
abbrev ash:List ASh:=[.mp Qh .ro,.mp Qc QF]
abbrev rsh:List RSh:=[.out Qh,.out Qc]
def c1:=Jy (Jy (Jy (Jy (JA (Jy (Jy (Jy (JA code))))))))
def b0:=JA (JA (JA (Jy (Jy (Jy (Jy (JA (Jy (JA code)))))))))
def b2:=JA (JA (Jy (JA (Jy c1))))
abbrev sh0:ES:=⟨[(0,.pt 0 []),(1,.pt 1 []),(4,.pt 4 [])],[⟨0,.st Qi,.ro,true,true,none⟩,⟨1,.st Qd,.pr QZ QG,true,true,none⟩,⟨4,.st Qp,.pr .ro QZ,true,false,none⟩]⟩
abbrev sh2:ES:=⟨[(0,.pt 0 []),(1,.pt 1 []),(5,.pt 5 []),(98,.v Qz),(99,.v QA),(100,.v QA)],[⟨0,.st Qi,.ro,true,true,none⟩,⟨1,.st Qd,.pr QZ QG,true,true,none⟩,⟨5,.st Qt,.ro,true,false,none⟩]⟩
abbrev sh2_3:ES:=⟨[(0,.pt 0 []),(1,.pt 1 []),(5,.pt 5 [])],[⟨0,.st Qi,.ro,true,true,none⟩,⟨1,.st Qd,.pr QZ QG,true,true,none⟩,⟨5,.st Qt,.ro,true,false,none⟩]⟩
abbrev sh1_n:ES:=⟨[(0,.pt 0 []),(1,.pt 1 [])],[⟨0,.st Qi,.ro,true,true,none⟩,⟨1,.st Qd,.pr QZ QG,true,true,none⟩]⟩
def g0:GL rsh sh0:=λn m x kn kx=>l0 n x.2.2.1 (λy0 y1=>kx 1 (sh0.enc (((()),(()),(()),()),(y0,x.2.2.1,y1,())))) m x.2.1 x.2.2.2.1
def g2:GL rsh sh2:=λn m x kn kx=>l2 n x.1.2.2.2.1 x.1.2.2.2.2.1 x.2.1 x.2.2.1 x.2.2.2.1 (λy0 y1=>kx 3 (sh2_3.enc (((()),(()),(()),()),(y0,x.2.2.1,y1,())))) m x.1.2.2.2.2.2.1
def g1:GL rsh sh2_3:=λn m x kn kx=>j1 n x.2.1 x.2.2.1 x.2.2.2.1 (λy0 y1=>kn (sh1_n.enc (((()),(()),()),(y0,y1,()))))
def B:Bd:=⟨ash,rsh,[fu.E,bP.E,bR.E,aA.E,ei.E,aD.E,bV.E,bQ.E,bY.E],⟨code,134,.nil,[]⟩,[⟨0,sh0,g0⟩,⟨2,sh2,g2⟩,⟨1,sh2_3,g1⟩]⟩
theorem u0:UO B 0 (.loop b0):=
 lu (.seq Vi (.block (some [0,1,4]) .nil)) [(0,[0,1]),(1,[0,1,4])] [0,1,4] sh0 g0 mn
theorem u2:UO B 2 (.loop b2):=
 lu (.seq .nil (.seq Vl (.seq (.block (some [0,1,5,98,99,100]) (.seq .nil W9)) .nil))) [(0,[0,1]),(3,[0,1,5])] [0,1,5,98,99,100] sh2 g2 mn
theorem u1:UO B 1 c1:=
 ju (.seq .nil (.seq (.seq .nil (.block (some [0,1,5]) (.cut 2 [0,1,5,98,99,100]))) Vm)) [(0,[0,1])] [0,1] sh2_3 g1 (mc u2 mn)
def E:En:=⟨176,λn=>⟨B.a,B.r,λv=>F n v.1 v.2.1⟩,cD B (.block (some [0,1]) (.seq .nil (.cond (.seq .nil (.seq (.reg [(31,.pr .ro QZ),(4,.pr .ro QZ)]) (.seq .nil (.seq .nil (.seq (.block (some [0,1,4]) (.cut 0 [0,1,4])) (.seq .nil (.seq .nil (.reg [(70,.ro)])))))))) (.seq .nil (.cond (.seq .nil (.seq .nil (.seq .nil (.seq Vi (.cut 1 [0,1,5]))))) (.reg [(14,.pr QQ QN),(15,.own QJ)])))))) Tryz.func176 (mc u0 (mc u1 mn))⟩
end aF
namespace dy
def l0 (n:Nat)(t3:WF)(t4:Wb)(K0:Wt->Wb->Option Q9):Nat->Wt->Wb->Option Q9
 |0,_,_=>none
 |k+1,t5,t6=>
 if(decide (t5.2.2.2.1<0))=true then
 if decide (t5.2.1<(Jr t3:Int))=true then
 (aF.F n t5 t6).bind λr7=>
 l0 n t3 t4 K0 k r7.1 r7.2
 else
 K0 t5 t6
 else
 K0 t5 t6
def j1 (n:Nat)(t10:Bool)(t11:Wb)(t12:Wb)(Kn:Unit->Option Q9):Option Q9:=
 if t10=true then
 some (([],([],[])),0,6)
 else
 Kn ()
def F (n:Nat)(t1:ByteArray):Option Q9:=
 (db.F n t1).bind λr2=>
 if(!decide (r2.2.2=0))=true then
 some (([],([],[])),r2.2.1,r2.2.2)
 else
 l0 n r2.1 ([],([],[])) (λt8 t9=>
 if decide (t8.2.2.2.1>=0)=true then
 some (([],([],[])),t8.2.2.2.1,5)
 else
 if t8.2.2.2.2=false then
 if(decide ((Jr t9.1:Int)>20))=false then
 if(decide ((Jr t9.2.1:Int)>20))=false then
 j1 n (decide ((Jr t9.2.2:Int)>40)) ([],([],[])) t9 (λ_=>
 some (t9,0,0))
 else
 j1 n true ([],([],[])) t9 (λ_=>
 some (t9,0,0))
 else
 j1 n true ([],([],[])) t9 (λ_=>
 some (t9,0,0))
 else
 j1 n true ([],([],[])) t9 (λ_=>
 some (t9,0,0))) n (r2.1,(0,((Js t1:Int),((-1),false)))) ([],([],[]))
def code:=Tryz.f104.body.getD .skip
abbrev ash:List ASh:=[.ro .str]
abbrev rsh:List RSh:=[.own Qc QF,.ro QA,.ro QA]
def b0:=JA (JA (JA (Jy (Jy (Jy (Jy (Jy code)))))))
def c1:=Jy (Jy (Jy (JA (JA (Jy (Jy (Jy (Jy (Jy (Jy code))))))))))
abbrev sh0:ES:=⟨[(2,.pt 2 []),(5,.v Qo),(8,.pt 8 []),(9,.pt 9 [])],[⟨2,.st Qd,.pr QZ QG,true,false,none⟩,⟨8,.st Qi,.ro,true,false,none⟩,⟨9,.st Qd,.pr QZ QG,true,false,none⟩]⟩
abbrev sh0_0:ES:=⟨[(2,.pt 2 []),(8,.pt 8 []),(9,.pt 9 [])],[⟨2,.st Qd,.pr QZ QG,true,false,none⟩,⟨8,.st Qi,.ro,true,false,none⟩,⟨9,.st Qd,.pr QZ QG,true,false,none⟩]⟩
abbrev sh1:ES:=⟨[(2,.pt 2 []),(9,.pt 9 []),(54,.v .bool)],[⟨2,.st Qd,.pr QZ QG,true,false,none⟩,⟨9,.st Qd,.pr QZ QG,true,false,none⟩]⟩
abbrev sh1_n:ES:=⟨[(2,.pt 2 []),(9,.pt 9 [])],[⟨2,.st Qd,.pr QZ QG,true,false,none⟩,⟨9,.st Qd,.pr QZ QG,true,false,none⟩]⟩
def g0:GL rsh sh0:=λn m x kn kx=>l0 n x.1.2.1 x.2.1 (λy0 y1=>kx 0 (sh0_0.enc (((()),(()),(()),()),(x.2.1,y0,y1,())))) m x.2.2.1 x.2.2.2.1
def g1:GL rsh sh1:=λn m x kn kx=>j1 n x.1.2.2.1 x.2.1 x.2.2.1 (λ_=>kn (sh1_n.enc (((()),(()),()),(x.2.1,x.2.2.1,()))))
def B:Bd:=⟨ash,rsh,[db.E,aF.E],⟨code,79,.nil,[(.cell 2 53,.st Qd,.pr QZ QG),(.tmp 3,.int .i64,.ro),(.tmp 4,.int .i64,.ro)]⟩,[⟨0,sh0,g0⟩,⟨1,sh1,g1⟩]⟩
theorem u0:UO B 0 (.loop b0):=
 lu (.seq Vi (.block (some [2,5,8,9]) .nil)) [(0,[2,8,9])] [2,5,8,9] sh0 g0 mn
theorem u1:UO B 1 c1:=
 ju (.cond (.seq (.reg [(77,.pr QZ QG)]) .nil) .nil) [(2,[2,9])] [2,9] sh1 g1 mn
def E:En:=⟨104,λn=>⟨B.a,B.r,λv=>F n v.1⟩,cD B (.seq (.reg [(2,.pr QZ QG)]) (.seq .nil (.seq (.seq .nil (.cond (.seq (.reg [(18,.pr QZ QG)]) .nil) .nil)) (.seq .nil (.seq (.reg [(26,.pr QZ QG),(9,.pr QZ QG)]) (.seq (.block (some [2,8,9]) (.cut 0 [2,5,8,9])) (.seq (.block (some [2,9]) (.seq .nil (.cond (.seq (.reg [(49,.pr QZ QG)]) .nil) (.seq .nil (.cut 1 [2,9,54]))))) Vm))))))) Tryz.func104 (mc u0 (mc u1 mn))⟩
end dy
namespace bB
def l0 (n:Nat)(s3:WL)(v4:ByteArray)(t5:Int)(K0:Unit->Option Int):Nat->Int->Option Int
 |0,_=>none
 |k+1,t6=>
 if decide (t6<t5)=true then
 if(0:Int)<=t6/\t6<(Jr s3:Int)then
 if(Km v4 (Jv s3 (Jt t6) Jq))=true then
 some t6
 else
 l0 n s3 v4 t5 K0 k (Ju.wrap (t6+1))
 else
 none
 else
 K0 ()
def F (n:Nat)(s1:WL)(v2:ByteArray):Option Int:=
 l0 n s1 v2 (Jr s1:Int) (λ_=>
 some (-1)) n 0
def code:=Tryz.f137.body.getD .skip
abbrev ash:List ASh:=[.ro Qz,.ro .str]
abbrev rsh:List RSh:=[.ro QA]
def b0:=JA (JA (Jy (JA (Jy code))))
abbrev sh0:ES:=⟨[(0,.v Qz),(1,.v .str),(7,.v QA),(8,.v QA)],[]⟩
abbrev sh0_0:ES:=⟨[],[]⟩
def g0:GL rsh sh0:=λn m x kn kx=>l0 n x.1.1 x.1.2.1 x.1.2.2.1 (λ_=>kx 0 (sh0_0.enc ((()),(())))) m x.1.2.2.2.1
def B:Bd:=⟨ash,rsh,[],⟨code,19,.nil,[(.tmp 4,.int .i64,.ro)]⟩,[⟨0,sh0,g0⟩]⟩
theorem u0:UO B 0 (.loop b0):=
 lu (.seq .nil (.seq Vl (.seq (.block (some [0,1,7,8]) Va) .nil))) [(0,[])] [0,1,7,8] sh0 g0 mn
def E:En:=⟨137,λn=>⟨B.a,B.r,λv=>F n v.1 v.2.1⟩,cD B (.seq .nil (.seq (.seq .nil (.block (some []) (.cut 0 [0,1,7,8]))) Vm)) Tryz.func137 (mc u0 mn)⟩
end bB
namespace cX
def F (n:Nat)(s1:WL)(v2:ByteArray):Option Bool:=
 (bB.F n s1 v2).bind λr3=>
 some (decide (r3>=0))
def code:=Tryz.f73.body.getD .skip
abbrev ash:List ASh:=[.ro Qz,.ro .str]
abbrev rsh:List RSh:=[.ro .bool]
def B:Bd:=⟨ash,rsh,[bB.E],⟨code,9,.nil,[(.tmp 4,.bool,.ro)]⟩,[]⟩
def E:En:=⟨73,λn=>⟨B.a,B.r,λv=>F n v.1 v.2.1⟩,cD B Vk Tryz.func73 mn⟩
end cX
namespace dC
def l0 (n:Nat)(t2:WD)(t3:Int)(K0:WL->Option WL):Nat->Int->WL->Option WL
 |0,_,_=>none
 |k+1,t4,out5=>
 if decide (t4<t3)=true then
 if(0:Int)<=t4/\t4<(Jr t2:Int)then
 if(decide (((Jv t2 (Jt t4) (0,(Jq,[]))).1)=1))=true then
 (cX.F n out5 (((Jv t2 (Jt t4) (0,(Jq,[]))).2).1)).bind λr6=>
 if(!r6)=true then
 if Jr out5+Jr ([((Jv t2 (Jt t4) (0,(Jq,[]))).2).1]:WL)<=aT then
 l0 n t2 t3 K0 k (Ju.wrap (t4+1)) (out5++[((Jv t2 (Jt t4) (0,(Jq,[]))).2).1])
 else
 none
 else
 l0 n t2 t3 K0 k (Ju.wrap (t4+1)) out5
 else
 l0 n t2 t3 K0 k (Ju.wrap (t4+1)) out5
 else
 none
 else
 K0 out5
def F (n:Nat)(r1:Wk):Option WL:=
 l0 n r1.1 (Jr r1.1:Int) (λout7=>
 some out7) n 0 []
def code:=Tryz.f113.body.getD .skip
abbrev ash:List ASh:=[.ro Qf]
abbrev rsh:List RSh:=[.ro Qz]
def b0:=JA (JA (Jy (JA (Jy (Jy code)))))
abbrev sh0:ES:=⟨[(3,.al 3 []),(8,.v Qk),(9,.v QA),(10,.v QA)],[⟨3,.sl QC,.own .ro,false,false,none⟩]⟩
abbrev sh0_0:ES:=⟨[(3,.al 3 [])],[⟨3,.sl QC,.own .ro,false,false,none⟩]⟩
def g0:GL rsh sh0:=λn m x kn kx=>l0 n x.1.2.1 x.1.2.2.1 (λy0=>kx 0 (sh0_0.enc (((()),()),(y0,())))) m x.1.2.2.2.1 x.2.1
def B:Bd:=⟨ash,rsh,[cX.E],⟨code,31,.nil,[(.tmp 2,.sl QC,.ro)]⟩,[⟨0,sh0,g0⟩]⟩
theorem u0:UO B 0 (.loop b0):=
 lu (.seq .nil (.seq Vl (.seq (.block (some [3,8,9,10]) Ve) .nil))) [(0,[3])] [3,8,9,10] sh0 g0 mn
def E:En:=⟨113,λn=>⟨B.a,B.r,λv=>F n v.1⟩,cD B (.seq .nil (.seq (.reg [(6,.own .ro)]) (.seq (.seq .nil (.block (some [3]) (.cut 0 [3,8,9,10]))) Vm))) Tryz.func113 (mc u0 mn)⟩
end dC
namespace fh
def l0 (n:Nat)(a3:WN)(b4:WN)(K0:Unit->Option Bool):Nat->Int->Option Bool
 |0,_=>none
 |k+1,i5=>
 if decide (i5<(Jr a3:Int))=true then
 if(0:Int)<=i5/\i5<(Jr a3:Int)then
 if(0:Int)<=i5/\i5<(Jr b4:Int)then
 if(!decide ((Jv a3 (Jt i5) 0)=(Jv b4 (Jt i5) 0)))=true then
 some false
 else
 l0 n a3 b4 K0 k (Ju.wrap (i5+1))
 else
 none
 else
 none
 else
 K0 ()
def F (n:Nat)(a1:WN)(b2:WN):Option Bool:=
 if(!decide ((Jr a1:Int)=(Jr b2:Int)))=true then
 some false
 else
 l0 n a1 b2 (λ_=>
 some true) n 0
def code:=Tryz.f115.body.getD .skip
abbrev ash:List ASh:=[.ro Qy,.ro Qy]
abbrev rsh:List RSh:=[.ro .bool]
def b0:=JA (JA (Jy (JA (Jy (Jy code)))))
abbrev sh0:ES:=⟨[(0,.v Qy),(1,.v Qy),(5,.v QA)],[]⟩
abbrev sh0_0:ES:=⟨[],[]⟩
def g0:GL rsh sh0:=λn m x kn kx=>l0 n x.1.1 x.1.2.1 (λ_=>kx 0 (sh0_0.enc ((()),(())))) m x.1.2.2.1
def B:Bd:=⟨ash,rsh,[],⟨code,26,.nil,[(.tmp 4,.bool,.ro)]⟩,[⟨0,sh0,g0⟩]⟩
theorem u0:UO B 0 (.loop b0):=
 lu (.seq Vi (.seq (.block (some [0,1,5]) Vf) .nil)) [(0,[])] [0,1,5] sh0 g0 mn
def E:En:=⟨115,λn=>⟨B.a,B.r,λv=>F n v.1 v.2.1⟩,cD B (.seq .nil (.seq Vf (.seq (.seq .nil (.block (some []) (.cut 0 [0,1,5]))) Vm))) Tryz.func115 (mc u0 mn)⟩
end fh
namespace ld
def F (n:Nat)(a1:WG)(b2:WG):Option Bool:=
 if(!decide (a1.1=b2.1))=true then
 some false
 else
 if(!(Km a1.2.1 b2.2.1))=true then
 some false
 else
 (fh.F n a1.2.2 b2.2.2).bind λr3=>
 if(!r3)=true then
 some false
 else
 some true
def code:=Tryz.f114.body.getD .skip
abbrev ash:List ASh:=[.ro Qn,.ro Qn]
abbrev rsh:List RSh:=[.ro .bool]
def B:Bd:=⟨ash,rsh,[fh.E],⟨code,21,.nil,[(.tmp 4,.bool,.ro)]⟩,[]⟩
def E:En:=⟨114,λn=>⟨B.a,B.r,λv=>F n v.1 v.2.1⟩,cD B WP Tryz.func114 mn⟩
end ld
namespace gQ
def l0 (n:Nat)(a3:WD)(b4:WD)(K0:Unit->Option Bool):Nat->Int->Option Bool
 |0,_=>none
 |k+1,i5=>
 if decide (i5<(Jr a3:Int))=true then
 if(0:Int)<=i5/\i5<(Jr a3:Int)then
 if(0:Int)<=i5/\i5<(Jr b4:Int)then
 (ld.F n (Jv a3 (Jt i5) (0,(Jq,[]))) (Jv b4 (Jt i5) (0,(Jq,[])))).bind λr6=>
 if(!r6)=true then
 some false
 else
 l0 n a3 b4 K0 k (Ju.wrap (i5+1))
 else
 none
 else
 none
 else
 K0 ()
def F (n:Nat)(a1:WD)(b2:WD):Option Bool:=
 if(!decide ((Jr a1:Int)=(Jr b2:Int)))=true then
 some false
 else
 l0 n a1 b2 (λ_=>
 some true) n 0
def code:=Tryz.f40.body.getD .skip
abbrev ash:List ASh:=[.ro Qk,.ro Qk]
abbrev rsh:List RSh:=[.ro .bool]
def b0:=JA (JA (Jy (JA (Jy (Jy code)))))
abbrev sh0:ES:=⟨[(0,.v Qk),(1,.v Qk),(5,.v QA)],[]⟩
abbrev sh0_0:ES:=⟨[],[]⟩
def g0:GL rsh sh0:=λn m x kn kx=>l0 n x.1.1 x.1.2.1 (λ_=>kx 0 (sh0_0.enc ((()),(())))) m x.1.2.2.1
def B:Bd:=⟨ash,rsh,[ld.E],⟨code,27,.nil,[(.tmp 4,.bool,.ro)]⟩,[⟨0,sh0,g0⟩]⟩
theorem u0:UO B 0 (.loop b0):=
 lu (.seq Vi (.seq (.block (some [0,1,5]) Vf) .nil)) [(0,[])] [0,1,5] sh0 g0 mn
def E:En:=⟨40,λn=>⟨B.a,B.r,λv=>F n v.1 v.2.1⟩,cD B (.seq .nil (.seq Vf (.seq (.seq .nil (.block (some []) (.cut 0 [0,1,5]))) Vm))) Tryz.func40 (mc u0 mn)⟩
end gQ
namespace jf
def F (n:Nat)(a1:WG)(b2:WG):Option Bool:=
 if(!decide (a1.1=b2.1))=true then
 some false
 else
 if(!(Km a1.2.1 b2.2.1))=true then
 some false
 else
 (fh.F n a1.2.2 b2.2.2).bind λr3=>
 if(!r3)=true then
 some false
 else
 some true
def code:=Tryz.f41.body.getD .skip
abbrev ash:List ASh:=[.ro Qn,.ro Qn]
abbrev rsh:List RSh:=[.ro .bool]
def B:Bd:=⟨ash,rsh,[fh.E],⟨code,21,.nil,[(.tmp 4,.bool,.ro)]⟩,[]⟩
def E:En:=⟨41,λn=>⟨B.a,B.r,λv=>F n v.1 v.2.1⟩,cD B WP Tryz.func41 mn⟩
end jf
namespace gE
def l0 (n:Nat)(a3:WD)(b4:WD)(K0:Unit->Option Bool):Nat->Int->Option Bool
 |0,_=>none
 |k+1,i5=>
 if decide (i5<(Jr a3:Int))=true then
 if(0:Int)<=i5/\i5<(Jr a3:Int)then
 if(0:Int)<=i5/\i5<(Jr b4:Int)then
 (jf.F n (Jv a3 (Jt i5) (0,(Jq,[]))) (Jv b4 (Jt i5) (0,(Jq,[])))).bind λr6=>
 if(!r6)=true then
 some false
 else
 l0 n a3 b4 K0 k (Ju.wrap (i5+1))
 else
 none
 else
 none
 else
 K0 ()
def F (n:Nat)(a1:WD)(b2:WD):Option Bool:=
 if(!decide ((Jr a1:Int)=(Jr b2:Int)))=true then
 some false
 else
 l0 n a1 b2 (λ_=>
 some true) n 0
def code:=Tryz.f42.body.getD .skip
abbrev ash:List ASh:=[.ro Qk,.ro Qk]
abbrev rsh:List RSh:=[.ro .bool]
def b0:=JA (JA (Jy (JA (Jy (Jy code)))))
abbrev sh0:ES:=⟨[(0,.v Qk),(1,.v Qk),(5,.v QA)],[]⟩
abbrev sh0_0:ES:=⟨[],[]⟩
def g0:GL rsh sh0:=λn m x kn kx=>l0 n x.1.1 x.1.2.1 (λ_=>kx 0 (sh0_0.enc ((()),(())))) m x.1.2.2.1
def B:Bd:=⟨ash,rsh,[jf.E],⟨code,27,.nil,[(.tmp 4,.bool,.ro)]⟩,[⟨0,sh0,g0⟩]⟩
theorem u0:UO B 0 (.loop b0):=
 lu (.seq Vi (.seq (.block (some [0,1,5]) Vf) .nil)) [(0,[])] [0,1,5] sh0 g0 mn
def E:En:=⟨42,λn=>⟨B.a,B.r,λv=>F n v.1 v.2.1⟩,cD B (.seq .nil (.seq Vf (.seq (.seq .nil (.block (some []) (.cut 0 [0,1,5]))) Vm))) Tryz.func42 (mc u0 mn)⟩
end gE
namespace ko
def F (n:Nat)(a1:Wk)(b2:Wk):Option Bool:=
 (gQ.F n a1.1 b2.1).bind λr3=>
 if(!r3)=true then
 some false
 else
 (jf.F n a1.2.1 b2.2.1).bind λr4=>
 if(!r4)=true then
 some false
 else
 (gE.F n a1.2.2 b2.2.2).bind λr5=>
 if(!r5)=true then
 some false
 else
 some true
def code:=Tryz.f11.body.getD .skip
abbrev ash:List ASh:=[.ro Qf,.ro Qf]
abbrev rsh:List RSh:=[.ro .bool]
def B:Bd:=⟨ash,rsh,[gQ.E,jf.E,gE.E],⟨code,23,.nil,[(.tmp 4,.bool,.ro)]⟩,[]⟩
def E:En:=⟨11,λn=>⟨B.a,B.r,λv=>F n v.1 v.2.1⟩,cD B WP Tryz.func11 mn⟩
end ko
namespace aN
def l0 (n:Nat)(K0:ByteArray->Option ByteArray):Nat->Int->ByteArray->Option ByteArray
 |0,_,_=>none
 |k+1,k2,out3=>
 if decide (k2>0)=true then
 if Js (rc [Mn.wrap (Ju.wrap (48+(Int.tmod k2 10)))])+Js out3<=aT then
 l0 n K0 k (Ju.wrap (Int.tdiv k2 10)) ((rc [Mn.wrap (Ju.wrap (48+(Int.tmod k2 10)))])++out3)
 else
 none
 else
 K0 out3
def F (n:Nat)(k1:Int):Option ByteArray:=
 if decide (k1<=0)=true then
 some ⟨#[109,48]⟩
 else
 l0 n (λout4=>
 if Js ⟨#[109]⟩+Js out4<=aT then
 some (⟨#[109]⟩++out4)
 else
 none) n k1 Jq
def code:=Tryz.f116.body.getD .skip
abbrev ash:List ASh:=[.ro QA]
abbrev rsh:List RSh:=[.ro .str]
def b0:=JA (JA (JA (Jy (Jy (Jy code)))))
abbrev sh0:ES:=⟨[(0,.v QA),(3,.v .str)],[]⟩
abbrev sh0_0:ES:=⟨[(3,.v .str)],[]⟩
def g0:GL rsh sh0:=λn m x kn kx=>l0 n (λy0=>kx 0 (sh0_0.enc ((y0,()),(())))) m x.1.1 x.1.2.1
def B:Bd:=⟨ash,rsh,[],⟨code,20,.nil,[(.tmp 2,.str,.ro)]⟩,[⟨0,sh0,g0⟩]⟩
theorem u0:UO B 0 (.loop b0):=
 lu (.seq Vi (.block (some [0,3]) Vm)) [(0,[3])] [0,3] sh0 g0 mn
def E:En:=⟨116,λn=>⟨B.a,B.r,λv=>F n v.1⟩,cD B (.seq .nil (.seq Vf (.seq .nil (.seq (.block (some [3]) (.cut 0 [0,3])) Vm)))) Tryz.func116 (mc u0 mn)⟩
end aN
namespace dE
def l0 (n:Nat)(K0:Int->WN->Option (Int×List Int)):Nat->Int->Int->WN->Option (Int×List Int)
 |0,_,_,_=>none
 |k+1,k3,i4,a5=>
 if decide (i4<(Jr a5:Int))=true then
 if(0:Int)<=i4/\i4<(Jr a5:Int)then
 l0 n K0 k (Ju.wrap (k3+1)) (Ju.wrap (i4+1)) (KO a5 (Jt i4) k3)
 else
 none
 else
 K0 k3 a5
def F (n:Nat)(a1:WN)(k2:Int):Option (Int×List Int):=
 l0 n (λk6 a7=>
 some (k6,a7)) n k2 0 a1
def code:=Tryz.f117.body.getD .skip
abbrev ash:List ASh:=[.ms Qy QZ,.ro QA]
abbrev rsh:List RSh:=[.ro QA,.out Qy]
def b0:=JA (JA (Jy (JA (Jy code))))
abbrev sh0:ES:=⟨[(0,.al 0 []),(1,.v QA),(5,.v QA)],[⟨0,.sl QA,.own .ro,false,true,none⟩]⟩
abbrev sh0_0:ES:=⟨[(0,.al 0 []),(1,.v QA)],[⟨0,.sl QA,.own .ro,false,true,none⟩]⟩
def g0:GL rsh sh0:=λn m x kn kx=>l0 n (λy0 y1=>kx 0 (sh0_0.enc (((()),y0,()),(y1,())))) m x.1.2.1 x.1.2.2.1 x.2.1
def B:Bd:=⟨ash,rsh,[],⟨code,19,.nil,[(.tmp 4,.int .i64,.ro)]⟩,[⟨0,sh0,g0⟩]⟩
theorem u0:UO B 0 (.loop b0):=
 lu (.seq Vi (.seq (.block (some [0,1,5]) Vm) .nil)) [(0,[0,1])] [0,1,5] sh0 g0 mn
def E:En:=⟨117,λn=>⟨B.a,B.r,λv=>F n v.1 v.2.1⟩,cD B (.seq .nil (.seq (.seq .nil (.block (some [0,1]) (.cut 0 [0,1,5]))) Vm)) Tryz.func117 (mc u0 mn)⟩
end dE
namespace gl
def l0 (n:Nat)(K0:Int->WD->Option Wz):Nat->Int->Int->WD->Option Wz
 |0,_,_,_=>none
 |k+1,k3,i4,a5=>
 if decide (i4<(Jr a5:Int))=true then
 if(0:Int)<=i4/\i4<(Jr a5:Int)then
 let w6:List WG:=KO a5 (Jt i4) (k3,(Jv a5 (Jt i4) (0,(Jq,[]))).2)
 (aN.F n (Ju.wrap (k3+1))).bind λr7=>
 if(0:Int)<=i4/\i4<(Jr w6:Int)then
 let w8:List WG:=KO w6 (Jt i4) ((Jv w6 (Jt i4) (0,(Jq,[]))).1,(r7,((Jv w6 (Jt i4) (0,(Jq,[]))).2).2))
 if(0:Int)<=i4/\i4<(Jr w8:Int)then
 (dE.F n (((Jv w8 (Jt i4) (0,(Jq,[]))).2).2) (Ju.wrap ((Ju.wrap (k3+1))+1))).bind λr9=>
 let w10:List WG:=KO w8 (Jt i4) ((Jv w8 (Jt i4) (0,(Jq,[]))).1,(((Jv w8 (Jt i4) (0,(Jq,[]))).2).1,r9.2))
 l0 n K0 k r9.1 (Ju.wrap (i4+1)) w10
 else
 none
 else
 none
 else
 none
 else
 K0 k3 a5
def F (n:Nat)(a1:WD)(k2:Int):Option Wz:=
 l0 n (λk11 a12=>
 some (k11,a12)) n k2 0 a1
def code:=Tryz.f43.body.getD .skip
abbrev ash:List ASh:=[.ms Qk QQ,.ro QA]
abbrev rsh:List RSh:=[.ro QA,.out Qk]
def b0:=JA (JA (Jy (JA (Jy code))))
abbrev sh0:ES:=⟨[(0,.al 0 []),(1,.v QA),(5,.v QA)],[⟨0,.sl Qn,.own QT,false,true,none⟩]⟩
abbrev sh0_0:ES:=⟨[(0,.al 0 []),(1,.v QA)],[⟨0,.sl Qn,.own QT,false,true,none⟩]⟩
def g0:GL rsh sh0:=λn m x kn kx=>l0 n (λy0 y1=>kx 0 (sh0_0.enc (((()),y0,()),(y1,())))) m x.1.2.1 x.1.2.2.1 x.2.1
def B:Bd:=⟨ash,rsh,[aN.E,dE.E],⟨code,35,.nil,[(.tmp 4,.int .i64,.ro)]⟩,[⟨0,sh0,g0⟩]⟩
theorem u0:UO B 0 (.loop b0):=
 lu (.seq Vi (.seq (.block (some [0,1,5]) Vd) .nil)) [(0,[0,1])] [0,1,5] sh0 g0 mn
def E:En:=⟨43,λn=>⟨B.a,B.r,λv=>F n v.1 v.2.1⟩,cD B (.seq .nil (.seq (.seq .nil (.block (some [0,1]) (.cut 0 [0,1,5]))) Vm)) Tryz.func43 (mc u0 mn)⟩
end gl
namespace gi
def l0 (n:Nat)(K0:Int->WD->Option Wz):Nat->Int->Int->WD->Option Wz
 |0,_,_,_=>none
 |k+1,k3,i4,a5=>
 if decide (i4<(Jr a5:Int))=true then
 if(0:Int)<=i4/\i4<(Jr a5:Int)then
 let w6:List WG:=KO a5 (Jt i4) (k3,(Jv a5 (Jt i4) (0,(Jq,[]))).2)
 (aN.F n (Ju.wrap (k3+1))).bind λr7=>
 if(0:Int)<=i4/\i4<(Jr w6:Int)then
 let w8:List WG:=KO w6 (Jt i4) ((Jv w6 (Jt i4) (0,(Jq,[]))).1,(r7,((Jv w6 (Jt i4) (0,(Jq,[]))).2).2))
 if(0:Int)<=i4/\i4<(Jr w8:Int)then
 (dE.F n (((Jv w8 (Jt i4) (0,(Jq,[]))).2).2) (Ju.wrap ((Ju.wrap (k3+1))+1))).bind λr9=>
 let w10:List WG:=KO w8 (Jt i4) ((Jv w8 (Jt i4) (0,(Jq,[]))).1,(((Jv w8 (Jt i4) (0,(Jq,[]))).2).1,r9.2))
 l0 n K0 k r9.1 (Ju.wrap (i4+1)) w10
 else
 none
 else
 none
 else
 none
 else
 K0 k3 a5
def F (n:Nat)(a1:WD)(k2:Int):Option Wz:=
 l0 n (λk11 a12=>
 some (k11,a12)) n k2 0 a1
def code:=Tryz.f45.body.getD .skip
abbrev ash:List ASh:=[.ms Qk QQ,.ro QA]
abbrev rsh:List RSh:=[.ro QA,.out Qk]
def b0:=JA (JA (Jy (JA (Jy code))))
abbrev sh0:ES:=⟨[(0,.al 0 []),(1,.v QA),(5,.v QA)],[⟨0,.sl Qn,.own QT,false,true,none⟩]⟩
abbrev sh0_0:ES:=⟨[(0,.al 0 []),(1,.v QA)],[⟨0,.sl Qn,.own QT,false,true,none⟩]⟩
def g0:GL rsh sh0:=λn m x kn kx=>l0 n (λy0 y1=>kx 0 (sh0_0.enc (((()),y0,()),(y1,())))) m x.1.2.1 x.1.2.2.1 x.2.1
def B:Bd:=⟨ash,rsh,[aN.E,dE.E],⟨code,35,.nil,[(.tmp 4,.int .i64,.ro)]⟩,[⟨0,sh0,g0⟩]⟩
theorem u0:UO B 0 (.loop b0):=
 lu (.seq Vi (.seq (.block (some [0,1,5]) Vd) .nil)) [(0,[0,1])] [0,1,5] sh0 g0 mn
def E:En:=⟨45,λn=>⟨B.a,B.r,λv=>F n v.1 v.2.1⟩,cD B (.seq .nil (.seq (.seq .nil (.block (some [0,1]) (.cut 0 [0,1,5]))) Vm)) Tryz.func45 (mc u0 mn)⟩
end gi
namespace dD
def l0 (n:Nat)(a3:WN)(K0:Int->Option Int):Nat->Int->Int->Option Int
 |0,_,_=>none
 |k+1,k4,i5=>
 if decide (i5<(Jr a3:Int))=true then
 if(0:Int)<=i5/\i5<(Jr a3:Int)then
 if(!decide ((Jv a3 (Jt i5) 0)=k4))=true then
 some (-1)
 else
 l0 n a3 K0 k (Ju.wrap (k4+1)) (Ju.wrap (i5+1))
 else
 none
 else
 K0 k4
def F (n:Nat)(a1:WN)(k2:Int):Option Int:=
 l0 n a1 (λk6=>
 some k6) n k2 0
def code:=Tryz.f118.body.getD .skip
abbrev ash:List ASh:=[.ro Qy,.ro QA]
abbrev rsh:List RSh:=[.ro QA]
def b0:=JA (JA (Jy (JA (Jy code))))
abbrev sh0:ES:=⟨[(0,.v Qy),(1,.v QA),(5,.v QA)],[]⟩
abbrev sh0_0:ES:=⟨[(1,.v QA)],[]⟩
def g0:GL rsh sh0:=λn m x kn kx=>l0 n x.1.1 (λy0=>kx 0 (sh0_0.enc ((y0,()),(())))) m x.1.2.1 x.1.2.2.1
def B:Bd:=⟨ash,rsh,[],⟨code,21,.nil,[(.tmp 4,.int .i64,.ro)]⟩,[⟨0,sh0,g0⟩]⟩
theorem u0:UO B 0 (.loop b0):=
 lu (.seq Vi (.seq (.block (some [0,1,5]) Vb) .nil)) [(0,[1])] [0,1,5] sh0 g0 mn
def E:En:=⟨118,λn=>⟨B.a,B.r,λv=>F n v.1 v.2.1⟩,cD B (.seq .nil (.seq (.seq .nil (.block (some [1]) (.cut 0 [0,1,5]))) Vm)) Tryz.func118 (mc u0 mn)⟩
end dD
namespace gf
def l0 (n:Nat)(a3:WD)(K0:Int->Option Int):Nat->Int->Int->Option Int
 |0,_,_=>none
 |k+1,k4,i5=>
 if decide (i5<(Jr a3:Int))=true then
 if(0:Int)<=i5/\i5<(Jr a3:Int)then
 if(!decide (((Jv a3 (Jt i5) (0,(Jq,[]))).1)=k4))=true then
 some (-1)
 else
 if(0:Int)<=i5/\i5<(Jr a3:Int)then
 (aN.F n (Ju.wrap (k4+1))).bind λr6=>
 if(!(Km (((Jv a3 (Jt i5) (0,(Jq,[]))).2).1) r6))=true then
 some (-1)
 else
 if(0:Int)<=i5/\i5<(Jr a3:Int)then
 (dD.F n (((Jv a3 (Jt i5) (0,(Jq,[]))).2).2) (Ju.wrap ((Ju.wrap (k4+1))+1))).bind λr7=>
 if decide (r7<0)=true then
 some (-1)
 else
 l0 n a3 K0 k r7 (Ju.wrap (i5+1))
 else
 none
 else
 none
 else
 none
 else
 K0 k4
def F (n:Nat)(a1:WD)(k2:Int):Option Int:=
 l0 n a1 (λk8=>
 some k8) n k2 0
def code:=Tryz.f46.body.getD .skip
abbrev ash:List ASh:=[.ro Qk,.ro QA]
abbrev rsh:List RSh:=[.ro QA]
def b0:=JA (JA (Jy (JA (Jy code))))
abbrev sh0:ES:=⟨[(0,.v Qk),(1,.v QA),(5,.v QA)],[]⟩
abbrev sh0_0:ES:=⟨[(1,.v QA)],[]⟩
def g0:GL rsh sh0:=λn m x kn kx=>l0 n x.1.1 (λy0=>kx 0 (sh0_0.enc ((y0,()),(())))) m x.1.2.1 x.1.2.2.1
def B:Bd:=⟨ash,rsh,[aN.E,dD.E],⟨code,41,.nil,[(.tmp 4,.int .i64,.ro)]⟩,[⟨0,sh0,g0⟩]⟩
theorem u0:UO B 0 (.loop b0):=
 lu (.seq Vi (.seq (.block (some [0,1,5]) WQ) .nil)) [(0,[1])] [0,1,5] sh0 g0 mn
def E:En:=⟨46,λn=>⟨B.a,B.r,λv=>F n v.1 v.2.1⟩,cD B (.seq .nil (.seq (.seq .nil (.block (some [1]) (.cut 0 [0,1,5]))) Vm)) Tryz.func46 (mc u0 mn)⟩
end gf
namespace gm
def l0 (n:Nat)(a3:WD)(K0:Int->Option Int):Nat->Int->Int->Option Int
 |0,_,_=>none
 |k+1,k4,i5=>
 if decide (i5<(Jr a3:Int))=true then
 if(0:Int)<=i5/\i5<(Jr a3:Int)then
 if(!decide (((Jv a3 (Jt i5) (0,(Jq,[]))).1)=k4))=true then
 some (-1)
 else
 if(0:Int)<=i5/\i5<(Jr a3:Int)then
 (aN.F n (Ju.wrap (k4+1))).bind λr6=>
 if(!(Km (((Jv a3 (Jt i5) (0,(Jq,[]))).2).1) r6))=true then
 some (-1)
 else
 if(0:Int)<=i5/\i5<(Jr a3:Int)then
 (dD.F n (((Jv a3 (Jt i5) (0,(Jq,[]))).2).2) (Ju.wrap ((Ju.wrap (k4+1))+1))).bind λr7=>
 if decide (r7<0)=true then
 some (-1)
 else
 l0 n a3 K0 k r7 (Ju.wrap (i5+1))
 else
 none
 else
 none
 else
 none
 else
 K0 k4
def F (n:Nat)(a1:WD)(k2:Int):Option Int:=
 l0 n a1 (λk8=>
 some k8) n k2 0
def code:=Tryz.f48.body.getD .skip
abbrev ash:List ASh:=[.ro Qk,.ro QA]
abbrev rsh:List RSh:=[.ro QA]
def b0:=JA (JA (Jy (JA (Jy code))))
abbrev sh0:ES:=⟨[(0,.v Qk),(1,.v QA),(5,.v QA)],[]⟩
abbrev sh0_0:ES:=⟨[(1,.v QA)],[]⟩
def g0:GL rsh sh0:=λn m x kn kx=>l0 n x.1.1 (λy0=>kx 0 (sh0_0.enc ((y0,()),(())))) m x.1.2.1 x.1.2.2.1
def B:Bd:=⟨ash,rsh,[aN.E,dD.E],⟨code,41,.nil,[(.tmp 4,.int .i64,.ro)]⟩,[⟨0,sh0,g0⟩]⟩
theorem u0:UO B 0 (.loop b0):=
 lu (.seq Vi (.seq (.block (some [0,1,5]) WQ) .nil)) [(0,[1])] [0,1,5] sh0 g0 mn
def E:En:=⟨48,λn=>⟨B.a,B.r,λv=>F n v.1 v.2.1⟩,cD B (.seq .nil (.seq (.seq .nil (.block (some [1]) (.cut 0 [0,1,5]))) Vm)) Tryz.func48 (mc u0 mn)⟩
end gm
namespace dF
def l0 (n:Nat)(a3:WL)(K0:Int->Option Int):Nat->Int->Int->Option Int
 |0,_,_=>none
 |k+1,left4,i5=>
 if decide (i5<(Jr a3:Int))=true then
 if(0:Int)<=i5/\i5<(Jr a3:Int)then
 if decide ((Ju.wrap (left4 - (Js (Jv a3 (Jt i5) Jq):Int)))<0)=true then
 some (-1)
 else
 l0 n a3 K0 k (Ju.wrap (left4 - (Js (Jv a3 (Jt i5) Jq):Int))) (Ju.wrap (i5+1))
 else
 none
 else
 K0 left4
def F (n:Nat)(a1:WL)(left2:Int):Option Int:=
 if decide ((Ju.wrap (left2 - (Jr a1:Int)))<0)=true then
 some (-1)
 else
 l0 n a1 (λleft6=>
 some left6) n (Ju.wrap (left2 - (Jr a1:Int))) 0
def code:=Tryz.f201.body.getD .skip
abbrev ash:List ASh:=[.ro Qz,.ro QA]
abbrev rsh:List RSh:=[.ro QA]
def b0:=JA (JA (Jy (JA (Jy (Jy (Jy code))))))
abbrev sh0:ES:=⟨[(0,.v Qz),(1,.v QA),(5,.v QA)],[]⟩
abbrev sh0_0:ES:=⟨[(1,.v QA)],[]⟩
def g0:GL rsh sh0:=λn m x kn kx=>l0 n x.1.1 (λy0=>kx 0 (sh0_0.enc ((y0,()),(())))) m x.1.2.1 x.1.2.2.1
def B:Bd:=⟨ash,rsh,[],⟨code,28,.nil,[(.tmp 4,.int .i64,.ro)]⟩,[⟨0,sh0,g0⟩]⟩
theorem u0:UO B 0 (.loop b0):=
 lu (.seq Vi (.seq (.block (some [0,1,5]) Va) .nil)) [(0,[1])] [0,1,5] sh0 g0 mn
def E:En:=⟨201,λn=>⟨B.a,B.r,λv=>F n v.1 v.2.1⟩,cD B (.seq .nil (.seq .nil (.seq Vf (.seq (.seq .nil (.block (some [1]) (.cut 0 [0,1,5]))) Vm)))) Tryz.func201 (mc u0 mn)⟩
end dF
namespace kZ
def F (n:Nat)(a1:WH)(left2:Int):Option Int:=
 if decide ((Ju.wrap (left2 - (Js a1.1:Int)))<0)=true then
 some (-1)
 else
 (dF.F n a1.2 (Ju.wrap (left2 - (Js a1.1:Int)))).bind λr3=>
 if decide (r3<0)=true then
 some (-1)
 else
 some r3
def code:=Tryz.f254.body.getD .skip
abbrev ash:List ASh:=[.ro Qw,.ro QA]
abbrev rsh:List RSh:=[.ro QA]
def B:Bd:=⟨ash,rsh,[dF.E],⟨code,19,.nil,[(.tmp 4,.int .i64,.ro)]⟩,[]⟩
def E:En:=⟨254,λn=>⟨B.a,B.r,λv=>F n v.1 v.2.1⟩,cD B WR Tryz.func254 mn⟩
end kZ
namespace gN
def l0 (n:Nat)(a3:WE)(K0:Int->Option Int):Nat->Int->Int->Option Int
 |0,_,_=>none
 |k+1,left4,i5=>
 if decide (i5<(Jr a3:Int))=true then
 if(0:Int)<=i5/\i5<(Jr a3:Int)then
 (kZ.F n (Jv a3 (Jt i5) (Jq,[])) left4).bind λr6=>
 if decide (r6<0)=true then
 some (-1)
 else
 l0 n a3 K0 k r6 (Ju.wrap (i5+1))
 else
 none
 else
 K0 left4
def F (n:Nat)(a1:WE)(left2:Int):Option Int:=
 if decide ((Ju.wrap (left2 - (Jr a1:Int)))<0)=true then
 some (-1)
 else
 l0 n a1 (λleft7=>
 some left7) n (Ju.wrap (left2 - (Jr a1:Int))) 0
def code:=Tryz.f200.body.getD .skip
abbrev ash:List ASh:=[.ro Qv,.ro QA]
abbrev rsh:List RSh:=[.ro QA]
def b0:=JA (JA (Jy (JA (Jy (Jy (Jy code))))))
abbrev sh0:ES:=⟨[(0,.v Qv),(1,.v QA),(5,.v QA)],[]⟩
abbrev sh0_0:ES:=⟨[(1,.v QA)],[]⟩
def g0:GL rsh sh0:=λn m x kn kx=>l0 n x.1.1 (λy0=>kx 0 (sh0_0.enc ((y0,()),(())))) m x.1.2.1 x.1.2.2.1
def B:Bd:=⟨ash,rsh,[kZ.E],⟨code,27,.nil,[(.tmp 4,.int .i64,.ro)]⟩,[⟨0,sh0,g0⟩]⟩
theorem u0:UO B 0 (.loop b0):=
 lu (.seq Vi (.seq (.block (some [0,1,5]) Va) .nil)) [(0,[1])] [0,1,5] sh0 g0 mn
def E:En:=⟨200,λn=>⟨B.a,B.r,λv=>F n v.1 v.2.1⟩,cD B (.seq .nil (.seq .nil (.seq Vf (.seq (.seq .nil (.block (some [1]) (.cut 0 [0,1,5]))) Vm)))) Tryz.func200 (mc u0 mn)⟩
end gN
namespace ib
def F (n:Nat)(a1:Ww)(left2:Int):Option Int:=
 if decide ((Ju.wrap (left2 - (Js a1.1:Int)))<0)=true then
 some (-1)
 else
 (gN.F n a1.2 (Ju.wrap (left2 - (Js a1.1:Int)))).bind λr3=>
 if decide (r3<0)=true then
 some (-1)
 else
 some r3
def code:=Tryz.f139.body.getD .skip
abbrev ash:List ASh:=[.ro Ql,.ro QA]
abbrev rsh:List RSh:=[.ro QA]
def B:Bd:=⟨ash,rsh,[gN.E],⟨code,19,.nil,[(.tmp 4,.int .i64,.ro)]⟩,[]⟩
def E:En:=⟨139,λn=>⟨B.a,B.r,λv=>F n v.1 v.2.1⟩,cD B WR Tryz.func139 mn⟩
end ib
namespace dT
def l0 (n:Nat)(a3:Wu)(K0:Int->Option Int):Nat->Int->Int->Option Int
 |0,_,_=>none
 |k+1,left4,i5=>
 if decide (i5<(Jr a3:Int))=true then
 if(0:Int)<=i5/\i5<(Jr a3:Int)then
 (ib.F n (Jv a3 (Jt i5) (Jq,[])) left4).bind λr6=>
 if decide (r6<0)=true then
 some (-1)
 else
 l0 n a3 K0 k r6 (Ju.wrap (i5+1))
 else
 none
 else
 K0 left4
def F (n:Nat)(a1:Wu)(left2:Int):Option Int:=
 if decide ((Ju.wrap (left2 - (Jr a1:Int)))<0)=true then
 some (-1)
 else
 l0 n a1 (λleft7=>
 some left7) n (Ju.wrap (left2 - (Jr a1:Int))) 0
def code:=Tryz.f59.body.getD .skip
abbrev ash:List ASh:=[.ro Qj,.ro QA]
abbrev rsh:List RSh:=[.ro QA]
def b0:=JA (JA (Jy (JA (Jy (Jy (Jy code))))))
abbrev sh0:ES:=⟨[(0,.v Qj),(1,.v QA),(5,.v QA)],[]⟩
abbrev sh0_0:ES:=⟨[(1,.v QA)],[]⟩
def g0:GL rsh sh0:=λn m x kn kx=>l0 n x.1.1 (λy0=>kx 0 (sh0_0.enc ((y0,()),(())))) m x.1.2.1 x.1.2.2.1
def B:Bd:=⟨ash,rsh,[ib.E],⟨code,27,.nil,[(.tmp 4,.int .i64,.ro)]⟩,[⟨0,sh0,g0⟩]⟩
theorem u0:UO B 0 (.loop b0):=
 lu (.seq Vi (.seq (.block (some [0,1,5]) Va) .nil)) [(0,[1])] [0,1,5] sh0 g0 mn
def E:En:=⟨59,λn=>⟨B.a,B.r,λv=>F n v.1 v.2.1⟩,cD B (.seq .nil (.seq .nil (.seq Vf (.seq (.seq .nil (.block (some [1]) (.cut 0 [0,1,5]))) Vm)))) Tryz.func59 (mc u0 mn)⟩
end dT
namespace iE
def F (n:Nat)(a1:WC)(left2:Int):Option Int:=
 if decide ((Ju.wrap (left2 - (Js a1.1:Int)))<0)=true then
 some (-1)
 else
 (dF.F n a1.2.1 (Ju.wrap (left2 - (Js a1.1:Int)))).bind λr3=>
 if decide (r3<0)=true then
 some (-1)
 else
 some r3
def code:=Tryz.f140.body.getD .skip
abbrev ash:List ASh:=[.ro Qq,.ro QA]
abbrev rsh:List RSh:=[.ro QA]
def B:Bd:=⟨ash,rsh,[dF.E],⟨code,19,.nil,[(.tmp 4,.int .i64,.ro)]⟩,[]⟩
def E:En:=⟨140,λn=>⟨B.a,B.r,λv=>F n v.1 v.2.1⟩,cD B WR Tryz.func140 mn⟩
end iE
namespace eh
def l0 (n:Nat)(a3:Wy)(K0:Int->Option Int):Nat->Int->Int->Option Int
 |0,_,_=>none
 |k+1,left4,i5=>
 if decide (i5<(Jr a3:Int))=true then
 if(0:Int)<=i5/\i5<(Jr a3:Int)then
 (iE.F n (Jv a3 (Jt i5) (Jq,([],0))) left4).bind λr6=>
 if decide (r6<0)=true then
 some (-1)
 else
 l0 n a3 K0 k r6 (Ju.wrap (i5+1))
 else
 none
 else
 K0 left4
def F (n:Nat)(a1:Wy)(left2:Int):Option Int:=
 if decide ((Ju.wrap (left2 - (Jr a1:Int)))<0)=true then
 some (-1)
 else
 l0 n a1 (λleft7=>
 some left7) n (Ju.wrap (left2 - (Jr a1:Int))) 0
def code:=Tryz.f60.body.getD .skip
abbrev ash:List ASh:=[.ro Qm,.ro QA]
abbrev rsh:List RSh:=[.ro QA]
def b0:=JA (JA (Jy (JA (Jy (Jy (Jy code))))))
abbrev sh0:ES:=⟨[(0,.v Qm),(1,.v QA),(5,.v QA)],[]⟩
abbrev sh0_0:ES:=⟨[(1,.v QA)],[]⟩
def g0:GL rsh sh0:=λn m x kn kx=>l0 n x.1.1 (λy0=>kx 0 (sh0_0.enc ((y0,()),(())))) m x.1.2.1 x.1.2.2.1
def B:Bd:=⟨ash,rsh,[iE.E],⟨code,27,.nil,[(.tmp 4,.int .i64,.ro)]⟩,[⟨0,sh0,g0⟩]⟩
theorem u0:UO B 0 (.loop b0):=
 lu (.seq Vi (.seq (.block (some [0,1,5]) Va) .nil)) [(0,[1])] [0,1,5] sh0 g0 mn
def E:En:=⟨60,λn=>⟨B.a,B.r,λv=>F n v.1 v.2.1⟩,cD B (.seq .nil (.seq .nil (.seq Vf (.seq (.seq .nil (.block (some [1]) (.cut 0 [0,1,5]))) Vm)))) Tryz.func60 (mc u0 mn)⟩
end eh
namespace fU
def l0 (n:Nat)(a3:Wh)(K0:Int->Option Int):Nat->Int->Int->Option Int
 |0,_,_=>none
 |k+1,left4,i5=>
 if decide (i5<(Jr a3:Int))=true then
 if(0:Int)<=i5/\i5<(Jr a3:Int)then
 (ku.F n (Jv a3 (Jt i5) ([],((0,(Jq,[])),[]))) left4).bind λr6=>
 if decide (r6<0)=true then
 some (-1)
 else
 l0 n a3 K0 k r6 (Ju.wrap (i5+1))
 else
 none
 else
 K0 left4
def F (n:Nat)(a1:Wh)(left2:Int):Option Int:=
 if decide ((Ju.wrap (left2 - (Jr a1:Int)))<0)=true then
 some (-1)
 else
 l0 n a1 (λleft7=>
 some left7) n (Ju.wrap (left2 - (Jr a1:Int))) 0
def code:=Tryz.f61.body.getD .skip
abbrev ash:List ASh:=[.ro Qe,.ro QA]
abbrev rsh:List RSh:=[.ro QA]
def b0:=JA (JA (Jy (JA (Jy (Jy (Jy code))))))
abbrev sh0:ES:=⟨[(0,.v Qe),(1,.v QA),(5,.v QA)],[]⟩
abbrev sh0_0:ES:=⟨[(1,.v QA)],[]⟩
def g0:GL rsh sh0:=λn m x kn kx=>l0 n x.1.1 (λy0=>kx 0 (sh0_0.enc ((y0,()),(())))) m x.1.2.1 x.1.2.2.1
def B:Bd:=⟨ash,rsh,[ku.E],⟨code,27,.nil,[(.tmp 4,.int .i64,.ro)]⟩,[⟨0,sh0,g0⟩]⟩
theorem u0:UO B 0 (.loop b0):=
 lu (.seq Vi (.seq (.block (some [0,1,5]) Va) .nil)) [(0,[1])] [0,1,5] sh0 g0 mn
def E:En:=⟨61,λn=>⟨B.a,B.r,λv=>F n v.1 v.2.1⟩,cD B (.seq .nil (.seq .nil (.seq Vf (.seq (.seq .nil (.block (some [1]) (.cut 0 [0,1,5]))) Vm)))) Tryz.func61 (mc u0 mn)⟩
end fU
namespace kt
def F (n:Nat)(a1:Wb)(left2:Int):Option Int:=
 (dT.F n a1.1 left2).bind λr3=>
 if decide (r3<0)=true then
 some (-1)
 else
 (eh.F n a1.2.1 r3).bind λr4=>
 if decide (r4<0)=true then
 some (-1)
 else
 (fU.F n a1.2.2 r4).bind λr5=>
 if decide (r5<0)=true then
 some (-1)
 else
 some r5
def code:=Tryz.f16.body.getD .skip
abbrev ash:List ASh:=[.ro Qc,.ro QA]
abbrev rsh:List RSh:=[.ro QA]
def B:Bd:=⟨ash,rsh,[dT.E,eh.E,fU.E],⟨code,24,.nil,[(.tmp 4,.int .i64,.ro)]⟩,[]⟩
def E:En:=⟨16,λn=>⟨B.a,B.r,λv=>F n v.1 v.2.1⟩,cD B WO Tryz.func16 mn⟩
end kt
namespace dI
def l0 (n:Nat)(a2:WL)(K0:WL->Option WL):Nat->Int->WL->Option WL
 |0,_,_=>none
 |k+1,i3,out4=>
 if decide (i3<(Jr a2:Int))=true then
 if(0:Int)<=i3/\i3<(Jr a2:Int)then
 if(0:Int)<=i3/\i3<(Jr out4:Int)then
 let w5:List ByteArray:=KO out4 (Jt i3) (Jv a2 (Jt i3) Jq)
 l0 n a2 K0 k (Ju.wrap (i3+1)) w5
 else
 none
 else
 none
 else
 K0 out4
def F (n:Nat)(a1:WL):Option WL:=
 if(0:Int)<=(Jr a1:Int)/\(Jr a1:Int)<=(Jr a1:Int)/\(Jr a1:Int)<=(aT:Int)then
 l0 n a1 (λout6=>
 some out6) n 0 (Kq (Jt (Jr a1:Int)) Jq)
 else
 none
def code:=Tryz.f205.body.getD .skip
abbrev ash:List ASh:=[.ro Qz]
abbrev rsh:List RSh:=[.own Qz QZ]
def b0:=JA (JA (Jy (JA (Jy (Jy code)))))
abbrev sh0:ES:=⟨[(0,.v Qz),(3,.al 3 []),(4,.v QA)],[⟨3,.sl QC,.own .ro,false,false,none⟩]⟩
abbrev sh0_0:ES:=⟨[(3,.al 3 [])],[⟨3,.sl QC,.own .ro,false,false,none⟩]⟩
def g0:GL rsh sh0:=λn m x kn kx=>l0 n x.1.1 (λy0=>kx 0 (sh0_0.enc (((()),()),(y0,())))) m x.1.2.2.1 x.2.1
def B:Bd:=⟨ash,rsh,[],⟨code,22,.nil,[(.tmp 2,.sl QC,.own .ro)]⟩,[⟨0,sh0,g0⟩]⟩
theorem u0:UO B 0 (.loop b0):=
 lu (.seq Vi (.seq (.block (some [0,3,4]) .nil) .nil)) [(0,[3])] [0,3,4] sh0 g0 mn
def E:En:=⟨205,λn=>⟨B.a,B.r,λv=>F n v.1⟩,cD B (.seq .nil (.seq (.reg [(7,.own .ro)]) (.seq (.seq .nil (.block (some [3]) (.cut 0 [0,3,4]))) Vm))) Tryz.func205 (mc u0 mn)⟩
end dI
namespace lf
def F (n:Nat)(a1:WH):Option WH:=
 (dI.F n a1.2).bind λr2=>
 some (a1.1,r2)
def code:=Tryz.f256.body.getD .skip
abbrev ash:List ASh:=[.ro Qw]
abbrev rsh:List RSh:=[.own Qw QX]
def B:Bd:=⟨ash,rsh,[dI.E],⟨code,12,.nil,[(.cell 2 177,.st Qx,.pr .ro QZ)]⟩,[]⟩
def E:En:=⟨256,λn=>⟨B.a,B.r,λv=>F n v.1⟩,cD B (.seq (.reg [(2,.pr .ro QZ)]) (.seq (.reg [(3,.pr .ro QZ)]) (.seq .nil (.seq (.reg [(9,.own .ro)]) Vm)))) Tryz.func256 mn⟩
end lf
namespace gJ
def l0 (n:Nat)(a2:WE)(K0:WE->Option WE):Nat->Int->WE->Option WE
 |0,_,_=>none
 |k+1,i3,out4=>
 if decide (i3<(Jr a2:Int))=true then
 if(0:Int)<=i3/\i3<(Jr a2:Int)then
 (lf.F n (Jv a2 (Jt i3) (Jq,[]))).bind λr5=>
 if(0:Int)<=i3/\i3<(Jr out4:Int)then
 l0 n a2 K0 k (Ju.wrap (i3+1)) (KO out4 (Jt i3) r5)
 else
 none
 else
 none
 else
 K0 out4
def F (n:Nat)(a1:WE):Option WE:=
 if(0:Int)<=(Jr a1:Int)/\(Jr a1:Int)<=(Jr a1:Int)/\(Jr a1:Int)<=(aT:Int)then
 l0 n a1 (λout6=>
 some out6) n 0 (Kq (Jt (Jr a1:Int)) (Jq,[]))
 else
 none
def code:=Tryz.f204.body.getD .skip
abbrev ash:List ASh:=[.ro Qv]
abbrev rsh:List RSh:=[.own Qv QV]
def b0:=JA (JA (Jy (JA (Jy (Jy code)))))
abbrev sh0:ES:=⟨[(0,.v Qv),(3,.al 3 []),(4,.v QA)],[⟨3,.sl Qw,.own QX,false,false,none⟩]⟩
abbrev sh0_0:ES:=⟨[(3,.al 3 [])],[⟨3,.sl Qw,.own QX,false,false,none⟩]⟩
def g0:GL rsh sh0:=λn m x kn kx=>l0 n x.1.1 (λy0=>kx 0 (sh0_0.enc (((()),()),(y0,())))) m x.1.2.2.1 x.2.1
def B:Bd:=⟨ash,rsh,[lf.E],⟨code,23,.nil,[(.tmp 2,.sl Qw,.own QX)]⟩,[⟨0,sh0,g0⟩]⟩
theorem u0:UO B 0 (.loop b0):=
 lu (.seq Vi (.seq (.block (some [0,3,4]) (.reg [(20,.pr .ro QZ)])) .nil)) [(0,[3])] [0,3,4] sh0 g0 mn
def E:En:=⟨204,λn=>⟨B.a,B.r,λv=>F n v.1⟩,cD B (.seq .nil (.seq (.reg [(7,.own QX)]) (.seq (.seq .nil (.block (some [3]) (.cut 0 [0,3,4]))) Vm))) Tryz.func204 (mc u0 mn)⟩
end gJ
namespace ic
def F (n:Nat)(a1:Ww):Option Ww:=
 (gJ.F n a1.2).bind λr2=>
 some (a1.1,r2)
def code:=Tryz.f146.body.getD .skip
abbrev ash:List ASh:=[.ro Ql]
abbrev rsh:List RSh:=[.own Ql QR]
def B:Bd:=⟨ash,rsh,[gJ.E],⟨code,12,.nil,[(.cell 2 175,.st Qp,.pr .ro QV)]⟩,[]⟩
def E:En:=⟨146,λn=>⟨B.a,B.r,λv=>F n v.1⟩,cD B (.seq (.reg [(2,.pr .ro QV)]) (.seq (.reg [(3,.pr .ro QZ)]) (.seq .nil (.seq (.reg [(9,.own QX)]) Vm)))) Tryz.func146 mn⟩
end ic
namespace dQ
def l0 (n:Nat)(a2:Wu)(K0:Wu->Option Wu):Nat->Int->Wu->Option Wu
 |0,_,_=>none
 |k+1,i3,out4=>
 if decide (i3<(Jr a2:Int))=true then
 if(0:Int)<=i3/\i3<(Jr a2:Int)then
 (ic.F n (Jv a2 (Jt i3) (Jq,[]))).bind λr5=>
 if(0:Int)<=i3/\i3<(Jr out4:Int)then
 l0 n a2 K0 k (Ju.wrap (i3+1)) (KO out4 (Jt i3) r5)
 else
 none
 else
 none
 else
 K0 out4
def F (n:Nat)(a1:Wu):Option Wu:=
 if(0:Int)<=(Jr a1:Int)/\(Jr a1:Int)<=(Jr a1:Int)/\(Jr a1:Int)<=(aT:Int)then
 l0 n a1 (λout6=>
 some out6) n 0 (Kq (Jt (Jr a1:Int)) (Jq,[]))
 else
 none
def code:=Tryz.f67.body.getD .skip
abbrev ash:List ASh:=[.ro Qj]
abbrev rsh:List RSh:=[.own Qj QP]
def b0:=JA (JA (Jy (JA (Jy (Jy code)))))
abbrev sh0:ES:=⟨[(0,.v Qj),(3,.al 3 []),(4,.v QA)],[⟨3,.sl Ql,.own QR,false,false,none⟩]⟩
abbrev sh0_0:ES:=⟨[(3,.al 3 [])],[⟨3,.sl Ql,.own QR,false,false,none⟩]⟩
def g0:GL rsh sh0:=λn m x kn kx=>l0 n x.1.1 (λy0=>kx 0 (sh0_0.enc (((()),()),(y0,())))) m x.1.2.2.1 x.2.1
def B:Bd:=⟨ash,rsh,[ic.E],⟨code,23,.nil,[(.tmp 2,.sl Ql,.own QR)]⟩,[⟨0,sh0,g0⟩]⟩
theorem u0:UO B 0 (.loop b0):=
 lu (.seq Vi (.seq (.block (some [0,3,4]) (.reg [(20,.pr .ro QV)])) .nil)) [(0,[3])] [0,3,4] sh0 g0 mn
def E:En:=⟨67,λn=>⟨B.a,B.r,λv=>F n v.1⟩,cD B (.seq .nil (.seq (.reg [(7,.own QR)]) (.seq (.seq .nil (.block (some [3]) (.cut 0 [0,3,4]))) Vm))) Tryz.func67 (mc u0 mn)⟩
end dQ
namespace iK
def F (n:Nat)(a1:WC):Option WC:=
 (dI.F n a1.2.1).bind λr2=>
 some (a1.1,(r2,a1.2.2))
def code:=Tryz.f147.body.getD .skip
abbrev ash:List ASh:=[.ro Qq]
abbrev rsh:List RSh:=[.own Qq QU]
def B:Bd:=⟨ash,rsh,[dI.E],⟨code,15,.nil,[(.cell 2 104,.st Qt,.pr .ro QY)]⟩,[]⟩
def E:En:=⟨147,λn=>⟨B.a,B.r,λv=>F n v.1⟩,cD B (.seq (.reg [(2,.pr .ro QY)]) (.seq (.reg [(3,.pr .ro QY)]) (.seq .nil (.seq (.reg [(9,.own .ro)]) Vk)))) Tryz.func147 mn⟩
end iK
namespace ef
def l0 (n:Nat)(a2:Wy)(K0:Wy->Option Wy):Nat->Int->Wy->Option Wy
 |0,_,_=>none
 |k+1,i3,out4=>
 if decide (i3<(Jr a2:Int))=true then
 if(0:Int)<=i3/\i3<(Jr a2:Int)then
 (iK.F n (Jv a2 (Jt i3) (Jq,([],0)))).bind λr5=>
 if(0:Int)<=i3/\i3<(Jr out4:Int)then
 l0 n a2 K0 k (Ju.wrap (i3+1)) (KO out4 (Jt i3) r5)
 else
 none
 else
 none
 else
 K0 out4
def F (n:Nat)(a1:Wy):Option Wy:=
 if(0:Int)<=(Jr a1:Int)/\(Jr a1:Int)<=(Jr a1:Int)/\(Jr a1:Int)<=(aT:Int)then
 l0 n a1 (λout6=>
 some out6) n 0 (Kq (Jt (Jr a1:Int)) (Jq,([],0)))
 else
 none
def code:=Tryz.f68.body.getD .skip
abbrev ash:List ASh:=[.ro Qm]
abbrev rsh:List RSh:=[.own Qm QS]
def b0:=JA (JA (Jy (JA (Jy (Jy code)))))
abbrev sh0:ES:=⟨[(0,.v Qm),(3,.al 3 []),(4,.v QA)],[⟨3,.sl Qq,.own QU,false,false,none⟩]⟩
abbrev sh0_0:ES:=⟨[(3,.al 3 [])],[⟨3,.sl Qq,.own QU,false,false,none⟩]⟩
def g0:GL rsh sh0:=λn m x kn kx=>l0 n x.1.1 (λy0=>kx 0 (sh0_0.enc (((()),()),(y0,())))) m x.1.2.2.1 x.2.1
def B:Bd:=⟨ash,rsh,[iK.E],⟨code,23,.nil,[(.tmp 2,.sl Qq,.own QU)]⟩,[⟨0,sh0,g0⟩]⟩
theorem u0:UO B 0 (.loop b0):=
 lu (.seq Vi (.seq (.block (some [0,3,4]) (.reg [(20,.pr .ro QY)])) .nil)) [(0,[3])] [0,3,4] sh0 g0 mn
def E:En:=⟨68,λn=>⟨B.a,B.r,λv=>F n v.1⟩,cD B (.seq .nil (.seq (.reg [(7,.own QU)]) (.seq (.seq .nil (.block (some [3]) (.cut 0 [0,3,4]))) Vm))) Tryz.func68 (mc u0 mn)⟩
end ef
namespace fR
def l0 (n:Nat)(a2:Wh)(K0:Wh->Option Wh):Nat->Int->Wh->Option Wh
 |0,_,_=>none
 |k+1,i3,out4=>
 if decide (i3<(Jr a2:Int))=true then
 if(0:Int)<=i3/\i3<(Jr a2:Int)then
 (kq.F n (Jv a2 (Jt i3) ([],((0,(Jq,[])),[])))).bind λr5=>
 if(0:Int)<=i3/\i3<(Jr out4:Int)then
 l0 n a2 K0 k (Ju.wrap (i3+1)) (KO out4 (Jt i3) r5)
 else
 none
 else
 none
 else
 K0 out4
def F (n:Nat)(a1:Wh):Option Wh:=
 if(0:Int)<=(Jr a1:Int)/\(Jr a1:Int)<=(Jr a1:Int)/\(Jr a1:Int)<=(aT:Int)then
 l0 n a1 (λout6=>
 some out6) n 0 (Kq (Jt (Jr a1:Int)) ([],((0,(Jq,[])),[])))
 else
 none
def code:=Tryz.f69.body.getD .skip
abbrev ash:List ASh:=[.ro Qe]
abbrev rsh:List RSh:=[.own Qe QH]
def b0:=JA (JA (Jy (JA (Jy (Jy code)))))
abbrev sh0:ES:=⟨[(0,.v Qe),(3,.al 3 []),(4,.v QA)],[⟨3,.sl Qf,.own QJ,false,false,none⟩]⟩
abbrev sh0_0:ES:=⟨[(3,.al 3 [])],[⟨3,.sl Qf,.own QJ,false,false,none⟩]⟩
def g0:GL rsh sh0:=λn m x kn kx=>l0 n x.1.1 (λy0=>kx 0 (sh0_0.enc (((()),()),(y0,())))) m x.1.2.2.1 x.2.1
def B:Bd:=⟨ash,rsh,[kq.E],⟨code,23,.nil,[(.tmp 2,.sl Qf,.own QJ)]⟩,[⟨0,sh0,g0⟩]⟩
theorem u0:UO B 0 (.loop b0):=
 lu (.seq Vi (.seq (.block (some [0,3,4]) (.reg [(20,.pr QQ QN)])) .nil)) [(0,[3])] [0,3,4] sh0 g0 mn
def E:En:=⟨69,λn=>⟨B.a,B.r,λv=>F n v.1⟩,cD B (.seq .nil (.seq (.reg [(7,.own QJ)]) (.seq (.seq .nil (.block (some [3]) (.cut 0 [0,3,4]))) Vm))) Tryz.func69 (mc u0 mn)⟩
end fR
open Go.Proofs
namespace gI
def F (n:Nat)(a1:Wb):Option Wb:=
 (dQ.F n a1.1).bind λr2=>
 (ef.F n a1.2.1).bind λr3=>
 (fR.F n a1.2.2).bind λr4=>
 some (r2,(r3,r4))
def code:=Tryz.f18.body.getD .skip
abbrev ash:List ASh:=[.ro Qc]
abbrev rsh:List RSh:=[.own Qc QD]
def B:Bd:=⟨ash,rsh,[dQ.E,ef.E,fR.E],⟨code,17,.nil,[(.cell 2 53,.st Qd,.pr QP QE)]⟩,[]⟩
def E:En:=⟨18,λn=>⟨B.a,B.r,λv=>F n v.1⟩,cD B (.seq (.reg [(2,.pr QP QE)]) (.seq (.reg [(3,.pr QZ QW)]) (.seq (.reg [(6,.own QR)]) (.seq (.reg [(10,.own QU)]) (.seq (.reg [(14,.own QJ)]) Vm))))) Tryz.func18 mn⟩
end gI
namespace fV
def j1 (n:Nat)(list5:WL)(s6:ByteArray)(i7:Int)(Kn:ByteArray->Int->Option ByteArray):Option ByteArray:=
 if decide (i7>0)=true then
 if Js s6+Js ⟨#[44,32]⟩<=aT then
 if(0:Int)<=i7/\i7<(Jr list5:Int)then
 if Js (s6++⟨#[44,32]⟩)+Js (Jv list5 (Jt i7) Jq)<=aT then
 Kn ((s6++⟨#[44,32]⟩)++(Jv list5 (Jt i7) Jq)) (Ju.wrap (i7+1))
 else
 none
 else
 none
 else
 none
 else
 if(0:Int)<=i7/\i7<(Jr list5:Int)then
 if Js s6+Js (Jv list5 (Jt i7) Jq)<=aT then
 Kn (s6++(Jv list5 (Jt i7) Jq)) (Ju.wrap (i7+1))
 else
 none
 else
 none
def l0 (n:Nat)(list2:WL)(K0:ByteArray->Option ByteArray):Nat->ByteArray->Int->Option ByteArray
 |0,_,_=>none
 |k+1,s3,i4=>
 if(decide (i4<(Jr list2:Int)))=true then
 if decide ((Js s3:Int)<=3000)=true then
 j1 n list2 s3 i4 (λs8 i9=>
 l0 n list2 K0 k s8 i9)
 else
 K0 s3
 else
 K0 s3
def F (n:Nat)(list1:WL):Option ByteArray:=
 l0 n list1 (λs10=>
 some s10) n Jq 0
def code:=Tryz.f202.body.getD .skip
abbrev ash:List ASh:=[.ro Qz]
abbrev rsh:List RSh:=[.ro .str]
def b0:=JA (JA (Jy (JA (Jy (Jy code)))))
def c1:=Jy b0
abbrev sh1:ES:=⟨[(0,.v Qz),(3,.v .str),(4,.v QA)],[]⟩
abbrev sh0_0:ES:=⟨[(3,.v .str)],[]⟩
def g1:GL rsh sh1:=λn m x kn kx=>j1 n x.1.1 x.1.2.1 x.1.2.2.1 (λy0 y1=>kn (sh1.enc ((x.1.1,y0,y1,()),(()))))
def g0:GL rsh sh1:=λn m x kn kx=>l0 n x.1.1 (λy0=>kx 0 (sh0_0.enc ((y0,()),(())))) m x.1.2.1 x.1.2.2.1
def B:Bd:=⟨ash,rsh,[],⟨code,27,.nil,[(.tmp 2,.str,.ro)]⟩,[⟨1,sh1,g1⟩,⟨0,sh1,g0⟩]⟩
theorem u1:UO B 1 c1:=
 ju (.seq (.block (some [0,3,4]) Vg) .nil) [(0,[3])] [0,3,4] sh1 g1 mn
theorem u0:UO B 0 (.loop b0):=
 lu (.seq Vi (.cut 1 [0,3,4])) [(0,[3])] [0,3,4] sh1 g0 (mc u1 mn)
def E:En:=⟨202,λn=>⟨B.a,B.r,λv=>F n v.1⟩,cD B (.seq .nil (.seq .nil (.seq (.seq .nil (.block (some [3]) (.cut 0 [0,3,4]))) Vm))) Tryz.func202 (mc u0 mn)⟩
end fV
namespace bC
def j4 (n:Nat)(t16:ByteArray)(t17:Int)(t18:Int)(t19:Wb)(t20:WH)(Kn:ByteArray->Option ByteArray):Option ByteArray:=
 if Js t16+Js t20.1<=aT then
 if decide ((Jr t20.2:Int)>0)=true then
 if Js (t16++t20.1)+Js ⟨#[40]⟩<=aT then
 (fV.F n t20.2).bind λr21=>
 if Js ((t16++t20.1)++⟨#[40]⟩)+Js r21<=aT then
 if Js (((t16++t20.1)++⟨#[40]⟩)++r21)+Js ⟨#[41]⟩<=aT then
 Kn ((((t16++t20.1)++⟨#[40]⟩)++r21)++⟨#[41]⟩)
 else
 none
 else
 none
 else
 none
 else
 Kn (t16++t20.1)
 else
 none
def j3 (n:Nat)(t12:ByteArray)(t13:Int)(t14:Int)(t15:Wb)(Kn:ByteArray->Int->Option ByteArray):Option ByteArray:=
 if(0:Int)<=t13/\t13<(Jr t15.1:Int)then
 if(0:Int)<=t14/\t14<(Jr ((Jv t15.1 (Jt t13) (Jq,[])).2):Int)then
 if decide (t14>0)=true then
 if Js t12+Js ⟨#[32,124,32]⟩<=aT then
 j4 n (t12++⟨#[32,124,32]⟩) t13 t14 t15 (Jv ((Jv t15.1 (Jt t13) (Jq,[])).2) (Jt t14) (Jq,[])) (λt22=>
 Kn t22 (Ju.wrap (t14+1)))
 else
 none
 else
 j4 n t12 t13 t14 t15 (Jv ((Jv t15.1 (Jt t13) (Jq,[])).2) (Jt t14) (Jq,[])) (λt23=>
 Kn t23 (Ju.wrap (t14+1)))
 else
 none
 else
 none
def l2 (n:Nat)(t9:Int)(t11:Wb)(K2:ByteArray->Option ByteArray):Nat->ByteArray->Int->Option ByteArray
 |0,_,_=>none
 |k+1,t8,t10=>
 if(0:Int)<=t9/\t9<(Jr t11.1:Int)then
 if(decide (t10<(Jr ((Jv t11.1 (Jt t9) (Jq,[])).2):Int)))=true then
 if decide ((Js t8:Int)<=3000)=true then
 j3 n t8 t9 t10 t11 (λt24 t25=>
 l2 n t9 t11 K2 k t24 t25)
 else
 K2 t8
 else
 K2 t8
 else
 none
def j1 (n:Nat)(t5:ByteArray)(t6:Int)(t7:Wb)(Kn:ByteArray->Int->Option ByteArray):Option ByteArray:=
 if Js t5+Js ⟨#[116,121,112,101,32]⟩<=aT then
 if(0:Int)<=t6/\t6<(Jr t7.1:Int)then
 if Js (t5++⟨#[116,121,112,101,32]⟩)+Js ((Jv t7.1 (Jt t6) (Jq,[])).1)<=aT then
 if Js ((t5++⟨#[116,121,112,101,32]⟩)++((Jv t7.1 (Jt t6) (Jq,[])).1))+Js ⟨#[32,61,32]⟩<=aT then
 l2 n t6 t7 (λt26=>
 if Js t26+Js ⟨#[46,10]⟩<=aT then
 Kn (t26++⟨#[46,10]⟩) (Ju.wrap (t6+1))
 else
 none) n (((t5++⟨#[116,121,112,101,32]⟩)++((Jv t7.1 (Jt t6) (Jq,[])).1))++⟨#[32,61,32]⟩) 0
 else
 none
 else
 none
 else
 none
 else
 none
def l0 (n:Nat)(t4:Wb)(K0:ByteArray->Option ByteArray):Nat->ByteArray->Int->Option ByteArray
 |0,_,_=>none
 |k+1,t2,t3=>
 if(decide (t3<(Jr t4.1:Int)))=true then
 if decide ((Js t2:Int)<=3000)=true then
 j1 n t2 t3 t4 (λt27 t28=>
 l0 n t4 K0 k t27 t28)
 else
 K0 t2
 else
 K0 t2
def j6 (n:Nat)(t33:ByteArray)(t34:Int)(t35:Wb)(Kn:ByteArray->Int->Option ByteArray):Option ByteArray:=
 if(0:Int)<=t34/\t34<(Jr t35.2.1:Int)then
 (bj.F n (((Jv t35.2.1 (Jt t34) (Jq,([],0))).2).2) 0 3).bind λr36=>
 if(!r36)=true then
 some Jq
 else
 if Js t33+Js ⟨#[114,101,108,32]⟩<=aT then
 if(0:Int)<=t34/\t34<(Jr t35.2.1:Int)then
 if Js (t33++⟨#[114,101,108,32]⟩)+Js ((Jv t35.2.1 (Jt t34) (Jq,([],0))).1)<=aT then
 if Js ((t33++⟨#[114,101,108,32]⟩)++((Jv t35.2.1 (Jt t34) (Jq,([],0))).1))+Js ⟨#[40]⟩<=aT then
 if(0:Int)<=t34/\t34<(Jr t35.2.1:Int)then
 (fV.F n (((Jv t35.2.1 (Jt t34) (Jq,([],0))).2).1)).bind λr37=>
 if Js (((t33++⟨#[114,101,108,32]⟩)++((Jv t35.2.1 (Jt t34) (Jq,([],0))).1))++⟨#[40]⟩)+Js r37<=aT then
 if Js ((((t33++⟨#[114,101,108,32]⟩)++((Jv t35.2.1 (Jt t34) (Jq,([],0))).1))++⟨#[40]⟩)++r37)+Js ⟨#[41]⟩<=aT then
 if(0:Int)<=t34/\t34<(Jr t35.2.1:Int)then
 if(0:Int)<=(((Jv t35.2.1 (Jt t34) (Jq,([],0))).2).2)/\(((Jv t35.2.1 (Jt t34) (Jq,([],0))).2).2)<(Jr ([Jq,⟨#[32,105,110,112,117,116]⟩,⟨#[32,111,117,116,112,117,116]⟩,⟨#[32,105,110,108,105,110,101]⟩]:WL):Int)then
 if Js (((((t33++⟨#[114,101,108,32]⟩)++((Jv t35.2.1 (Jt t34) (Jq,([],0))).1))++⟨#[40]⟩)++r37)++⟨#[41]⟩)+Js (Jv ([Jq,⟨#[32,105,110,112,117,116]⟩,⟨#[32,111,117,116,112,117,116]⟩,⟨#[32,105,110,108,105,110,101]⟩]:WL) (Jt (((Jv t35.2.1 (Jt t34) (Jq,([],0))).2).2)) Jq)<=aT then
 if Js ((((((t33++⟨#[114,101,108,32]⟩)++((Jv t35.2.1 (Jt t34) (Jq,([],0))).1))++⟨#[40]⟩)++r37)++⟨#[41]⟩)++(Jv ([Jq,⟨#[32,105,110,112,117,116]⟩,⟨#[32,111,117,116,112,117,116]⟩,⟨#[32,105,110,108,105,110,101]⟩]:WL) (Jt (((Jv t35.2.1 (Jt t34) (Jq,([],0))).2).2)) Jq))+Js ⟨#[46,10]⟩<=aT then
 Kn (((((((t33++⟨#[114,101,108,32]⟩)++((Jv t35.2.1 (Jt t34) (Jq,([],0))).1))++⟨#[40]⟩)++r37)++⟨#[41]⟩)++(Jv ([Jq,⟨#[32,105,110,112,117,116]⟩,⟨#[32,111,117,116,112,117,116]⟩,⟨#[32,105,110,108,105,110,101]⟩]:WL) (Jt (((Jv t35.2.1 (Jt t34) (Jq,([],0))).2).2)) Jq))++⟨#[46,10]⟩) (Ju.wrap (t34+1))
 else
 none
 else
 none
 else
 none
 else
 none
 else
 none
 else
 none
 else
 none
 else
 none
 else
 none
 else
 none
 else
 none
 else
 none
def l5 (n:Nat)(t32:Wb)(K4:ByteArray->Option ByteArray):Nat->ByteArray->Int->Option ByteArray
 |0,_,_=>none
 |k+1,t30,t31=>
 if(decide (t31<(Jr t32.2.1:Int)))=true then
 if decide ((Js t30:Int)<=3000)=true then
 j6 n t30 t31 t32 (λt38 t39=>
 l5 n t32 K4 k t38 t39)
 else
 K4 t30
 else
 K4 t30
def j8 (n:Nat)(t44:ByteArray)(t45:Int)(t46:Wb)(Kn:ByteArray->Int->Option ByteArray):Option ByteArray:=
 if(0:Int)<=t45/\t45<(Jr t46.2.2:Int)then
 (bN.F n (Jv t46.2.2 (Jt t45) ([],((0,(Jq,[])),[])))).bind λr47=>
 if(Km r47 Jq)=true then
 some Jq
 else
 if Js t44+Js r47<=aT then
 if Js (t44++r47)+Js ⟨#[10]⟩<=aT then
 Kn ((t44++r47)++⟨#[10]⟩) (Ju.wrap (t45+1))
 else
 none
 else
 none
 else
 none
def l7 (n:Nat)(t43:Wb)(K6:ByteArray->Option ByteArray):Nat->ByteArray->Int->Option ByteArray
 |0,_,_=>none
 |k+1,t41,t42=>
 if(decide (t42<(Jr t43.2.2:Int)))=true then
 if decide ((Js t41:Int)<=3000)=true then
 j8 n t41 t42 t43 (λt48 t49=>
 l7 n t43 K6 k t48 t49)
 else
 K6 t41
 else
 K6 t41
def F (n:Nat)(t1:Wb):Option ByteArray:=
 l0 n t1 (λt29=>
 l5 n t1 (λt40=>
 l7 n t1 (λt50=>
 if decide ((Js t50:Int)>3000)=true then
 some Jq
 else
 some t50) n t40 0) n t29 0) n Jq 0
def code:=Tryz.f141.body.getD .skip
abbrev ash:List ASh:=[.ro Qc]
abbrev rsh:List RSh:=[.ro .str]
def b0:=JA (JA (Jy (JA (Jy (Jy code)))))
def b5:=JA (JA (Jy (JA (Jy (Jy (Jy code))))))
def c1:=Jy b0
def b7:=JA (JA (Jy (JA (Jy (Jy (Jy (Jy code)))))))
def c6:=Jy b5
def c8:=Jy b7
def b2:=JA (JA (Jy (JA (Jy (JA (JA c1))))))
def c3:=Jy b2
def c4:=Jy (Jy (JA (JA c3)))
abbrev sh4:ES:=⟨[(1,.pt 1 []),(3,.v .str),(4,.v QA),(5,.v QA),(6,.pt 6 [])],[⟨1,.st Qd,.ro,true,false,none⟩,⟨6,.st Qx,.ro,true,false,none⟩]⟩
abbrev sh4_n:ES:=⟨[(1,.pt 1 []),(3,.v .str),(4,.v QA),(5,.v QA)],[⟨1,.st Qd,.ro,true,false,none⟩]⟩
abbrev sh2_2:ES:=⟨[(1,.pt 1 []),(3,.v .str),(4,.v QA)],[⟨1,.st Qd,.ro,true,false,none⟩]⟩
abbrev sh0_0:ES:=⟨[(1,.pt 1 []),(3,.v .str)],[⟨1,.st Qd,.ro,true,false,none⟩]⟩
abbrev sh6:ES:=⟨[(1,.pt 1 []),(3,.v .str),(7,.v QA)],[⟨1,.st Qd,.ro,true,false,none⟩]⟩
abbrev sh8:ES:=⟨[(1,.pt 1 []),(3,.v .str),(8,.v QA)],[⟨1,.st Qd,.ro,true,false,none⟩]⟩
abbrev sh7_6:ES:=⟨[(3,.v .str)],[]⟩
def g4:GL rsh sh4:=λn m x kn kx=>j4 n x.1.2.1 x.1.2.2.1 x.1.2.2.2.1 x.2.1 x.2.2.1 (λy0=>kn (sh4_n.enc (((()),y0,x.1.2.2.1,x.1.2.2.2.1,()),(x.2.1,()))))
def g3:GL rsh sh4_n:=λn m x kn kx=>j3 n x.1.2.1 x.1.2.2.1 x.1.2.2.2.1 x.2.1 (λy0 y1=>kn (sh4_n.enc (((()),y0,x.1.2.2.1,y1,()),(x.2.1,()))))
def g2:GL rsh sh4_n:=λn m x kn kx=>l2 n x.1.2.2.1 x.2.1 (λy0=>kx 2 (sh2_2.enc (((()),y0,x.1.2.2.1,()),(x.2.1,())))) m x.1.2.1 x.1.2.2.2.1
def g1:GL rsh sh2_2:=λn m x kn kx=>j1 n x.1.2.1 x.1.2.2.1 x.2.1 (λy0 y1=>kn (sh2_2.enc (((()),y0,y1,()),(x.2.1,()))))
def g0:GL rsh sh2_2:=λn m x kn kx=>l0 n x.2.1 (λy0=>kx 0 (sh0_0.enc (((()),y0,()),(x.2.1,())))) m x.1.2.1 x.1.2.2.1
def g6:GL rsh sh6:=λn m x kn kx=>j6 n x.1.2.1 x.1.2.2.1 x.2.1 (λy0 y1=>kn (sh6.enc (((()),y0,y1,()),(x.2.1,()))))
def g5:GL rsh sh6:=λn m x kn kx=>l5 n x.2.1 (λy0=>kx 4 (sh0_0.enc (((()),y0,()),(x.2.1,())))) m x.1.2.1 x.1.2.2.1
def g8:GL rsh sh8:=λn m x kn kx=>j8 n x.1.2.1 x.1.2.2.1 x.2.1 (λy0 y1=>kn (sh8.enc (((()),y0,y1,()),(x.2.1,()))))
def g7:GL rsh sh8:=λn m x kn kx=>l7 n x.2.1 (λy0=>kx 6 (sh7_6.enc ((y0,()),(())))) m x.1.2.1 x.1.2.2.1
def B:Bd:=⟨ash,rsh,[bN.E,bj.E,fV.E],⟨code,156,.nil,[(.tmp 2,.str,.ro)]⟩,[⟨4,sh4,g4⟩,⟨3,sh4_n,g3⟩,⟨2,sh4_n,g2⟩,⟨1,sh2_2,g1⟩,⟨0,sh2_2,g0⟩,⟨6,sh6,g6⟩,⟨5,sh6,g5⟩,⟨8,sh8,g8⟩,⟨7,sh8,g7⟩]⟩
theorem u4:UO B 4 c4:=
 ju Ve [(0,[1,3]),(1,[1,3,4]),(2,[1,3,4]),(3,[1,3,4,5])] [1,3,4,5] sh4 g4 mn
theorem u3:UO B 3 c3:=
 ju (.seq (.block (some [1,3,4,5]) (.seq .nil (.seq Vi (.cut 4 [1,3,4,5,6])))) .nil) [(0,[1,3]),(1,[1,3,4]),(2,[1,3,4])] [1,3,4,5] sh4_n g3 (mc u4 mn)
theorem u2:UO B 2 (.loop b2):=
 lu (.seq Vi (.cut 3 [1,3,4,5])) [(0,[1,3]),(1,[1,3,4]),(2,[1,3,4])] [1,3,4,5] sh4_n g2 (mc u3 mn)
theorem u1:UO B 1 c1:=
 ju (.seq (.block (some [1,3,4]) (.seq .nil (.seq (.seq .nil (.block (some [1,3,4]) (.cut 2 [1,3,4,5]))) .nil))) .nil) [(0,[1,3])] [1,3,4] sh2_2 g1 (mc u2 mn)
theorem u0:UO B 0 (.loop b0):=
 lu (.seq Vi (.cut 1 [1,3,4])) [(0,[1,3])] [1,3,4] sh2_2 g0 (mc u1 mn)
theorem u6:UO B 6 c6:=
 ju (.seq (.block (some [1,3,7]) Vb) .nil) [(4,[1,3])] [1,3,7] sh6 g6 mn
theorem u5:UO B 5 (.loop b5):=
 lu (.seq Vi (.cut 6 [1,3,7])) [(4,[1,3])] [1,3,7] sh6 g5 (mc u6 mn)
theorem u8:UO B 8 c8:=
 ju (.seq (.block (some [1,3,8]) W3) .nil) [(6,[3])] [1,3,8] sh8 g8 mn
theorem u7:UO B 7 (.loop b7):=
 lu (.seq Vi (.cut 8 [1,3,8])) [(6,[3])] [1,3,8] sh8 g7 (mc u8 mn)
def E:En:=⟨141,λn=>⟨B.a,B.r,λv=>F n v.1⟩,cD B (.seq .nil (.seq .nil (.seq (.seq .nil (.block (some [1,3]) (.cut 0 [1,3,4]))) (.seq (.seq .nil (.block (some [1,3]) (.cut 5 [1,3,7]))) (.seq (.seq .nil (.block (some [3]) (.cut 7 [1,3,8]))) W4))))) Tryz.func141 (mc u0 (mc u5 (mc u7 mn)))⟩
end bC
namespace fW
def l0 (n:Nat)(a4:WL)(b5:WL)(K0:Unit->Option Bool):Nat->Int->Option Bool
 |0,_=>none
 |k+1,i3=>
 if decide (i3<(Jr a4:Int))=true then
 if(0:Int)<=i3/\i3<(Jr a4:Int)then
 if(0:Int)<=i3/\i3<(Jr b5:Int)then
 if(!(Km (Jv a4 (Jt i3) Jq) (Jv b5 (Jt i3) Jq)))=true then
 some false
 else
 l0 n a4 b5 K0 k (Ju.wrap (i3+1))
 else
 none
 else
 none
 else
 K0 ()
def F (n:Nat)(a1:WL)(b2:WL):Option Bool:=
 if(!decide ((Jr a1:Int)=(Jr b2:Int)))=true then
 some false
 else
 l0 n a1 b2 (λ_=>
 some true) n 0
def code:=Tryz.f255.body.getD .skip
abbrev ash:List ASh:=[.ro (.st Qz),.ro (.st Qz)]
abbrev rsh:List RSh:=[.ro .bool]
def b0:=JA (JA (Jy (JA (Jy (Jy code)))))
abbrev sh0:ES:=⟨[(2,.pt 2 []),(3,.pt 3 []),(5,.v QA)],[⟨2,.st Qz,.ro,true,false,none⟩,⟨3,.st Qz,.ro,true,false,none⟩]⟩
abbrev sh0_0:ES:=⟨[],[]⟩
def g0:GL rsh sh0:=λn m x kn kx=>l0 n x.2.1 x.2.2.1 (λ_=>kx 0 (sh0_0.enc ((()),(())))) m x.1.2.2.1
def B:Bd:=⟨ash,rsh,[],⟨code,31,.nil,[(.tmp 4,.bool,.ro)]⟩,[⟨0,sh0,g0⟩]⟩
theorem u0:UO B 0 (.loop b0):=
 lu (.seq Vi (.seq (.block (some [2,3,5]) Vf) .nil)) [(0,[])] [2,3,5] sh0 g0 mn
def E:En:=⟨255,λn=>⟨B.a,B.r,λv=>F n v.1 v.2.1⟩,cD B (.seq .nil (.seq Vf (.seq (.seq .nil (.block (some []) (.cut 0 [2,3,5]))) Vm))) Tryz.func255 (mc u0 mn)⟩
end fW
namespace im
def F (n:Nat)(a1:WL)(b2:WL):Option Bool:=
 (fW.F n a1 b2).bind λr3=>
 some r3
def code:=Tryz.f203.body.getD .skip
abbrev ash:List ASh:=[.ro Qz,.ro Qz]
abbrev rsh:List RSh:=[.ro .bool]
def B:Bd:=⟨ash,rsh,[fW.E],⟨code,10,.nil,[(.tmp 4,.bool,.ro)]⟩,[]⟩
def E:En:=⟨203,λn=>⟨B.a,B.r,λv=>F n v.1 v.2.1⟩,cD B Vk Tryz.func203 mn⟩
end im
namespace eD
def l0 (n:Nat)(a3:WN)(b4:WN)(K0:Unit->Option Bool):Nat->Int->Option Bool
 |0,_=>none
 |k+1,i5=>
 if decide (i5<(Jr a3:Int))=true then
 if(0:Int)<=i5/\i5<(Jr a3:Int)then
 if(0:Int)<=i5/\i5<(Jr b4:Int)then
 if(!decide ((Jv a3 (Jt i5) 0)=(Jv b4 (Jt i5) 0)))=true then
 some false
 else
 l0 n a3 b4 K0 k (Ju.wrap (i5+1))
 else
 none
 else
 none
 else
 K0 ()
def F (n:Nat)(a1:WN)(b2:WN):Option Bool:=
 if(!decide ((Jr a1:Int)=(Jr b2:Int)))=true then
 some false
 else
 l0 n a1 b2 (λ_=>
 some true) n 0
def code:=Tryz.f220.body.getD .skip
abbrev ash:List ASh:=[.ro Qy,.ro Qy]
abbrev rsh:List RSh:=[.ro .bool]
def b0:=JA (JA (Jy (JA (Jy (Jy code)))))
abbrev sh0:ES:=⟨[(0,.v Qy),(1,.v Qy),(5,.v QA)],[]⟩
abbrev sh0_0:ES:=⟨[],[]⟩
def g0:GL rsh sh0:=λn m x kn kx=>l0 n x.1.1 x.1.2.1 (λ_=>kx 0 (sh0_0.enc ((()),(())))) m x.1.2.2.1
def B:Bd:=⟨ash,rsh,[],⟨code,26,.nil,[(.tmp 4,.bool,.ro)]⟩,[⟨0,sh0,g0⟩]⟩
theorem u0:UO B 0 (.loop b0):=
 lu (.seq Vi (.seq (.block (some [0,1,5]) Vf) .nil)) [(0,[])] [0,1,5] sh0 g0 mn
def E:En:=⟨220,λn=>⟨B.a,B.r,λv=>F n v.1 v.2.1⟩,cD B (.seq .nil (.seq Vf (.seq (.seq .nil (.block (some []) (.cut 0 [0,1,5]))) Vm))) Tryz.func220 (mc u0 mn)⟩
end eD
namespace fI
def F (n:Nat)(a1:WG)(b2:WG):Option Bool:=
 if(decide (a1.1=b2.1))=true then
 if(Km a1.2.1 b2.2.1)=true then
 (eD.F n a1.2.2 b2.2.2).bind λr3=>
 some r3
 else
 some false
 else
 some false
def code:=Tryz.f219.body.getD .skip
abbrev ash:List ASh:=[.ro Qn,.ro Qn]
abbrev rsh:List RSh:=[.ro .bool]
def B:Bd:=⟨ash,rsh,[eD.E],⟨code,24,.nil,[(.tmp 4,.bool,.ro)]⟩,[]⟩
def E:En:=⟨219,λn=>⟨B.a,B.r,λv=>F n v.1 v.2.1⟩,cD B Vk Tryz.func219 mn⟩
end fI
namespace ca
def l1 (n:Nat)(t7:Wk)(t8:Wk)(K0:Unit->Option Bool):Nat->Int->Option Bool
 |0,_=>none
 |k+1,t6=>
 if decide (t6<(Jr t7.1:Int))=true then
 if(0:Int)<=t6/\t6<(Jr t7.1:Int)then
 if(0:Int)<=t6/\t6<(Jr t8.1:Int)then
 if(!decide (((Jv t7.1 (Jt t6) (0,(Jq,[]))).1)=((Jv t8.1 (Jt t6) (0,(Jq,[]))).1)))=false then
 if(0:Int)<=t6/\t6<(Jr t7.1:Int)then
 if(0:Int)<=t6/\t6<(Jr t8.1:Int)then
 if(!(Km (((Jv t7.1 (Jt t6) (0,(Jq,[]))).2).1) (((Jv t8.1 (Jt t6) (0,(Jq,[]))).2).1)))=false then
 if(0:Int)<=t6/\t6<(Jr t7.1:Int)then
 if(0:Int)<=t6/\t6<(Jr t8.1:Int)then
 (eD.F n (((Jv t7.1 (Jt t6) (0,(Jq,[]))).2).2) (((Jv t8.1 (Jt t6) (0,(Jq,[]))).2).2)).bind λr9=>
 if(!r9)=true then
 some false
 else
 l1 n t7 t8 K0 k (Ju.wrap (t6+1))
 else
 none
 else
 none
 else
 some false
 else
 none
 else
 none
 else
 some false
 else
 none
 else
 none
 else
 K0 ()
def l2 (n:Nat)(t11:Wk)(t12:Wk)(K2:Unit->Option Bool):Nat->Int->Option Bool
 |0,_=>none
 |k+1,t10=>
 if decide (t10<(Jr t11.2.2:Int))=true then
 if(0:Int)<=t10/\t10<(Jr t11.2.2:Int)then
 if(0:Int)<=t10/\t10<(Jr t12.2.2:Int)then
 (fI.F n (Jv t11.2.2 (Jt t10) (0,(Jq,[]))) (Jv t12.2.2 (Jt t10) (0,(Jq,[])))).bind λr13=>
 if(!r13)=true then
 some false
 else
 l2 n t11 t12 K2 k (Ju.wrap (t10+1))
 else
 none
 else
 none
 else
 K2 ()
def j0 (n:Nat)(t4:Wk)(t5:Wk):Option Bool:=
 l1 n t4 t5 (λ_=>
 l2 n t4 t5 (λ_=>
 some true) n 0) n 0
def F (n:Nat)(t1:Wk)(t2:Wk):Option Bool:=
 if(!decide ((Jr t1.1:Int)=(Jr t2.1:Int)))=false then
 if(!decide ((Jr t1.2.2:Int)=(Jr t2.2.2:Int)))=false then
 (fI.F n t1.2.1 t2.2.1).bind λr3=>
 if(!r3)=true then
 some false
 else
 j0 n t1 t2
 else
 some false
 else
 some false
def code:=Tryz.f159.body.getD .skip
abbrev ash:List ASh:=[.ro Qf,.ro Qf]
abbrev rsh:List RSh:=[.ro .bool]
def c0:=Jy (Jy code)
def b1:=JA (JA (Jy (JA c0)))
def b2:=JA (JA (Jy (JA (Jy c0))))
abbrev sh1:ES:=⟨[(2,.pt 2 []),(3,.pt 3 []),(5,.v QA)],[⟨2,.st Qg,.ro,true,false,none⟩,⟨3,.st Qg,.ro,true,false,none⟩]⟩
abbrev sh1_0:ES:=⟨[(2,.pt 2 []),(3,.pt 3 [])],[⟨2,.st Qg,.ro,true,false,none⟩,⟨3,.st Qg,.ro,true,false,none⟩]⟩
abbrev sh2:ES:=⟨[(2,.pt 2 []),(3,.pt 3 []),(6,.v QA)],[⟨2,.st Qg,.ro,true,false,none⟩,⟨3,.st Qg,.ro,true,false,none⟩]⟩
abbrev sh2_2:ES:=⟨[],[]⟩
def g1:GL rsh sh1:=λn m x kn kx=>l1 n x.2.1 x.2.2.1 (λ_=>kx 0 (sh1_0.enc (((()),(()),()),(x.2.1,x.2.2.1,())))) m x.1.2.2.1
def g2:GL rsh sh2:=λn m x kn kx=>l2 n x.2.1 x.2.2.1 (λ_=>kx 2 (sh2_2.enc ((()),(())))) m x.1.2.2.1
def g0:GL rsh sh1_0:=λn m x kn kx=>j0 n x.2.1 x.2.2.1
def B:Bd:=⟨ash,rsh,[fI.E,eD.E],⟨code,101,.nil,[(.tmp 4,.bool,.ro)]⟩,[⟨1,sh1,g1⟩,⟨2,sh2,g2⟩,⟨0,sh1_0,g0⟩]⟩
theorem u1:UO B 1 (.loop b1):=
 lu (.seq Vi (.seq (.block (some [2,3,5]) Vf) .nil)) [(0,[2,3])] [2,3,5] sh1 g1 mn
theorem u2:UO B 2 (.loop b2):=
 lu (.seq Vi (.seq (.block (some [2,3,6]) Vf) .nil)) [(2,[])] [2,3,6] sh2 g2 mn
theorem u0:UO B 0 c0:=
 ju (.seq (.seq .nil (.block (some [2,3]) (.cut 1 [2,3,5]))) (.seq (.seq .nil (.block (some []) (.cut 2 [2,3,6]))) Vm)) [] [4] sh1_0 g0 (mc u1 (mc u2 mn))
def E:En:=⟨159,λn=>⟨B.a,B.r,λv=>F n v.1 v.2.1⟩,cD B (.seq .nil (.seq Vf (.cut 0 [2,3]))) Tryz.func159 (mc u0 mn)⟩
end ca
namespace cf
def l3 (n:Nat)(t11:Int)(t13:Wb)(t14:Wb)(K2:Unit->Option Bool):Nat->Int->Option Bool
 |0,_=>none
 |k+1,t12=>
 if(0:Int)<=t11/\t11<(Jr t13.1:Int)then
 if decide (t12<(Jr ((Jv t13.1 (Jt t11) (Jq,[])).2):Int))=true then
 if(0:Int)<=t11/\t11<(Jr t13.1:Int)then
 if(0:Int)<=t12/\t12<(Jr ((Jv t13.1 (Jt t11) (Jq,[])).2):Int)then
 if(0:Int)<=t11/\t11<(Jr t14.1:Int)then
 if(0:Int)<=t12/\t12<(Jr ((Jv t14.1 (Jt t11) (Jq,[])).2):Int)then
 if(!(Km ((Jv ((Jv t13.1 (Jt t11) (Jq,[])).2) (Jt t12) (Jq,[])).1) ((Jv ((Jv t14.1 (Jt t11) (Jq,[])).2) (Jt t12) (Jq,[])).1)))=false then
 if(0:Int)<=t11/\t11<(Jr t13.1:Int)then
 if(0:Int)<=t12/\t12<(Jr ((Jv t13.1 (Jt t11) (Jq,[])).2):Int)then
 if(0:Int)<=t11/\t11<(Jr t14.1:Int)then
 if(0:Int)<=t12/\t12<(Jr ((Jv t14.1 (Jt t11) (Jq,[])).2):Int)then
 (im.F n ((Jv ((Jv t13.1 (Jt t11) (Jq,[])).2) (Jt t12) (Jq,[])).2) ((Jv ((Jv t14.1 (Jt t11) (Jq,[])).2) (Jt t12) (Jq,[])).2)).bind λr15=>
 if(!r15)=true then
 some false
 else
 l3 n t11 t13 t14 K2 k (Ju.wrap (t12+1))
 else
 none
 else
 none
 else
 none
 else
 none
 else
 some false
 else
 none
 else
 none
 else
 none
 else
 none
 else
 K2 ()
 else
 none
def j2 (n:Nat)(t8:Int)(t9:Wb)(t10:Wb)(Kn:Unit->Option Bool):Option Bool:=
 l3 n t8 t9 t10 (λ_=>
 Kn ()) n 0
def l1 (n:Nat)(t6:Wb)(t7:Wb)(K0:Unit->Option Bool):Nat->Int->Option Bool
 |0,_=>none
 |k+1,t5=>
 if decide (t5<(Jr t6.1:Int))=true then
 if(0:Int)<=t5/\t5<(Jr t6.1:Int)then
 if(0:Int)<=t5/\t5<(Jr t7.1:Int)then
 if(!(Km ((Jv t6.1 (Jt t5) (Jq,[])).1) ((Jv t7.1 (Jt t5) (Jq,[])).1)))=false then
 if(0:Int)<=t5/\t5<(Jr t6.1:Int)then
 if(0:Int)<=t5/\t5<(Jr t7.1:Int)then
 if(!decide ((Jr ((Jv t6.1 (Jt t5) (Jq,[])).2):Int)=(Jr ((Jv t7.1 (Jt t5) (Jq,[])).2):Int)))=true then
 some false
 else
 j2 n t5 t6 t7 (λ_=>
 l1 n t6 t7 K0 k (Ju.wrap (t5+1)))
 else
 none
 else
 none
 else
 some false
 else
 none
 else
 none
 else
 K0 ()
def l4 (n:Nat)(t17:Wb)(t18:Wb)(K4:Unit->Option Bool):Nat->Int->Option Bool
 |0,_=>none
 |k+1,t16=>
 if decide (t16<(Jr t17.2.1:Int))=true then
 if(0:Int)<=t16/\t16<(Jr t17.2.1:Int)then
 if(0:Int)<=t16/\t16<(Jr t18.2.1:Int)then
 if(!(Km ((Jv t17.2.1 (Jt t16) (Jq,([],0))).1) ((Jv t18.2.1 (Jt t16) (Jq,([],0))).1)))=false then
 if(0:Int)<=t16/\t16<(Jr t17.2.1:Int)then
 if(0:Int)<=t16/\t16<(Jr t18.2.1:Int)then
 if(!decide ((((Jv t17.2.1 (Jt t16) (Jq,([],0))).2).2)=(((Jv t18.2.1 (Jt t16) (Jq,([],0))).2).2)))=false then
 if(0:Int)<=t16/\t16<(Jr t17.2.1:Int)then
 if(0:Int)<=t16/\t16<(Jr t18.2.1:Int)then
 (im.F n (((Jv t17.2.1 (Jt t16) (Jq,([],0))).2).1) (((Jv t18.2.1 (Jt t16) (Jq,([],0))).2).1)).bind λr19=>
 if(!r19)=true then
 some false
 else
 l4 n t17 t18 K4 k (Ju.wrap (t16+1))
 else
 none
 else
 none
 else
 some false
 else
 none
 else
 none
 else
 some false
 else
 none
 else
 none
 else
 K4 ()
def l5 (n:Nat)(t21:Wb)(t22:Wb)(K6:Unit->Option Bool):Nat->Int->Option Bool
 |0,_=>none
 |k+1,t20=>
 if decide (t20<(Jr t21.2.2:Int))=true then
 if(0:Int)<=t20/\t20<(Jr t21.2.2:Int)then
 if(0:Int)<=t20/\t20<(Jr t22.2.2:Int)then
 (ca.F n (Jv t21.2.2 (Jt t20) ([],((0,(Jq,[])),[]))) (Jv t22.2.2 (Jt t20) ([],((0,(Jq,[])),[])))).bind λr23=>
 if(!r23)=true then
 some false
 else
 l5 n t21 t22 K6 k (Ju.wrap (t20+1))
 else
 none
 else
 none
 else
 K6 ()
def j0 (n:Nat)(t3:Wb)(t4:Wb):Option Bool:=
 l1 n t3 t4 (λ_=>
 l4 n t3 t4 (λ_=>
 l5 n t3 t4 (λ_=>
 some true) n 0) n 0) n 0
def F (n:Nat)(t1:Wb)(t2:Wb):Option Bool:=
 if(!decide ((Jr t1.1:Int)=(Jr t2.1:Int)))=false then
 if(!decide ((Jr t1.2.1:Int)=(Jr t2.2.1:Int)))=false then
 if(!decide ((Jr t1.2.2:Int)=(Jr t2.2.2:Int)))=true then
 some false
 else
 j0 n t1 t2
 else
 some false
 else
 some false
def code:=Tryz.f142.body.getD .skip
abbrev ash:List ASh:=[.ro Qc,.ro Qc]
abbrev rsh:List RSh:=[.ro .bool]
def c0:=Jy (Jy code)
def b1:=JA (JA (Jy (JA c0)))
def b4:=JA (JA (Jy (JA (Jy c0))))
def b5:=JA (JA (Jy (JA (Jy (Jy c0)))))
def c2:=Jy (JA (JA (Jy b1)))
def b3:=JA (JA (Jy c2))
abbrev sh3:ES:=⟨[(2,.pt 2 []),(3,.pt 3 []),(5,.v QA),(6,.v QA)],[⟨2,.st Qd,.ro,true,false,none⟩,⟨3,.st Qd,.ro,true,false,none⟩]⟩
abbrev sh3_2:ES:=⟨[(2,.pt 2 []),(3,.pt 3 []),(5,.v QA)],[⟨2,.st Qd,.ro,true,false,none⟩,⟨3,.st Qd,.ro,true,false,none⟩]⟩
abbrev sh1_0:ES:=⟨[(2,.pt 2 []),(3,.pt 3 [])],[⟨2,.st Qd,.ro,true,false,none⟩,⟨3,.st Qd,.ro,true,false,none⟩]⟩
abbrev sh4:ES:=⟨[(2,.pt 2 []),(3,.pt 3 []),(7,.v QA)],[⟨2,.st Qd,.ro,true,false,none⟩,⟨3,.st Qd,.ro,true,false,none⟩]⟩
abbrev sh5:ES:=⟨[(2,.pt 2 []),(3,.pt 3 []),(8,.v QA)],[⟨2,.st Qd,.ro,true,false,none⟩,⟨3,.st Qd,.ro,true,false,none⟩]⟩
abbrev sh5_6:ES:=⟨[],[]⟩
def g3:GL rsh sh3:=λn m x kn kx=>l3 n x.1.2.2.1 x.2.1 x.2.2.1 (λ_=>kx 2 (sh3_2.enc (((()),(()),x.1.2.2.1,()),(x.2.1,x.2.2.1,())))) m x.1.2.2.2.1
def g2:GL rsh sh3_2:=λn m x kn kx=>j2 n x.1.2.2.1 x.2.1 x.2.2.1 (λ_=>kn (sh3_2.enc (((()),(()),x.1.2.2.1,()),(x.2.1,x.2.2.1,()))))
def g1:GL rsh sh3_2:=λn m x kn kx=>l1 n x.2.1 x.2.2.1 (λ_=>kx 0 (sh1_0.enc (((()),(()),()),(x.2.1,x.2.2.1,())))) m x.1.2.2.1
def g4:GL rsh sh4:=λn m x kn kx=>l4 n x.2.1 x.2.2.1 (λ_=>kx 4 (sh1_0.enc (((()),(()),()),(x.2.1,x.2.2.1,())))) m x.1.2.2.1
def g5:GL rsh sh5:=λn m x kn kx=>l5 n x.2.1 x.2.2.1 (λ_=>kx 6 (sh5_6.enc ((()),(())))) m x.1.2.2.1
def g0:GL rsh sh1_0:=λn m x kn kx=>j0 n x.2.1 x.2.2.1
def B:Bd:=⟨ash,rsh,[ca.E,im.E],⟨code,197,.nil,[(.tmp 4,.bool,.ro)]⟩,[⟨3,sh3,g3⟩,⟨2,sh3_2,g2⟩,⟨1,sh3_2,g1⟩,⟨4,sh4,g4⟩,⟨5,sh5,g5⟩,⟨0,sh1_0,g0⟩]⟩
theorem u3:UO B 3 (.loop b3):=
 lu (.seq Vi (.seq (.block (some [2,3,5,6]) Vf) .nil)) [(0,[2,3]),(1,[2,3,5]),(2,[2,3,5])] [2,3,5,6] sh3 g3 mn
theorem u2:UO B 2 c2:=
 ju (.seq .nil (.block (some [2,3,5]) (.cut 3 [2,3,5,6]))) [(0,[2,3]),(1,[2,3,5])] [2,3,5] sh3_2 g2 (mc u3 mn)
theorem u1:UO B 1 (.loop b1):=
 lu (.seq Vi (.seq (.block (some [2,3,5]) (.seq Vf (.cut 2 [2,3,5]))) .nil)) [(0,[2,3])] [2,3,5] sh3_2 g1 (mc u2 mn)
theorem u4:UO B 4 (.loop b4):=
 lu (.seq Vi (.seq (.block (some [2,3,7]) Vf) .nil)) [(4,[2,3])] [2,3,7] sh4 g4 mn
theorem u5:UO B 5 (.loop b5):=
 lu (.seq Vi (.seq (.block (some [2,3,8]) Vf) .nil)) [(6,[])] [2,3,8] sh5 g5 mn
theorem u0:UO B 0 c0:=
 ju (.seq (.seq .nil (.block (some [2,3]) (.cut 1 [2,3,5]))) (.seq (.seq .nil (.block (some [2,3]) (.cut 4 [2,3,7]))) (.seq (.seq .nil (.block (some []) (.cut 5 [2,3,8]))) Vm))) [] [4] sh1_0 g0 (mc u1 (mc u4 (mc u5 mn)))
def E:En:=⟨142,λn=>⟨B.a,B.r,λv=>F n v.1 v.2.1⟩,cD B (.seq .nil (.seq Vf (.cut 0 [2,3]))) Tryz.func142 (mc u0 mn)⟩
end cf
namespace iJ
def F (n:Nat)(p1:Wb):Option Bool:=
 (bC.F n p1).bind λr2=>
 (ea.F n r2).bind λr3=>
 if(decide (r3.2.2=0))=true then
 (cf.F n p1 r3.1).bind λr4=>
 some r4
 else
 some false
def code:=Tryz.f62.body.getD .skip
abbrev ash:List ASh:=[.ro Qc]
abbrev rsh:List RSh:=[.ro .bool]
def B:Bd:=⟨ash,rsh,[ea.E,bC.E,cf.E],⟨code,20,.nil,[(.tmp 2,.bool,.ro)]⟩,[]⟩
def E:En:=⟨62,λn=>⟨B.a,B.r,λv=>F n v.1⟩,cD B Vh Tryz.func62 mn⟩
end iJ
namespace cU
def l1 (n:Nat)(t6:Int)(t8:Wb)(t9:Wb)(t10:Wb)(K2:Ww->Option Wb):Nat->Int->Ww->Option Wb
 |0,_,_=>none
 |k+1,t7,t11=>
 if(0:Int)<=t6/\t6<(Jr t8.1:Int)then
 if decide (t7<(Jr ((Jv t8.1 (Jt t6) (Jq,[])).2):Int))=true then
 if(0:Int)<=t6/\t6<(Jr t8.1:Int)then
 if(0:Int)<=t7/\t7<(Jr ((Jv t8.1 (Jt t6) (Jq,[])).2):Int)then
 if(0:Int)<=t6/\t6<(Jr t8.1:Int)then
 if(0:Int)<=t7/\t7<(Jr ((Jv t8.1 (Jt t6) (Jq,[])).2):Int)then
 if Jr ([]:WL)+Jr ((Jv ((Jv t8.1 (Jt t6) (Jq,[])).2) (Jt t7) (Jq,[])).2:WL)<=aT then
 if Jr t11.2+Jr ([((Jv ((Jv t8.1 (Jt t6) (Jq,[])).2) (Jt t7) (Jq,[])).1,[]++((Jv ((Jv t8.1 (Jt t6) (Jq,[])).2) (Jt t7) (Jq,[])).2))]:WE)<=aT then
 l1 n t6 t8 t9 t10 K2 k (Ju.wrap (t7+1)) (t11.1,t11.2++[((Jv ((Jv t8.1 (Jt t6) (Jq,[])).2) (Jt t7) (Jq,[])).1,[]++((Jv ((Jv t8.1 (Jt t6) (Jq,[])).2) (Jt t7) (Jq,[])).2))])
 else
 none
 else
 none
 else
 none
 else
 none
 else
 none
 else
 none
 else
 K2 t11
 else
 none
def l0 (n:Nat)(t3:Wb)(t4:Wb)(K0:Wb->Option Wb):Nat->Int->Wb->Option Wb
 |0,_,_=>none
 |k+1,t2,t5=>
 if decide (t2<(Jr t3.1:Int))=true then
 if(0:Int)<=t2/\t2<(Jr t3.1:Int)then
 l1 n t2 t3 t4 t5 (λt12=>
 if Jr t5.1+Jr [t12]<=aT then
 l0 n t3 t4 K0 k (Ju.wrap (t2+1)) (t5.1++[t12],t5.2)
 else
 none) n 0 ((Jv t3.1 (Jt t2) (Jq,[])).1,[])
 else
 none
 else
 K0 t5
def l2 (n:Nat)(t15:Wb)(t16:Wb)(K4:Wb->Option Wb):Nat->Int->Wb->Option Wb
 |0,_,_=>none
 |k+1,t14,t17=>
 if decide (t14<(Jr t15.2.1:Int))=true then
 if(0:Int)<=t14/\t14<(Jr t15.2.1:Int)then
 if(0:Int)<=t14/\t14<(Jr t15.2.1:Int)then
 if Jr ([]:WL)+Jr (((Jv t15.2.1 (Jt t14) (Jq,([],0))).2).1:WL)<=aT then
 if(0:Int)<=t14/\t14<(Jr t15.2.1:Int)then
 if Jr t17.2.1+Jr ([((Jv t15.2.1 (Jt t14) (Jq,([],0))).1,([]++(((Jv t15.2.1 (Jt t14) (Jq,([],0))).2).1),((Jv t15.2.1 (Jt t14) (Jq,([],0))).2).2))]:Wy)<=aT then
 l2 n t15 t16 K4 k (Ju.wrap (t14+1)) (t17.1,(t17.2.1++[((Jv t15.2.1 (Jt t14) (Jq,([],0))).1,([]++(((Jv t15.2.1 (Jt t14) (Jq,([],0))).2).1),((Jv t15.2.1 (Jt t14) (Jq,([],0))).2).2))],t17.2.2))
 else
 none
 else
 none
 else
 none
 else
 none
 else
 none
 else
 K4 t17
def F (n:Nat)(t1:Wb):Option Wb:=
 l0 n t1 ([],([],[])) (λt13=>
 l2 n t1 ([],([],[])) (λt18=>
 some t18) n 0 t13) n 0 ([],([],[]))
def code:=Tryz.f65.body.getD .skip
abbrev ash:List ASh:=[.ro Qc]
abbrev rsh:List RSh:=[.own Qc (.pr QZ QO)]
def b0:=JA (JA (Jy (JA (Jy (Jy code)))))
def b2:=JA (JA (Jy (JA (Jy (Jy (Jy code))))))
def b1:=JA (JA (Jy (JA (Jy (JA (JA (Jy b0)))))))
abbrev sh1:ES:=⟨[(1,.pt 1 []),(2,.pt 2 []),(3,.pt 3 []),(4,.v QA),(5,.pt 5 []),(6,.v QA)],[⟨1,.st Qd,.ro,true,false,none⟩,⟨2,.st Qd,.pr QZ QO,true,false,none⟩,⟨3,.st Qd,.pr QZ QO,true,false,none⟩,⟨5,.st Qp,.pr .ro QV,true,false,none⟩]⟩
abbrev sh1_2:ES:=⟨[(1,.pt 1 []),(2,.pt 2 []),(3,.pt 3 []),(4,.v QA),(5,.pt 5 [])],[⟨1,.st Qd,.ro,true,false,none⟩,⟨2,.st Qd,.pr QZ QO,true,false,none⟩,⟨3,.st Qd,.pr QZ QO,true,false,none⟩,⟨5,.st Qp,.pr .ro QV,true,false,none⟩]⟩
abbrev sh0:ES:=⟨[(1,.pt 1 []),(2,.pt 2 []),(3,.pt 3 []),(4,.v QA)],[⟨1,.st Qd,.ro,true,false,none⟩,⟨2,.st Qd,.pr QZ QO,true,false,none⟩,⟨3,.st Qd,.pr QZ QO,true,false,none⟩]⟩
abbrev sh0_0:ES:=⟨[(1,.pt 1 []),(2,.pt 2 []),(3,.pt 3 [])],[⟨1,.st Qd,.ro,true,false,none⟩,⟨2,.st Qd,.pr QZ QO,true,false,none⟩,⟨3,.st Qd,.pr QZ QO,true,false,none⟩]⟩
abbrev sh2:ES:=⟨[(1,.pt 1 []),(2,.pt 2 []),(3,.pt 3 []),(7,.v QA)],[⟨1,.st Qd,.ro,true,false,none⟩,⟨2,.st Qd,.pr QZ QO,true,false,none⟩,⟨3,.st Qd,.pr QZ QO,true,false,none⟩]⟩
abbrev sh2_4:ES:=⟨[(2,.pt 2 []),(3,.pt 3 [])],[⟨2,.st Qd,.pr QZ QO,true,false,none⟩,⟨3,.st Qd,.pr QZ QO,true,false,none⟩]⟩
def g1:GL rsh sh1:=λn m x kn kx=>l1 n x.1.2.2.2.1 x.2.1 x.2.2.1 x.2.2.2.1 (λy0=>kx 2 (sh1_2.enc (((()),(()),(()),x.1.2.2.2.1,(()),()),(x.2.1,x.2.2.1,x.2.2.2.1,y0,())))) m x.1.2.2.2.2.2.1 x.2.2.2.2.1
def g0:GL rsh sh0:=λn m x kn kx=>l0 n x.2.1 x.2.2.1 (λy0=>kx 0 (sh0_0.enc (((()),(()),(()),()),(x.2.1,x.2.2.1,y0,())))) m x.1.2.2.2.1 x.2.2.2.1
def g2:GL rsh sh2:=λn m x kn kx=>l2 n x.2.1 x.2.2.1 (λy0=>kx 4 (sh2_4.enc (((()),(()),()),(x.2.2.1,y0,())))) m x.1.2.2.2.1 x.2.2.2.1
def B:Bd:=⟨ash,rsh,[],⟨code,102,.nil,[(.cell 2 53,.st Qd,.pr QZ QO)]⟩,[⟨1,sh1,g1⟩,⟨0,sh0,g0⟩,⟨2,sh2,g2⟩]⟩
theorem u1:UO B 1 (.loop b1):=
 lu (.seq Vi (.seq (.block (some [1,2,3,4,5,6]) (.reg [(46,.own .ro),(58,.pr .ro QZ),(59,.own QX)])) .nil)) [(0,[1,2,3]),(1,[1,2,3,4]),(2,[1,2,3,4,5])] [1,2,3,4,5,6] sh1 g1 mn
theorem u0:UO B 0 (.loop b0):=
 lu (.seq Vi (.seq (.block (some [1,2,3,4]) (.seq (.reg [(22,.pr .ro QV),(5,.pr .ro QV)]) (.seq (.seq .nil (.block (some [1,2,3,4,5]) (.cut 1 [1,2,3,4,5,6]))) (.reg [(64,.ro)])))) .nil)) [(0,[1,2,3])] [1,2,3,4] sh0 g0 (mc u1 mn)
theorem u2:UO B 2 (.loop b2):=
 lu (.seq Vi (.seq (.block (some [1,2,3,7]) (.reg [(83,.own .ro),(97,.pr .ro QY),(98,.own QU)])) .nil)) [(4,[2,3])] [1,2,3,7] sh2 g2 mn
def E:En:=⟨65,λn=>⟨B.a,B.r,λv=>F n v.1⟩,cD B (.seq (.reg [(2,.pr QZ QO)]) (.seq (.reg [(8,.pr QZ QO),(3,.pr QZ QO)]) (.seq (.seq .nil (.block (some [1,2,3]) (.cut 0 [1,2,3,4]))) (.seq (.seq .nil (.block (some [2,3]) (.cut 2 [1,2,3,7]))) Vm)))) Tryz.func65 (mc u0 (mc u2 mn))⟩
end cU
namespace dw
def l0 (n:Nat)(t3:Wk)(t4:Wk)(K0:Wk->Option Wk):Nat->Int->Wk->Option Wk
 |0,_,_=>none
 |k+1,t2,t5=>
 if decide (t2<(Jr t3.1:Int))=true then
 if(0:Int)<=t2/\t2<(Jr t3.1:Int)then
 if(0:Int)<=t2/\t2<(Jr t3.1:Int)then
 if(0:Int)<=t2/\t2<(Jr t3.1:Int)then
 if Jr ([]:WN)+Jr (((Jv t3.1 (Jt t2) (0,(Jq,[]))).2).2:WN)<=aT then
 if Jr t5.1+Jr ([((Jv t3.1 (Jt t2) (0,(Jq,[]))).1,(((Jv t3.1 (Jt t2) (0,(Jq,[]))).2).1,[]++(((Jv t3.1 (Jt t2) (0,(Jq,[]))).2).2)))]:WD)<=aT then
 l0 n t3 t4 K0 k (Ju.wrap (t2+1)) (t5.1++[((Jv t3.1 (Jt t2) (0,(Jq,[]))).1,(((Jv t3.1 (Jt t2) (0,(Jq,[]))).2).1,[]++(((Jv t3.1 (Jt t2) (0,(Jq,[]))).2).2)))],t5.2)
 else
 none
 else
 none
 else
 none
 else
 none
 else
 none
 else
 K0 t5
def l1 (n:Nat)(t8:Wk)(t9:Wk)(K2:Wk->Option Wk):Nat->Int->Wk->Option Wk
 |0,_,_=>none
 |k+1,t7,t10=>
 if decide (t7<(Jr t8.2.2:Int))=true then
 if(0:Int)<=t7/\t7<(Jr t8.2.2:Int)then
 if(0:Int)<=t7/\t7<(Jr t8.2.2:Int)then
 if(0:Int)<=t7/\t7<(Jr t8.2.2:Int)then
 if Jr ([]:WN)+Jr (((Jv t8.2.2 (Jt t7) (0,(Jq,[]))).2).2:WN)<=aT then
 if Jr t10.2.2+Jr ([((Jv t8.2.2 (Jt t7) (0,(Jq,[]))).1,(((Jv t8.2.2 (Jt t7) (0,(Jq,[]))).2).1,[]++(((Jv t8.2.2 (Jt t7) (0,(Jq,[]))).2).2)))]:WD)<=aT then
 l1 n t8 t9 K2 k (Ju.wrap (t7+1)) (t10.1,(t10.2.1,t10.2.2++[((Jv t8.2.2 (Jt t7) (0,(Jq,[]))).1,(((Jv t8.2.2 (Jt t7) (0,(Jq,[]))).2).1,[]++(((Jv t8.2.2 (Jt t7) (0,(Jq,[]))).2).2)))]))
 else
 none
 else
 none
 else
 none
 else
 none
 else
 none
 else
 K2 t10
def F (n:Nat)(t1:Wk):Option Wk:=
 if Jr ([]:WN)+Jr t1.2.1.2.2<=aT then
 l0 n t1 ([],((0,(Jq,[])),[])) (λt6=>
 l1 n t1 ([],((0,(Jq,[])),[])) (λt11=>
 some t11) n 0 t6) n 0 ([],((t1.2.1.1,(t1.2.1.2.1,[]++t1.2.1.2.2)),[]))
 else
 none
def code:=Tryz.f66.body.getD .skip
abbrev ash:List ASh:=[.ro Qf]
abbrev rsh:List RSh:=[.own Qf QJ]
def b0:=JA (JA (Jy (JA (Jy (Jy code)))))
def b1:=JA (JA (Jy (JA (Jy (Jy (Jy code))))))
abbrev sh0:ES:=⟨[(1,.pt 1 []),(2,.pt 2 []),(3,.pt 3 []),(4,.v QA)],[⟨1,.st Qg,.ro,true,false,none⟩,⟨2,.st Qg,.pr QQ QN,true,false,none⟩,⟨3,.st Qg,.pr QQ QN,true,false,none⟩]⟩
abbrev sh0_0:ES:=⟨[(1,.pt 1 []),(2,.pt 2 []),(3,.pt 3 [])],[⟨1,.st Qg,.ro,true,false,none⟩,⟨2,.st Qg,.pr QQ QN,true,false,none⟩,⟨3,.st Qg,.pr QQ QN,true,false,none⟩]⟩
abbrev sh1:ES:=⟨[(1,.pt 1 []),(2,.pt 2 []),(3,.pt 3 []),(5,.v QA)],[⟨1,.st Qg,.ro,true,false,none⟩,⟨2,.st Qg,.pr QQ QN,true,false,none⟩,⟨3,.st Qg,.pr QQ QN,true,false,none⟩]⟩
abbrev sh1_2:ES:=⟨[(2,.pt 2 []),(3,.pt 3 [])],[⟨2,.st Qg,.pr QQ QN,true,false,none⟩,⟨3,.st Qg,.pr QQ QN,true,false,none⟩]⟩
def g0:GL rsh sh0:=λn m x kn kx=>l0 n x.2.1 x.2.2.1 (λy0=>kx 0 (sh0_0.enc (((()),(()),(()),()),(x.2.1,x.2.2.1,y0,())))) m x.1.2.2.2.1 x.2.2.2.1
def g1:GL rsh sh1:=λn m x kn kx=>l1 n x.2.1 x.2.2.1 (λy0=>kx 2 (sh1_2.enc (((()),(()),()),(x.2.2.1,y0,())))) m x.1.2.2.2.1 x.2.2.2.1
def B:Bd:=⟨ash,rsh,[],⟨code,86,.nil,[(.cell 2 34,.st Qg,.pr QQ QN)]⟩,[⟨0,sh0,g0⟩,⟨1,sh1,g1⟩]⟩
theorem u0:UO B 0 (.loop b0):=
 lu (.seq Vi (.seq (.block (some [1,2,3,4]) (.reg [(40,.own .ro),(48,.pr .ro QX),(49,.own QT)])) .nil)) [(0,[1,2,3])] [1,2,3,4] sh0 g0 mn
theorem u1:UO B 1 (.loop b1):=
 lu (.seq Vi (.seq (.block (some [1,2,3,5]) (.reg [(73,.own .ro),(81,.pr .ro QX),(82,.own QT)])) .nil)) [(2,[2,3])] [1,2,3,5] sh1 g1 mn
def E:En:=⟨66,λn=>⟨B.a,B.r,λv=>F n v.1⟩,cD B (.seq (.reg [(2,.pr QQ QN)]) (.seq (.reg [(12,.own .ro),(17,.pr .ro QX),(18,.pr QQ QN),(3,.pr QQ (.pr .ro QQ))]) (.seq (.seq .nil (.block (some [1,2,3]) (.cut 0 [1,2,3,4]))) (.seq (.seq .nil (.block (some [2,3]) (.cut 1 [1,2,3,5]))) Vm)))) Tryz.func66 (mc u0 (mc u1 mn))⟩
end dw
namespace cT
def l2 (n:Nat)(t14:Int)(t16:Wk)(t17:Wk)(t19:WL)(K2:Wk->Option Wk):Nat->Int->Wk->Option Wk
 |0,_,_=>none
 |k+1,t15,t18=>
 if decide (t15<(Jr t19:Int))=true then
 if(0:Int)<=t15/\t15<(Jr t19:Int)then
 if(0:Int)<=t14/\t14<(Jr t16.1:Int)then
 if(Km (Jv t19 (Jt t15) Jq) (((Jv t16.1 (Jt t14) (0,(Jq,[]))).2).1))=true then
 (bO.F n (Ju.wrap (t15+1))).bind λr20=>
 if Js ⟨#[118]⟩+Js r20<=aT then
 if(0:Int)<=t14/\t14<(Jr t18.1:Int)then
 let w21:List WG:=KO t18.1 (Jt t14) ((Jv t18.1 (Jt t14) (0,(Jq,[]))).1,(⟨#[118]⟩++r20,((Jv t18.1 (Jt t14) (0,(Jq,[]))).2).2))
 l2 n t14 t16 t17 t19 K2 k (Ju.wrap (t15+1)) (w21,t18.2)
 else
 none
 else
 none
 else
 l2 n t14 t16 t17 t19 K2 k (Ju.wrap (t15+1)) t18
 else
 none
 else
 none
 else
 K2 t18
def j1 (n:Nat)(t9:Int)(t10:Wk)(t11:Wk)(t12:Wk)(t13:WL)(Kn:Wk->Option Wk):Option Wk:=
 l2 n t9 t10 t11 t13 (λt22=>
 Kn t22) n 0 t12
def l0 (n:Nat)(t4:Wk)(t5:Wk)(K0:Wk->Option Wk):Nat->Int->Wk->WL->Option Wk
 |0,_,_,_=>none
 |k+1,t3,t6,t7=>
 if decide (t3<(Jr t4.1:Int))=true then
 if(0:Int)<=t3/\t3<(Jr t4.1:Int)then
 if(!decide (((Jv t4.1 (Jt t3) (0,(Jq,[]))).1)=1))=true then
 l0 n t4 t5 K0 k (Ju.wrap (t3+1)) t6 t7
 else
 if(0:Int)<=t3/\t3<(Jr t4.1:Int)then
 (iM.F n t7 (((Jv t4.1 (Jt t3) (0,(Jq,[]))).2).1)).bind λr8=>
 if(!r8)=true then
 if(0:Int)<=t3/\t3<(Jr t4.1:Int)then
 if Jr t7+Jr ([((Jv t4.1 (Jt t3) (0,(Jq,[]))).2).1]:WL)<=aT then
 j1 n t3 t4 t5 t6 (t7++[((Jv t4.1 (Jt t3) (0,(Jq,[]))).2).1]) (λt23=>
 l0 n t4 t5 K0 k (Ju.wrap (t3+1)) t23 (t7++[((Jv t4.1 (Jt t3) (0,(Jq,[]))).2).1]))
 else
 none
 else
 none
 else
 j1 n t3 t4 t5 t6 t7 (λt24=>
 l0 n t4 t5 K0 k (Ju.wrap (t3+1)) t24 t7)
 else
 none
 else
 none
 else
 K0 t6
def F (n:Nat)(t1:Wk):Option Wk:=
 (dw.F n t1).bind λr2=>
 l0 n t1 ([],((0,(Jq,[])),[])) (λt25=>
 some t25) n 0 r2 []
def code:=Tryz.f160.body.getD .skip
abbrev ash:List ASh:=[.ro Qf]
abbrev rsh:List RSh:=[.ro Qf]
def b0:=JA (JA (Jy (JA (Jy (Jy (Jy code))))))
def c1:=Jy (Jy (JA (JA (Jy b0))))
def b2:=JA (JA (Jy c1))
abbrev sh2:ES:=⟨[(1,.pt 1 []),(2,.pt 2 []),(3,.pt 3 []),(4,.al 4 []),(5,.v QA),(6,.v QA)],[⟨1,.st Qg,.ro,true,false,none⟩,⟨2,.st Qg,.ro,true,false,none⟩,⟨3,.st Qg,.pr QQ QN,true,false,none⟩,⟨4,.sl QC,.own .ro,false,false,none⟩]⟩
abbrev sh2_2:ES:=⟨[(1,.pt 1 []),(2,.pt 2 []),(3,.pt 3 []),(4,.al 4 []),(5,.v QA)],[⟨1,.st Qg,.ro,true,false,none⟩,⟨2,.st Qg,.ro,true,false,none⟩,⟨3,.st Qg,.pr QQ QN,true,false,none⟩,⟨4,.sl QC,.own .ro,false,false,none⟩]⟩
abbrev sh0_0:ES:=⟨[(2,.pt 2 []),(3,.pt 3 [])],[⟨2,.st Qg,.ro,true,false,none⟩,⟨3,.st Qg,.pr QQ QN,true,false,none⟩]⟩
def g2:GL rsh sh2:=λn m x kn kx=>l2 n x.1.2.2.2.2.1 x.2.1 x.2.2.1 x.2.2.2.2.1 (λy0=>kx 2 (sh2_2.enc (((()),(()),(()),(()),x.1.2.2.2.2.1,()),(x.2.1,x.2.2.1,y0,x.2.2.2.2.1,())))) m x.1.2.2.2.2.2.1 x.2.2.2.1
def g1:GL rsh sh2_2:=λn m x kn kx=>j1 n x.1.2.2.2.2.1 x.2.1 x.2.2.1 x.2.2.2.1 x.2.2.2.2.1 (λy0=>kn (sh2_2.enc (((()),(()),(()),(()),x.1.2.2.2.2.1,()),(x.2.1,x.2.2.1,y0,x.2.2.2.2.1,()))))
def g0:GL rsh sh2_2:=λn m x kn kx=>l0 n x.2.1 x.2.2.1 (λy0=>kx 0 (sh0_0.enc (((()),(()),()),(x.2.2.1,y0,())))) m x.1.2.2.2.2.1 x.2.2.2.1 x.2.2.2.2.1
def B:Bd:=⟨ash,rsh,[iM.E,dw.E,bO.E],⟨code,69,.nil,[(.cell 2 34,.st Qg,.ro)]⟩,[⟨2,sh2,g2⟩,⟨1,sh2_2,g1⟩,⟨0,sh2_2,g0⟩]⟩
theorem u2:UO B 2 (.loop b2):=
 lu (.seq Vi (.seq (.block (some [1,2,3,4,5,6]) Vi) .nil)) [(0,[2,3]),(1,[1,2,3,4,5]),(2,[1,2,3,4,5])] [1,2,3,4,5,6] sh2 g2 mn
theorem u1:UO B 1 c1:=
 ju (.seq .nil (.block (some [1,2,3,4,5]) (.cut 2 [1,2,3,4,5,6]))) [(0,[2,3]),(1,[1,2,3,4,5])] [1,2,3,4,5] sh2_2 g1 (mc u2 mn)
theorem u0:UO B 0 (.loop b0):=
 lu (.seq Vi (.seq (.block (some [1,2,3,4,5]) (.seq Vi (.seq Vi (.cut 1 [1,2,3,4,5])))) .nil)) [(0,[2,3])] [1,2,3,4,5] sh2_2 g0 (mc u1 mn)
def E:En:=⟨160,λn=>⟨B.a,B.r,λv=>F n v.1⟩,cD B (.seq .nil (.seq (.reg [(8,.pr QQ QN),(3,.pr QZ .ro)]) (.seq (.reg [(9,.own .ro)]) (.seq (.seq .nil (.block (some [2,3]) (.cut 0 [1,2,3,4,5]))) (.seq (.reg [(68,.ro)]) .nil))))) Tryz.func160 (mc u0 mn)⟩
end cT
namespace li
def F (n:Nat)(a1:Wk)(b2:Wk):Option Bool:=
 (bN.F n a1).bind λr3=>
 if(!(Km r3 Jq))=true then
 (bN.F n b2).bind λr4=>
 if(!(Km r4 Jq))=true then
 (cT.F n a1).bind λr5=>
 (cT.F n b2).bind λr6=>
 (ca.F n r5 r6).bind λr7=>
 some r7
 else
 some false
 else
 some false
def code:=Tryz.f85.body.getD .skip
abbrev ash:List ASh:=[.ro Qf,.ro Qf]
abbrev rsh:List RSh:=[.ro .bool]
def B:Bd:=⟨ash,rsh,[bN.E,ca.E,cT.E],⟨code,20,.nil,[(.tmp 4,.bool,.ro)]⟩,[]⟩
def E:En:=⟨85,λn=>⟨B.a,B.r,λv=>F n v.1 v.2.1⟩,cD B Vk Tryz.func85 mn⟩
end li
namespace iT
def l1 (n:Nat)(i8:Int)(p11:Wb)(t12:Wb)(out13:Wb)(K2:Bool->Option Wb):Nat->Bool->Int->Option Wb
 |0,_,_=>none
 |k+1,t9,k10=>
 if decide (k10<i8)=true then
 if t9=false then
 if(0:Int)<=k10/\k10<(Jr p11.2.2:Int)then
 if(0:Int)<=i8/\i8<(Jr p11.2.2:Int)then
 (li.F n (Jv p11.2.2 (Jt k10) ([],((0,(Jq,[])),[]))) (Jv p11.2.2 (Jt i8) ([],((0,(Jq,[])),[])))).bind λr14=>
 l1 n i8 p11 t12 out13 K2 k r14 (Ju.wrap (k10+1))
 else
 none
 else
 none
 else
 l1 n i8 p11 t12 out13 K2 k true (Ju.wrap (k10+1))
 else
 K2 t9
def l0 (n:Nat)(p5:Wb)(t6:Wb)(K0:Wb->Option Wb):Nat->Int->Wb->Option Wb
 |0,_,_=>none
 |k+1,i4,out7=>
 if decide (i4<(Jr p5.2.2:Int))=true then
 l1 n i4 p5 t6 out7 (λt15=>
 if(!t15)=true then
 if(0:Int)<=i4/\i4<(Jr p5.2.2:Int)then
 (dw.F n (Jv p5.2.2 (Jt i4) ([],((0,(Jq,[])),[])))).bind λr16=>
 if Jr out7.2.2+Jr [r16]<=aT then
 l0 n p5 t6 K0 k (Ju.wrap (i4+1)) (out7.1,(out7.2.1,out7.2.2++[r16]))
 else
 none
 else
 none
 else
 l0 n p5 t6 K0 k (Ju.wrap (i4+1)) out7) n false 0
 else
 K0 out7
def F (n:Nat)(p1:Wb):Option Wb:=
 (iJ.F n p1).bind λr2=>
 if(!r2)=true then
 some ([],([],[]))
 else
 (cU.F n p1).bind λr3=>
 l0 n p1 ([],([],[])) (λout17=>
 some out17) n 0 r3
def code:=Tryz.f23.body.getD .skip
abbrev ash:List ASh:=[.ro Qc]
abbrev rsh:List RSh:=[.ro Qc]
def b0:=JA (JA (Jy (JA (Jy (Jy (Jy code))))))
def b1:=JA (JA (Jy (JA (Jy (JA (JA (Jy b0)))))))
abbrev sh1:ES:=⟨[(1,.pt 1 []),(2,.pt 2 []),(3,.pt 3 []),(4,.v QA),(5,.v .bool),(6,.v QA)],[⟨1,.st Qd,.ro,true,false,none⟩,⟨2,.st Qd,.ro,true,false,none⟩,⟨3,.st Qd,.pr QZ QO,true,false,none⟩]⟩
abbrev sh1_2:ES:=⟨[(1,.pt 1 []),(2,.pt 2 []),(3,.pt 3 []),(4,.v QA),(5,.v .bool)],[⟨1,.st Qd,.ro,true,false,none⟩,⟨2,.st Qd,.ro,true,false,none⟩,⟨3,.st Qd,.pr QZ QO,true,false,none⟩]⟩
abbrev sh0:ES:=⟨[(1,.pt 1 []),(2,.pt 2 []),(3,.pt 3 []),(4,.v QA)],[⟨1,.st Qd,.ro,true,false,none⟩,⟨2,.st Qd,.ro,true,false,none⟩,⟨3,.st Qd,.pr QZ QO,true,false,none⟩]⟩
abbrev sh0_0:ES:=⟨[(2,.pt 2 []),(3,.pt 3 [])],[⟨2,.st Qd,.ro,true,false,none⟩,⟨3,.st Qd,.pr QZ QO,true,false,none⟩]⟩
def g1:GL rsh sh1:=λn m x kn kx=>l1 n x.1.2.2.2.1 x.2.1 x.2.2.1 x.2.2.2.1 (λy0=>kx 2 (sh1_2.enc (((()),(()),(()),x.1.2.2.2.1,y0,()),(x.2.1,x.2.2.1,x.2.2.2.1,())))) m x.1.2.2.2.2.1 x.1.2.2.2.2.2.1
def g0:GL rsh sh0:=λn m x kn kx=>l0 n x.2.1 x.2.2.1 (λy0=>kx 0 (sh0_0.enc (((()),(()),()),(x.2.2.1,y0,())))) m x.1.2.2.2.1 x.2.2.2.1
def B:Bd:=⟨ash,rsh,[iJ.E,cU.E,dw.E,li.E],⟨code,53,.nil,[(.cell 2 53,.st Qd,.ro)]⟩,[⟨1,sh1,g1⟩,⟨0,sh0,g0⟩]⟩
theorem u1:UO B 1 (.loop b1):=
 lu (.seq Vi (.seq (.block (some [1,2,3,4,5,6]) .nil) .nil)) [(0,[2,3]),(1,[1,2,3,4]),(2,[1,2,3,4,5])] [1,2,3,4,5,6] sh1 g1 mn
theorem u0:UO B 0 (.loop b0):=
 lu (.seq Vi (.seq (.block (some [1,2,3,4]) (.seq .nil (.seq (.seq .nil (.block (some [1,2,3,4,5]) (.cut 1 [1,2,3,4,5,6]))) Vi))) .nil)) [(0,[2,3])] [1,2,3,4] sh0 g0 (mc u1 mn)
def E:En:=⟨23,λn=>⟨B.a,B.r,λv=>F n v.1⟩,cD B (.seq .nil (.seq Vf (.seq (.reg [(12,.pr QZ QO),(3,.pr .ro QX)]) (.seq (.seq .nil (.block (some [2,3]) (.cut 0 [1,2,3,4]))) (.seq (.reg [(52,.ro)]) .nil))))) Tryz.func23 (mc u0 mn)⟩
end iT
namespace da
def l1 (n:Nat)(t7:ByteArray)(t8:Wu)(t9:Int)(t10:Int)(t11:WE)(t12:Int)(t14:Wb)(t15:Ww)(K2:WL->Option ByteArray):Nat->Int->WL->Option ByteArray
 |0,_,_=>none
 |k+1,t13,t16=>
 if decide (t13<t12)=true then
 if(0:Int)<=t13/\t13<(Jr t11:Int)then
 if decide ((Jr ((Jv t11 (Jt t13) (Jq,[])).2):Int)>0)=true then
 (cJ.F n ((Jv t11 (Jt t13) (Jq,[])).2) ⟨#[44,32]⟩).bind λr17=>
 if Js ⟨#[40]⟩+Js r17<=aT then
 if Js (⟨#[40]⟩++r17)+Js ⟨#[41]⟩<=aT then
 if Js ((Jv t11 (Jt t13) (Jq,[])).1)+Js ((⟨#[40]⟩++r17)++⟨#[41]⟩)<=aT then
 if Jr t16+Jr (([((Jv t11 (Jt t13) (Jq,[])).1)++((⟨#[40]⟩++r17)++⟨#[41]⟩)]:WL):WL)<=aT then
 l1 n t7 t8 t9 t10 t11 t12 t14 t15 K2 k (Ju.wrap (t13+1)) (t16++([((Jv t11 (Jt t13) (Jq,[])).1)++((⟨#[40]⟩++r17)++⟨#[41]⟩)]:WL))
 else
 none
 else
 none
 else
 none
 else
 none
 else
 if Jr t16+Jr ([(Jv t11 (Jt t13) (Jq,[])).1]:WL)<=aT then
 l1 n t7 t8 t9 t10 t11 t12 t14 t15 K2 k (Ju.wrap (t13+1)) (t16++[(Jv t11 (Jt t13) (Jq,[])).1])
 else
 none
 else
 none
 else
 K2 t16
def l0 (n:Nat)(t3:Wu)(t4:Int)(t6:Wb)(K0:ByteArray->Option ByteArray):Nat->ByteArray->Int->Option ByteArray
 |0,_,_=>none
 |k+1,t2,t5=>
 if decide (t5<t4)=true then
 if(0:Int)<=t5/\t5<(Jr t3:Int)then
 l1 n t2 t3 t4 t5 ((Jv t3 (Jt t5) (Jq,[])).2) (Jr ((Jv t3 (Jt t5) (Jq,[])).2):Int) t6 (Jv t3 (Jt t5) (Jq,[])) (λt18=>
 if Js ⟨#[116,121,112,101,32]⟩+Js ((Jv t3 (Jt t5) (Jq,[])).1)<=aT then
 if Js (⟨#[116,121,112,101,32]⟩++((Jv t3 (Jt t5) (Jq,[])).1))+Js ⟨#[32,61,32]⟩<=aT then
 (cJ.F n t18 ⟨#[32,124,32]⟩).bind λr19=>
 if Js ((⟨#[116,121,112,101,32]⟩++((Jv t3 (Jt t5) (Jq,[])).1))++⟨#[32,61,32]⟩)+Js r19<=aT then
 if Js (((⟨#[116,121,112,101,32]⟩++((Jv t3 (Jt t5) (Jq,[])).1))++⟨#[32,61,32]⟩)++r19)+Js ⟨#[46,10]⟩<=aT then
 if Js t2+Js ((((⟨#[116,121,112,101,32]⟩++((Jv t3 (Jt t5) (Jq,[])).1))++⟨#[32,61,32]⟩)++r19)++⟨#[46,10]⟩)<=aT then
 l0 n t3 t4 t6 K0 k (t2++((((⟨#[116,121,112,101,32]⟩++((Jv t3 (Jt t5) (Jq,[])).1))++⟨#[32,61,32]⟩)++r19)++⟨#[46,10]⟩)) (Ju.wrap (t5+1))
 else
 none
 else
 none
 else
 none
 else
 none
 else
 none) n 0 []
 else
 none
 else
 K0 t2
def l2 (n:Nat)(t22:Wy)(t23:Int)(t25:Wb)(K4:ByteArray->Option ByteArray):Nat->ByteArray->Int->Option ByteArray
 |0,_,_=>none
 |k+1,t21,t24=>
 if decide (t24<t23)=true then
 if(0:Int)<=t24/\t24<(Jr t22:Int)then
 (eE.F n (((Jv t22 (Jt t24) (Jq,([],0))).2).2) 0 3).bind λr26=>
 if(!r26)=true then
 some Jq
 else
 if Js ⟨#[114,101,108,32]⟩+Js ((Jv t22 (Jt t24) (Jq,([],0))).1)<=aT then
 if Js (⟨#[114,101,108,32]⟩++((Jv t22 (Jt t24) (Jq,([],0))).1))+Js ⟨#[40]⟩<=aT then
 (cJ.F n (((Jv t22 (Jt t24) (Jq,([],0))).2).1) ⟨#[44,32]⟩).bind λr27=>
 if Js ((⟨#[114,101,108,32]⟩++((Jv t22 (Jt t24) (Jq,([],0))).1))++⟨#[40]⟩)+Js r27<=aT then
 if Js (((⟨#[114,101,108,32]⟩++((Jv t22 (Jt t24) (Jq,([],0))).1))++⟨#[40]⟩)++r27)+Js ⟨#[41]⟩<=aT then
 if Js t21+Js ((((⟨#[114,101,108,32]⟩++((Jv t22 (Jt t24) (Jq,([],0))).1))++⟨#[40]⟩)++r27)++⟨#[41]⟩)<=aT then
 if(!decide ((((Jv t22 (Jt t24) (Jq,([],0))).2).2)=0))=true then
 (fu.F n).bind λr28=>
 if(0:Int)<=(((Jv t22 (Jt t24) (Jq,([],0))).2).2)/\(((Jv t22 (Jt t24) (Jq,([],0))).2).2)<(Jr r28:Int)then
 if Js ⟨#[32]⟩+Js (Jv r28 (Jt (((Jv t22 (Jt t24) (Jq,([],0))).2).2)) Jq)<=aT then
 if Js (t21++((((⟨#[114,101,108,32]⟩++((Jv t22 (Jt t24) (Jq,([],0))).1))++⟨#[40]⟩)++r27)++⟨#[41]⟩))+Js (⟨#[32]⟩++(Jv r28 (Jt (((Jv t22 (Jt t24) (Jq,([],0))).2).2)) Jq))<=aT then
 if Js ((t21++((((⟨#[114,101,108,32]⟩++((Jv t22 (Jt t24) (Jq,([],0))).1))++⟨#[40]⟩)++r27)++⟨#[41]⟩))++(⟨#[32]⟩++(Jv r28 (Jt (((Jv t22 (Jt t24) (Jq,([],0))).2).2)) Jq)))+Js ⟨#[46,10]⟩<=aT then
 l2 n t22 t23 t25 K4 k (((t21++((((⟨#[114,101,108,32]⟩++((Jv t22 (Jt t24) (Jq,([],0))).1))++⟨#[40]⟩)++r27)++⟨#[41]⟩))++(⟨#[32]⟩++(Jv r28 (Jt (((Jv t22 (Jt t24) (Jq,([],0))).2).2)) Jq)))++⟨#[46,10]⟩) (Ju.wrap (t24+1))
 else
 none
 else
 none
 else
 none
 else
 none
 else
 if Js (t21++((((⟨#[114,101,108,32]⟩++((Jv t22 (Jt t24) (Jq,([],0))).1))++⟨#[40]⟩)++r27)++⟨#[41]⟩))+Js ⟨#[46,10]⟩<=aT then
 l2 n t22 t23 t25 K4 k ((t21++((((⟨#[114,101,108,32]⟩++((Jv t22 (Jt t24) (Jq,([],0))).1))++⟨#[40]⟩)++r27)++⟨#[41]⟩))++⟨#[46,10]⟩) (Ju.wrap (t24+1))
 else
 none
 else
 none
 else
 none
 else
 none
 else
 none
 else
 none
 else
 none
 else
 K4 t21
def l3 (n:Nat)(t31:Wh)(t32:Int)(K6:ByteArray->Option ByteArray):Nat->ByteArray->Int->Option ByteArray
 |0,_,_=>none
 |k+1,t30,t33=>
 if decide (t33<t32)=true then
 if(0:Int)<=t33/\t33<(Jr t31:Int)then
 (ff.F n (Jv t31 (Jt t33) ([],((0,(Jq,[])),[])))).bind λr34=>
 if(Km r34 Jq)=false then
 if decide ((Js t30:Int)>3000)=true then
 some Jq
 else
 if Js r34+Js ⟨#[10]⟩<=aT then
 if Js t30+Js (r34++⟨#[10]⟩)<=aT then
 l3 n t31 t32 K6 k (t30++(r34++⟨#[10]⟩)) (Ju.wrap (t33+1))
 else
 none
 else
 none
 else
 some Jq
 else
 none
 else
 K6 t30
def F (n:Nat)(t1:Wb):Option ByteArray:=
 l0 n t1.1 (Jr t1.1:Int) t1 (λt20=>
 l2 n t1.2.1 (Jr t1.2.1:Int) t1 (λt29=>
 l3 n t1.2.2 (Jr t1.2.2:Int) (λt35=>
 if decide ((Js t35:Int)>3000)=true then
 some Jq
 else
 some t35) n t29 0) n t20 0) n Jq 0
def code:=Tryz.f148.body.getD .skip
abbrev ash:List ASh:=[.ro Qc]
abbrev rsh:List RSh:=[.ro .str]
def b0:=JA (JA (Jy (JA (Jy (Jy code)))))
def b2:=JA (JA (Jy (JA (Jy (Jy (Jy code))))))
def b3:=JA (JA (Jy (JA (Jy (Jy (Jy (Jy code)))))))
def b1:=JA (JA (Jy (JA (Jy (Jy (JA (JA (Jy (Jy b0)))))))))
abbrev sh1:ES:=⟨[(1,.pt 1 []),(3,.v .str),(5,.pt 5 []),(6,.al 6 []),(16,.v Qj),(17,.v QA),(18,.v QA),(24,.v Qv),(25,.v QA),(26,.v QA)],[⟨1,.st Qd,.ro,true,false,none⟩,⟨5,.st Qp,.ro,true,false,none⟩,⟨6,.sl QC,.own .ro,false,false,none⟩]⟩
abbrev sh1_2:ES:=⟨[(1,.pt 1 []),(3,.v .str),(5,.pt 5 []),(6,.al 6 []),(16,.v Qj),(17,.v QA),(18,.v QA)],[⟨1,.st Qd,.ro,true,false,none⟩,⟨5,.st Qp,.ro,true,false,none⟩,⟨6,.sl QC,.own .ro,false,false,none⟩]⟩
abbrev sh0:ES:=⟨[(1,.pt 1 []),(3,.v .str),(16,.v Qj),(17,.v QA),(18,.v QA)],[⟨1,.st Qd,.ro,true,false,none⟩]⟩
abbrev sh0_0:ES:=⟨[(1,.pt 1 []),(3,.v .str)],[⟨1,.st Qd,.ro,true,false,none⟩]⟩
abbrev sh2:ES:=⟨[(1,.pt 1 []),(3,.v .str),(60,.v Qm),(61,.v QA),(62,.v QA)],[⟨1,.st Qd,.ro,true,false,none⟩]⟩
abbrev sh3:ES:=⟨[(3,.v .str),(96,.v Qe),(97,.v QA),(98,.v QA)],[]⟩
abbrev sh3_6:ES:=⟨[(3,.v .str)],[]⟩
def g1:GL rsh sh1:=λn m x kn kx=>l1 n x.1.2.1 x.1.2.2.2.2.1 x.1.2.2.2.2.2.1 x.1.2.2.2.2.2.2.1 x.1.2.2.2.2.2.2.2.1 x.1.2.2.2.2.2.2.2.2.1 x.2.1 x.2.2.1 (λy0=>kx 2 (sh1_2.enc (((()),x.1.2.1,(()),(()),x.1.2.2.2.2.1,x.1.2.2.2.2.2.1,x.1.2.2.2.2.2.2.1,()),(x.2.1,x.2.2.1,y0,())))) m x.1.2.2.2.2.2.2.2.2.2.1 x.2.2.2.1
def g0:GL rsh sh0:=λn m x kn kx=>l0 n x.1.2.2.1 x.1.2.2.2.1 x.2.1 (λy0=>kx 0 (sh0_0.enc (((()),y0,()),(x.2.1,())))) m x.1.2.1 x.1.2.2.2.2.1
def g2:GL rsh sh2:=λn m x kn kx=>l2 n x.1.2.2.1 x.1.2.2.2.1 x.2.1 (λy0=>kx 4 (sh0_0.enc (((()),y0,()),(x.2.1,())))) m x.1.2.1 x.1.2.2.2.2.1
def g3:GL rsh sh3:=λn m x kn kx=>l3 n x.1.2.1 x.1.2.2.1 (λy0=>kx 6 (sh3_6.enc ((y0,()),(())))) m x.1.1 x.1.2.2.2.1
def B:Bd:=⟨ash,rsh,[ff.E,cJ.E,eE.E,fu.E],⟨code,120,.nil,[(.tmp 2,.str,.ro)]⟩,[⟨1,sh1,g1⟩,⟨0,sh0,g0⟩,⟨2,sh2,g2⟩,⟨3,sh3,g3⟩]⟩
theorem u1:UO B 1 (.loop b1):=
 lu (.seq .nil (.seq Vl (.seq (.block (some [1,3,5,6,16,17,18,24,25,26]) (.seq .nil (.seq .nil Vg))) .nil))) [(0,[1,3]),(1,[1,3,16,17,18]),(2,[1,3,5,6,16,17,18])] [1,3,5,6,16,17,18,24,25,26] sh1 g1 mn
theorem u0:UO B 0 (.loop b0):=
 lu (.seq .nil (.seq Vl (.seq (.block (some [1,3,16,17,18]) (.seq .nil (.seq (.reg [(22,.own .ro)]) (.seq (.seq .nil (.block (some [1,3,5,6,16,17,18]) (.cut 1 [1,3,5,6,16,17,18,24,25,26]))) .nil)))) .nil))) [(0,[1,3])] [1,3,16,17,18] sh0 g0 (mc u1 mn)
theorem u2:UO B 2 (.loop b2):=
 lu (.seq .nil (.seq Vl (.seq (.block (some [1,3,60,61,62]) (.seq .nil (.seq Vf (.seq .nil Vg)))) .nil))) [(4,[1,3])] [1,3,60,61,62] sh2 g2 mn
theorem u3:UO B 3 (.loop b3):=
 lu (.seq .nil (.seq Vl (.seq (.block (some [3,96,97,98]) (.seq .nil W3)) .nil))) [(6,[3])] [3,96,97,98] sh3 g3 mn
def E:En:=⟨148,λn=>⟨B.a,B.r,λv=>F n v.1⟩,cD B (.seq .nil (.seq .nil (.seq (.seq .nil (.block (some [1,3]) (.cut 0 [1,3,16,17,18]))) (.seq (.seq .nil (.block (some [1,3]) (.cut 2 [1,3,60,61,62]))) (.seq (.seq .nil (.block (some [3]) (.cut 3 [3,96,97,98]))) W4))))) Tryz.func148 (mc u0 (mc u2 (mc u3 mn)))⟩
end da
namespace aG
def l0 (n:Nat)(s24:Wu)(eq5:Wj->Option Bool)(t6:Wu)(t7:Int)(K0:Unit->Option Bool):Nat->Int->Option Bool
 |0,_=>none
 |k+1,t8=>
 if decide (t8<t7)=true then
 if(0:Int)<=t8/\t8<(Jr t6:Int)then
 if(0:Int)<=t8/\t8<(Jr s24:Int)then
 (eq5 (Jv t6 (Jt t8) (Jq,[]),Jv s24 (Jt t8) (Jq,[]),())).bind λr9=>
 if(!r9)=true then
 some false
 else
 l0 n s24 eq5 t6 t7 K0 k (Ju.wrap (t8+1))
 else
 none
 else
 none
 else
 K0 ()
def F (n:Nat)(s11:Wu)(s22:Wu)(eq3:Wj->Option Bool):Option Bool:=
 if(!decide ((Jr s11:Int)=(Jr s22:Int)))=true then
 some false
 else
 l0 n s22 eq3 s11 (Jr s11:Int) (λ_=>
 some true) n 0
def code:=Tryz.f207.body.getD .skip
abbrev ash:List ASh:=[.ro Qj,.ro Qj,.fn [.st Qp,.st Qp] .bool]
abbrev rsh:List RSh:=[.ro .bool]
def b0:=JA (JA (Jy (JA (Jy (Jy code)))))
abbrev sh0:ES:=⟨[(1,.v Qj),(2,.clo [.st Qp,.st Qp] .bool),(15,.v Qj),(16,.v QA),(17,.v QA)],[]⟩
abbrev sh0_0:ES:=⟨[],[]⟩
def g0:GL rsh sh0:=λn m x kn kx=>l0 n x.1.1 x.1.2.1 x.1.2.2.1 x.1.2.2.2.1 (λ_=>kx 0 (sh0_0.enc ((()),(())))) m x.1.2.2.2.2.1
def B:Bd:=⟨ash,rsh,[],⟨code,32,.nil,[(.tmp 6,.bool,.ro)]⟩,[⟨0,sh0,g0⟩]⟩
theorem u0:UO B 0 (.loop b0):=
 lu (.seq .nil (.seq Vl (.seq (.block (some [1,2,15,16,17]) W6) .nil))) [(0,[])] [1,2,15,16,17] sh0 g0 mn
def E:En:=⟨207,λn=>⟨B.a,B.r,λv=>F n v.1 v.2.1 v.2.2.1⟩,cD B (.seq .nil (.seq Vf (.seq (.seq .nil (.block (some []) (.cut 0 [1,2,15,16,17]))) Vm))) Tryz.func207 (mc u0 mn)⟩
end aG
namespace br
def l0 (n:Nat)(s24:WE)(eq5:Wp->Option Bool)(t6:WE)(t7:Int)(K0:Unit->Option Bool):Nat->Int->Option Bool
 |0,_=>none
 |k+1,t8=>
 if decide (t8<t7)=true then
 if(0:Int)<=t8/\t8<(Jr t6:Int)then
 if(0:Int)<=t8/\t8<(Jr s24:Int)then
 (eq5 (Jv t6 (Jt t8) (Jq,[]),Jv s24 (Jt t8) (Jq,[]),())).bind λr9=>
 if(!r9)=true then
 some false
 else
 l0 n s24 eq5 t6 t7 K0 k (Ju.wrap (t8+1))
 else
 none
 else
 none
 else
 K0 ()
def F (n:Nat)(s11:WE)(s22:WE)(eq3:Wp->Option Bool):Option Bool:=
 if(!decide ((Jr s11:Int)=(Jr s22:Int)))=true then
 some false
 else
 l0 n s22 eq3 s11 (Jr s11:Int) (λ_=>
 some true) n 0
def code:=Tryz.f209.body.getD .skip
abbrev ash:List ASh:=[.ro Qv,.ro Qv,.fn [.st Qx,.st Qx] .bool]
abbrev rsh:List RSh:=[.ro .bool]
def b0:=JA (JA (Jy (JA (Jy (Jy code)))))
abbrev sh0:ES:=⟨[(1,.v Qv),(2,.clo [.st Qx,.st Qx] .bool),(15,.v Qv),(16,.v QA),(17,.v QA)],[]⟩
abbrev sh0_0:ES:=⟨[],[]⟩
def g0:GL rsh sh0:=λn m x kn kx=>l0 n x.1.1 x.1.2.1 x.1.2.2.1 x.1.2.2.2.1 (λ_=>kx 0 (sh0_0.enc ((()),(())))) m x.1.2.2.2.2.1
def B:Bd:=⟨ash,rsh,[],⟨code,32,.nil,[(.tmp 6,.bool,.ro)]⟩,[⟨0,sh0,g0⟩]⟩
theorem u0:UO B 0 (.loop b0):=
 lu (.seq .nil (.seq Vl (.seq (.block (some [1,2,15,16,17]) W6) .nil))) [(0,[])] [1,2,15,16,17] sh0 g0 mn
def E:En:=⟨209,λn=>⟨B.a,B.r,λv=>F n v.1 v.2.1 v.2.2.1⟩,cD B (.seq .nil (.seq Vf (.seq (.seq .nil (.block (some []) (.cut 0 [1,2,15,16,17]))) Vm))) Tryz.func209 (mc u0 mn)⟩
end br
namespace bA
def l0 (n:Nat)(s13:WL)(s24:WL)(t5:Int)(K0:Unit->Option Bool):Nat->Int->Option Bool
 |0,_=>none
 |k+1,t6=>
 if decide (t6<t5)=true then
 if(0:Int)<=t6/\t6<(Jr s13:Int)then
 if(0:Int)<=t6/\t6<(Jr s24:Int)then
 if(!(Km (Jv s13 (Jt t6) Jq) (Jv s24 (Jt t6) Jq)))=true then
 some false
 else
 l0 n s13 s24 t5 K0 k (Ju.wrap (t6+1))
 else
 none
 else
 none
 else
 K0 ()
def F (n:Nat)(s11:WL)(s22:WL):Option Bool:=
 if(!decide ((Jr s11:Int)=(Jr s22:Int)))=true then
 some false
 else
 l0 n s11 s22 (Jr s11:Int) (λ_=>
 some true) n 0
def code:=Tryz.f211.body.getD .skip
abbrev ash:List ASh:=[.ro Qz,.ro Qz]
abbrev rsh:List RSh:=[.ro .bool]
def b0:=JA (JA (Jy (JA (Jy (Jy code)))))
abbrev sh0:ES:=⟨[(0,.v Qz),(1,.v Qz),(12,.v QA),(13,.v QA)],[]⟩
abbrev sh0_0:ES:=⟨[],[]⟩
def g0:GL rsh sh0:=λn m x kn kx=>l0 n x.1.1 x.1.2.1 x.1.2.2.1 (λ_=>kx 0 (sh0_0.enc ((()),(())))) m x.1.2.2.2.1
def B:Bd:=⟨ash,rsh,[],⟨code,26,.nil,[(.tmp 4,.bool,.ro)]⟩,[⟨0,sh0,g0⟩]⟩
theorem u0:UO B 0 (.loop b0):=
 lu (.seq .nil (.seq Vl (.seq (.block (some [0,1,12,13]) Va) .nil))) [(0,[])] [0,1,12,13] sh0 g0 mn
def E:En:=⟨211,λn=>⟨B.a,B.r,λv=>F n v.1 v.2.1⟩,cD B (.seq .nil (.seq Vf (.seq (.seq .nil (.block (some []) (.cut 0 [0,1,12,13]))) Vm))) Tryz.func211 (mc u0 mn)⟩
end bA
namespace eT
def F (n:Nat)(c1:WH)(d2:WH):Option Bool:=
 if(Km c1.1 d2.1)=true then
 (bA.F n c1.2 d2.2).bind λr3=>
 some r3
 else
 some false
def code:=Tryz.f210.body.getD .skip
abbrev ash:List ASh:=[.ro Qw,.ro Qw]
abbrev rsh:List RSh:=[.ro .bool]
def B:Bd:=⟨ash,rsh,[bA.E],⟨code,17,.nil,[(.tmp 4,.bool,.ro)]⟩,[]⟩
def E:En:=⟨210,λn=>⟨B.a,B.r,λv=>F n v.1 v.2.1⟩,cD B Vk Tryz.func210 mn⟩
end eT
namespace fD
def F (n:Nat)(x1:Ww)(y2:Ww):Option Bool:=
 if(Km x1.1 y2.1)=true then
 (br.F n x1.2 y2.2 (λa3=>(eT.F n a3.1 a3.2.1).bind some)).bind λr4=>
 some r4
 else
 some false
def code:=Tryz.f208.body.getD .skip
abbrev ash:List ASh:=[.ro Ql,.ro Ql]
abbrev rsh:List RSh:=[.ro .bool]
def B:Bd:=⟨ash,rsh,[br.E,eT.E],⟨code,17,.nil,[(.tmp 4,.bool,.ro)]⟩,[]⟩
def E:En:=⟨208,λn=>⟨B.a,B.r,λv=>F n v.1 v.2.1⟩,cD B Vk Tryz.func208 mn⟩
end fD
namespace aL
def l0 (n:Nat)(s24:Wy)(eq5:Wm->Option Bool)(t6:Wy)(t7:Int)(K0:Unit->Option Bool):Nat->Int->Option Bool
 |0,_=>none
 |k+1,t8=>
 if decide (t8<t7)=true then
 if(0:Int)<=t8/\t8<(Jr t6:Int)then
 if(0:Int)<=t8/\t8<(Jr s24:Int)then
 (eq5 (Jv t6 (Jt t8) (Jq,([],0)),Jv s24 (Jt t8) (Jq,([],0)),())).bind λr9=>
 if(!r9)=true then
 some false
 else
 l0 n s24 eq5 t6 t7 K0 k (Ju.wrap (t8+1))
 else
 none
 else
 none
 else
 K0 ()
def F (n:Nat)(s11:Wy)(s22:Wy)(eq3:Wm->Option Bool):Option Bool:=
 if(!decide ((Jr s11:Int)=(Jr s22:Int)))=true then
 some false
 else
 l0 n s22 eq3 s11 (Jr s11:Int) (λ_=>
 some true) n 0
def code:=Tryz.f212.body.getD .skip
abbrev ash:List ASh:=[.ro Qm,.ro Qm,.fn [.st Qt,.st Qt] .bool]
abbrev rsh:List RSh:=[.ro .bool]
def b0:=JA (JA (Jy (JA (Jy (Jy code)))))
abbrev sh0:ES:=⟨[(1,.v Qm),(2,.clo [.st Qt,.st Qt] .bool),(15,.v Qm),(16,.v QA),(17,.v QA)],[]⟩
abbrev sh0_0:ES:=⟨[],[]⟩
def g0:GL rsh sh0:=λn m x kn kx=>l0 n x.1.1 x.1.2.1 x.1.2.2.1 x.1.2.2.2.1 (λ_=>kx 0 (sh0_0.enc ((()),(())))) m x.1.2.2.2.2.1
def B:Bd:=⟨ash,rsh,[],⟨code,32,.nil,[(.tmp 6,.bool,.ro)]⟩,[⟨0,sh0,g0⟩]⟩
theorem u0:UO B 0 (.loop b0):=
 lu (.seq .nil (.seq Vl (.seq (.block (some [1,2,15,16,17]) W6) .nil))) [(0,[])] [1,2,15,16,17] sh0 g0 mn
def E:En:=⟨212,λn=>⟨B.a,B.r,λv=>F n v.1 v.2.1 v.2.2.1⟩,cD B (.seq .nil (.seq Vf (.seq (.seq .nil (.block (some []) (.cut 0 [1,2,15,16,17]))) Vm))) Tryz.func212 (mc u0 mn)⟩
end aL
namespace fH
def F (n:Nat)(x1:WC)(y2:WC):Option Bool:=
 if(Km x1.1 y2.1)=true then
 if(decide (x1.2.2=y2.2.2))=true then
 (bA.F n x1.2.1 y2.2.1).bind λr3=>
 some r3
 else
 some false
 else
 some false
def code:=Tryz.f213.body.getD .skip
abbrev ash:List ASh:=[.ro Qq,.ro Qq]
abbrev rsh:List RSh:=[.ro .bool]
def B:Bd:=⟨ash,rsh,[bA.E],⟨code,24,.nil,[(.tmp 4,.bool,.ro)]⟩,[]⟩
def E:En:=⟨213,λn=>⟨B.a,B.r,λv=>F n v.1 v.2.1⟩,cD B Vk Tryz.func213 mn⟩
end fH
namespace bm
def l0 (n:Nat)(s24:Wh)(eq5:Wa->Option Bool)(t6:Wh)(t7:Int)(K0:Unit->Option Bool):Nat->Int->Option Bool
 |0,_=>none
 |k+1,t8=>
 if decide (t8<t7)=true then
 if(0:Int)<=t8/\t8<(Jr t6:Int)then
 if(0:Int)<=t8/\t8<(Jr s24:Int)then
 (eq5 (Jv t6 (Jt t8) ([],((0,(Jq,[])),[])),Jv s24 (Jt t8) ([],((0,(Jq,[])),[])),())).bind λr9=>
 if(!r9)=true then
 some false
 else
 l0 n s24 eq5 t6 t7 K0 k (Ju.wrap (t8+1))
 else
 none
 else
 none
 else
 K0 ()
def F (n:Nat)(s11:Wh)(s22:Wh)(eq3:Wa->Option Bool):Option Bool:=
 if(!decide ((Jr s11:Int)=(Jr s22:Int)))=true then
 some false
 else
 l0 n s22 eq3 s11 (Jr s11:Int) (λ_=>
 some true) n 0
def code:=Tryz.f214.body.getD .skip
abbrev ash:List ASh:=[.ro Qe,.ro Qe,.fn [.st Qg,.st Qg] .bool]
abbrev rsh:List RSh:=[.ro .bool]
def b0:=JA (JA (Jy (JA (Jy (Jy code)))))
abbrev sh0:ES:=⟨[(1,.v Qe),(2,.clo [.st Qg,.st Qg] .bool),(15,.v Qe),(16,.v QA),(17,.v QA)],[]⟩
abbrev sh0_0:ES:=⟨[],[]⟩
def g0:GL rsh sh0:=λn m x kn kx=>l0 n x.1.1 x.1.2.1 x.1.2.2.1 x.1.2.2.2.1 (λ_=>kx 0 (sh0_0.enc ((()),(())))) m x.1.2.2.2.2.1
def B:Bd:=⟨ash,rsh,[],⟨code,32,.nil,[(.tmp 6,.bool,.ro)]⟩,[⟨0,sh0,g0⟩]⟩
theorem u0:UO B 0 (.loop b0):=
 lu (.seq .nil (.seq Vl (.seq (.block (some [1,2,15,16,17]) W6) .nil))) [(0,[])] [1,2,15,16,17] sh0 g0 mn
def E:En:=⟨214,λn=>⟨B.a,B.r,λv=>F n v.1 v.2.1 v.2.2.1⟩,cD B (.seq .nil (.seq Vf (.seq (.seq .nil (.block (some []) (.cut 0 [1,2,15,16,17]))) Vm))) Tryz.func214 (mc u0 mn)⟩
end bm
namespace ci
def l0 (n:Nat)(s13:WN)(s24:WN)(t5:Int)(K0:Unit->Option Bool):Nat->Int->Option Bool
 |0,_=>none
 |k+1,t6=>
 if decide (t6<t5)=true then
 if(0:Int)<=t6/\t6<(Jr s13:Int)then
 if(0:Int)<=t6/\t6<(Jr s24:Int)then
 if(!decide ((Jv s13 (Jt t6) 0)=(Jv s24 (Jt t6) 0)))=true then
 some false
 else
 l0 n s13 s24 t5 K0 k (Ju.wrap (t6+1))
 else
 none
 else
 none
 else
 K0 ()
def F (n:Nat)(s11:WN)(s22:WN):Option Bool:=
 if(!decide ((Jr s11:Int)=(Jr s22:Int)))=true then
 some false
 else
 l0 n s11 s22 (Jr s11:Int) (λ_=>
 some true) n 0
def code:=Tryz.f166.body.getD .skip
abbrev ash:List ASh:=[.ro Qy,.ro Qy]
abbrev rsh:List RSh:=[.ro .bool]
def b0:=JA (JA (Jy (JA (Jy (Jy code)))))
abbrev sh0:ES:=⟨[(0,.v Qy),(1,.v Qy),(12,.v QA),(13,.v QA)],[]⟩
abbrev sh0_0:ES:=⟨[],[]⟩
def g0:GL rsh sh0:=λn m x kn kx=>l0 n x.1.1 x.1.2.1 x.1.2.2.1 (λ_=>kx 0 (sh0_0.enc ((()),(())))) m x.1.2.2.2.1
def B:Bd:=⟨ash,rsh,[],⟨code,26,.nil,[(.tmp 4,.bool,.ro)]⟩,[⟨0,sh0,g0⟩]⟩
theorem u0:UO B 0 (.loop b0):=
 lu (.seq .nil (.seq Vl (.seq (.block (some [0,1,12,13]) Va) .nil))) [(0,[])] [0,1,12,13] sh0 g0 mn
def E:En:=⟨166,λn=>⟨B.a,B.r,λv=>F n v.1 v.2.1⟩,cD B (.seq .nil (.seq Vf (.seq (.seq .nil (.block (some []) (.cut 0 [0,1,12,13]))) Vm))) Tryz.func166 (mc u0 mn)⟩
end ci
namespace gY
def F (n:Nat)(a1:WG)(b2:WG):Option Bool:=
 if(decide (a1.1=b2.1))=true then
 if(Km a1.2.1 b2.2.1)=true then
 (ci.F n a1.2.2 b2.2.2).bind λr3=>
 some r3
 else
 some false
 else
 some false
def code:=Tryz.f162.body.getD .skip
abbrev ash:List ASh:=[.ro Qn,.ro Qn]
abbrev rsh:List RSh:=[.ro .bool]
def B:Bd:=⟨ash,rsh,[ci.E],⟨code,24,.nil,[(.tmp 4,.bool,.ro)]⟩,[]⟩
def E:En:=⟨162,λn=>⟨B.a,B.r,λv=>F n v.1 v.2.1⟩,cD B Vk Tryz.func162 mn⟩
end gY
namespace bw
def l0 (n:Nat)(s24:WD)(eq5:Wq->Option Bool)(t6:WD)(t7:Int)(K0:Unit->Option Bool):Nat->Int->Option Bool
 |0,_=>none
 |k+1,t8=>
 if decide (t8<t7)=true then
 if(0:Int)<=t8/\t8<(Jr t6:Int)then
 if(0:Int)<=t8/\t8<(Jr s24:Int)then
 (eq5 (Jv t6 (Jt t8) (0,(Jq,[])),Jv s24 (Jt t8) (0,(Jq,[])),())).bind λr9=>
 if(!r9)=true then
 some false
 else
 l0 n s24 eq5 t6 t7 K0 k (Ju.wrap (t8+1))
 else
 none
 else
 none
 else
 K0 ()
def F (n:Nat)(s11:WD)(s22:WD)(eq3:Wq->Option Bool):Option Bool:=
 if(!decide ((Jr s11:Int)=(Jr s22:Int)))=true then
 some false
 else
 l0 n s22 eq3 s11 (Jr s11:Int) (λ_=>
 some true) n 0
def code:=Tryz.f163.body.getD .skip
abbrev ash:List ASh:=[.ro Qk,.ro Qk,.fn [.st Qr,.st Qr] .bool]
abbrev rsh:List RSh:=[.ro .bool]
def b0:=JA (JA (Jy (JA (Jy (Jy code)))))
abbrev sh0:ES:=⟨[(1,.v Qk),(2,.clo [.st Qr,.st Qr] .bool),(15,.v Qk),(16,.v QA),(17,.v QA)],[]⟩
abbrev sh0_0:ES:=⟨[],[]⟩
def g0:GL rsh sh0:=λn m x kn kx=>l0 n x.1.1 x.1.2.1 x.1.2.2.1 x.1.2.2.2.1 (λ_=>kx 0 (sh0_0.enc ((()),(())))) m x.1.2.2.2.2.1
def B:Bd:=⟨ash,rsh,[],⟨code,32,.nil,[(.tmp 6,.bool,.ro)]⟩,[⟨0,sh0,g0⟩]⟩
theorem u0:UO B 0 (.loop b0):=
 lu (.seq .nil (.seq Vl (.seq (.block (some [1,2,15,16,17]) W6) .nil))) [(0,[])] [1,2,15,16,17] sh0 g0 mn
def E:En:=⟨163,λn=>⟨B.a,B.r,λv=>F n v.1 v.2.1 v.2.2.1⟩,cD B (.seq .nil (.seq Vf (.seq (.seq .nil (.block (some []) (.cut 0 [1,2,15,16,17]))) Vm))) Tryz.func163 (mc u0 mn)⟩
end bw
namespace bv
def l0 (n:Nat)(s24:WD)(eq5:Wq->Option Bool)(t6:WD)(t7:Int)(K0:Unit->Option Bool):Nat->Int->Option Bool
 |0,_=>none
 |k+1,t8=>
 if decide (t8<t7)=true then
 if(0:Int)<=t8/\t8<(Jr t6:Int)then
 if(0:Int)<=t8/\t8<(Jr s24:Int)then
 (eq5 (Jv t6 (Jt t8) (0,(Jq,[])),Jv s24 (Jt t8) (0,(Jq,[])),())).bind λr9=>
 if(!r9)=true then
 some false
 else
 l0 n s24 eq5 t6 t7 K0 k (Ju.wrap (t8+1))
 else
 none
 else
 none
 else
 K0 ()
def F (n:Nat)(s11:WD)(s22:WD)(eq3:Wq->Option Bool):Option Bool:=
 if(!decide ((Jr s11:Int)=(Jr s22:Int)))=true then
 some false
 else
 l0 n s22 eq3 s11 (Jr s11:Int) (λ_=>
 some true) n 0
def code:=Tryz.f164.body.getD .skip
abbrev ash:List ASh:=[.ro Qk,.ro Qk,.fn [.st Qr,.st Qr] .bool]
abbrev rsh:List RSh:=[.ro .bool]
def b0:=JA (JA (Jy (JA (Jy (Jy code)))))
abbrev sh0:ES:=⟨[(1,.v Qk),(2,.clo [.st Qr,.st Qr] .bool),(15,.v Qk),(16,.v QA),(17,.v QA)],[]⟩
abbrev sh0_0:ES:=⟨[],[]⟩
def g0:GL rsh sh0:=λn m x kn kx=>l0 n x.1.1 x.1.2.1 x.1.2.2.1 x.1.2.2.2.1 (λ_=>kx 0 (sh0_0.enc ((()),(())))) m x.1.2.2.2.2.1
def B:Bd:=⟨ash,rsh,[],⟨code,32,.nil,[(.tmp 6,.bool,.ro)]⟩,[⟨0,sh0,g0⟩]⟩
theorem u0:UO B 0 (.loop b0):=
 lu (.seq .nil (.seq Vl (.seq (.block (some [1,2,15,16,17]) W6) .nil))) [(0,[])] [1,2,15,16,17] sh0 g0 mn
def E:En:=⟨164,λn=>⟨B.a,B.r,λv=>F n v.1 v.2.1 v.2.2.1⟩,cD B (.seq .nil (.seq Vf (.seq (.seq .nil (.block (some []) (.cut 0 [1,2,15,16,17]))) Vm))) Tryz.func164 (mc u0 mn)⟩
end bv
namespace fF
def F (n:Nat)(x1:WG)(y2:WG):Option Bool:=
 if(decide (x1.1=y2.1))=true then
 if(Km x1.2.1 y2.2.1)=true then
 (ci.F n x1.2.2 y2.2.2).bind λr3=>
 some r3
 else
 some false
 else
 some false
def code:=Tryz.f165.body.getD .skip
abbrev ash:List ASh:=[.ro Qn,.ro Qn]
abbrev rsh:List RSh:=[.ro .bool]
def B:Bd:=⟨ash,rsh,[ci.E],⟨code,24,.nil,[(.tmp 4,.bool,.ro)]⟩,[]⟩
def E:En:=⟨165,λn=>⟨B.a,B.r,λv=>F n v.1 v.2.1⟩,cD B Vk Tryz.func165 mn⟩
end fF
namespace fg
def F (n:Nat)(a1:Wk)(b2:Wk):Option Bool:=
 (gY.F n a1.2.1 b2.2.1).bind λr3=>
 if r3=true then
 (bw.F n a1.2.2 b2.2.2 (λa4=>(gY.F n a4.1 a4.2.1).bind some)).bind λr5=>
 if r5=true then
 (bv.F n a1.1 b2.1 (λa6=>(fF.F n a6.1 a6.2.1).bind some)).bind λr7=>
 some r7
 else
 some false
 else
 some false
def code:=Tryz.f88.body.getD .skip
abbrev ash:List ASh:=[.ro Qf,.ro Qf]
abbrev rsh:List RSh:=[.ro .bool]
def B:Bd:=⟨ash,rsh,[gY.E,bw.E,bv.E,fF.E],⟨code,24,.nil,[(.tmp 4,.bool,.ro)]⟩,[]⟩
def E:En:=⟨88,λn=>⟨B.a,B.r,λv=>F n v.1 v.2.1⟩,cD B Vk Tryz.func88 mn⟩
end fg
namespace j9
def F (n:Nat)(a1:Wb)(b2:Wb):Option Bool:=
 (aG.F n a1.1 b2.1 (λa3=>(fD.F n a3.1 a3.2.1).bind some)).bind λr4=>
 (aL.F n a1.2.1 b2.2.1 (λa5=>(fH.F n a5.1 a5.2.1).bind some)).bind λr6=>
 if r4=true then
 if r6=true then
 (bm.F n a1.2.2 b2.2.2 (λa7=>(fg.F n a7.1 a7.2.1).bind some)).bind λr8=>
 some r8
 else
 some false
 else
 some false
def code:=Tryz.f149.body.getD .skip
abbrev ash:List ASh:=[.ro Qc,.ro Qc]
abbrev rsh:List RSh:=[.ro .bool]
def B:Bd:=⟨ash,rsh,[fg.E,aG.E,fD.E,aL.E,fH.E,bm.E],⟨code,28,.nil,[(.tmp 4,.bool,.ro)]⟩,[]⟩
def E:En:=⟨149,λn=>⟨B.a,B.r,λv=>F n v.1 v.2.1⟩,cD B Vd Tryz.func149 mn⟩
end j9
namespace jF
def F (n:Nat)(p1:Wb):Option Bool:=
 (da.F n p1).bind λr2=>
 (dy.F n r2).bind λr3=>
 if(decide (r3.2.2=0))=true then
 (j9.F n p1 r3.1).bind λr4=>
 some r4
 else
 some false
def code:=Tryz.f70.body.getD .skip
abbrev ash:List ASh:=[.ro Qc]
abbrev rsh:List RSh:=[.ro .bool]
def B:Bd:=⟨ash,rsh,[dy.E,da.E,j9.E],⟨code,20,.nil,[(.tmp 2,.bool,.ro)]⟩,[]⟩
def E:En:=⟨70,λn=>⟨B.a,B.r,λv=>F n v.1⟩,cD B Vh Tryz.func70 mn⟩
end jF
namespace ch
def l1 (n:Nat)(t8:Wu)(t9:Int)(t10:Int)(t11:WE)(t12:Int)(t14:Wb)(t15:Wb)(t16:Wb)(t17:Ww)(K2:WE->Option Wb):Nat->Int->WE->Option Wb
 |0,_,_=>none
 |k+1,t13,t18=>
 if decide (t13<t12)=true then
 if(0:Int)<=t13/\t13<(Jr t11:Int)then
 if Jr ([]:WL)+Jr ((Jv t11 (Jt t13) (Jq,[])).2:WL)<=aT then
 if Jr t18+Jr ([((Jv t11 (Jt t13) (Jq,[])).1,[]++((Jv t11 (Jt t13) (Jq,[])).2))]:WE)<=aT then
 l1 n t8 t9 t10 t11 t12 t14 t15 t16 t17 K2 k (Ju.wrap (t13+1)) (t18++[((Jv t11 (Jt t13) (Jq,[])).1,[]++((Jv t11 (Jt t13) (Jq,[])).2))])
 else
 none
 else
 none
 else
 none
 else
 K2 t18
def l0 (n:Nat)(t2:Wu)(t3:Int)(t5:Wb)(t6:Wb)(K0:Wb->Option Wb):Nat->Int->Wb->Option Wb
 |0,_,_=>none
 |k+1,t4,t7=>
 if decide (t4<t3)=true then
 if(0:Int)<=t4/\t4<(Jr t2:Int)then
 l1 n t2 t3 t4 ((Jv t2 (Jt t4) (Jq,[])).2) (Jr ((Jv t2 (Jt t4) (Jq,[])).2):Int) t5 t6 t7 (Jv t2 (Jt t4) (Jq,[])) (λt19=>
 if Jr t7.1+Jr ([((Jv t2 (Jt t4) (Jq,[])).1,t19)]:Wu)<=aT then
 l0 n t2 t3 t5 t6 K0 k (Ju.wrap (t4+1)) (t7.1++[((Jv t2 (Jt t4) (Jq,[])).1,t19)],t7.2)
 else
 none) n 0 []
 else
 none
 else
 K0 t7
def l2 (n:Nat)(t21:Wy)(t22:Int)(t24:Wb)(t25:Wb)(K4:Wb->Option Wb):Nat->Int->Wb->Option Wb
 |0,_,_=>none
 |k+1,t23,t26=>
 if decide (t23<t22)=true then
 if(0:Int)<=t23/\t23<(Jr t21:Int)then
 if Jr ([]:WL)+Jr (((Jv t21 (Jt t23) (Jq,([],0))).2).1:WL)<=aT then
 if Jr t26.2.1+Jr ([((Jv t21 (Jt t23) (Jq,([],0))).1,([]++(((Jv t21 (Jt t23) (Jq,([],0))).2).1),((Jv t21 (Jt t23) (Jq,([],0))).2).2))]:Wy)<=aT then
 l2 n t21 t22 t24 t25 K4 k (Ju.wrap (t23+1)) (t26.1,(t26.2.1++[((Jv t21 (Jt t23) (Jq,([],0))).1,([]++(((Jv t21 (Jt t23) (Jq,([],0))).2).1),((Jv t21 (Jt t23) (Jq,([],0))).2).2))],t26.2.2))
 else
 none
 else
 none
 else
 none
 else
 K4 t26
def l3 (n:Nat)(t28:Wh)(t29:Int)(t31:Wb)(K6:Wb->Option Wb):Nat->Int->Wb->Option Wb
 |0,_,_=>none
 |k+1,t30,t32=>
 if decide (t30<t29)=true then
 if(0:Int)<=t30/\t30<(Jr t28:Int)then
 (gj.F n (Jv t28 (Jt t30) ([],((0,(Jq,[])),[])))).bind λr33=>
 if Jr t32.2.2+Jr [r33]<=aT then
 l3 n t28 t29 t31 K6 k (Ju.wrap (t30+1)) (t32.1,(t32.2.1,t32.2.2++[r33]))
 else
 none
 else
 none
 else
 K6 t32
def F (n:Nat)(t1:Wb):Option Wb:=
 l0 n t1.1 (Jr t1.1:Int) t1 ([],([],[])) (λt20=>
 l2 n t1.2.1 (Jr t1.2.1:Int) t1 ([],([],[])) (λt27=>
 l3 n t1.2.2 (Jr t1.2.2:Int) ([],([],[])) (λt34=>
 some t34) n 0 t27) n 0 t20) n 0 ([],([],[]))
def code:=Tryz.f74.body.getD .skip
abbrev ash:List ASh:=[.ro Qc]
abbrev rsh:List RSh:=[.own Qc QD]
def b0:=JA (JA (Jy (JA (Jy (Jy code)))))
def b2:=JA (JA (Jy (JA (Jy (Jy (Jy code))))))
def b3:=JA (JA (Jy (JA (Jy (Jy (Jy (Jy code)))))))
def b1:=JA (JA (Jy (JA (Jy (Jy (JA (JA (Jy (Jy b0)))))))))
abbrev sh1:ES:=⟨[(1,.pt 1 []),(2,.pt 2 []),(3,.pt 3 []),(5,.pt 5 []),(6,.al 6 []),(15,.v Qj),(16,.v QA),(17,.v QA),(23,.v Qv),(24,.v QA),(25,.v QA)],[⟨1,.st Qd,.ro,true,false,none⟩,⟨2,.st Qd,.pr QP QE,true,false,none⟩,⟨3,.st Qd,.pr QP QE,true,false,none⟩,⟨5,.st Qp,.ro,true,false,none⟩,⟨6,.sl Qw,.own QX,false,false,none⟩]⟩
abbrev sh1_2:ES:=⟨[(1,.pt 1 []),(2,.pt 2 []),(3,.pt 3 []),(5,.pt 5 []),(6,.al 6 []),(15,.v Qj),(16,.v QA),(17,.v QA)],[⟨1,.st Qd,.ro,true,false,none⟩,⟨2,.st Qd,.pr QP QE,true,false,none⟩,⟨3,.st Qd,.pr QP QE,true,false,none⟩,⟨5,.st Qp,.ro,true,false,none⟩,⟨6,.sl Qw,.own QX,false,false,none⟩]⟩
abbrev sh0:ES:=⟨[(1,.pt 1 []),(2,.pt 2 []),(3,.pt 3 []),(15,.v Qj),(16,.v QA),(17,.v QA)],[⟨1,.st Qd,.ro,true,false,none⟩,⟨2,.st Qd,.pr QP QE,true,false,none⟩,⟨3,.st Qd,.pr QP QE,true,false,none⟩]⟩
abbrev sh0_0:ES:=⟨[(1,.pt 1 []),(2,.pt 2 []),(3,.pt 3 [])],[⟨1,.st Qd,.ro,true,false,none⟩,⟨2,.st Qd,.pr QP QE,true,false,none⟩,⟨3,.st Qd,.pr QP QE,true,false,none⟩]⟩
abbrev sh2:ES:=⟨[(1,.pt 1 []),(2,.pt 2 []),(3,.pt 3 []),(51,.v Qm),(52,.v QA),(53,.v QA)],[⟨1,.st Qd,.ro,true,false,none⟩,⟨2,.st Qd,.pr QP QE,true,false,none⟩,⟨3,.st Qd,.pr QP QE,true,false,none⟩]⟩
abbrev sh3:ES:=⟨[(2,.pt 2 []),(3,.pt 3 []),(70,.v Qe),(71,.v QA),(72,.v QA)],[⟨2,.st Qd,.pr QP QE,true,false,none⟩,⟨3,.st Qd,.pr QP QE,true,false,none⟩]⟩
abbrev sh3_6:ES:=⟨[(2,.pt 2 []),(3,.pt 3 [])],[⟨2,.st Qd,.pr QP QE,true,false,none⟩,⟨3,.st Qd,.pr QP QE,true,false,none⟩]⟩
def g1:GL rsh sh1:=λn m x kn kx=>l1 n x.1.2.2.2.2.2.1 x.1.2.2.2.2.2.2.1 x.1.2.2.2.2.2.2.2.1 x.1.2.2.2.2.2.2.2.2.1 x.1.2.2.2.2.2.2.2.2.2.1 x.2.1 x.2.2.1 x.2.2.2.1 x.2.2.2.2.1 (λy0=>kx 2 (sh1_2.enc (((()),(()),(()),(()),(()),x.1.2.2.2.2.2.1,x.1.2.2.2.2.2.2.1,x.1.2.2.2.2.2.2.2.1,()),(x.2.1,x.2.2.1,x.2.2.2.1,x.2.2.2.2.1,y0,())))) m x.1.2.2.2.2.2.2.2.2.2.2.1 x.2.2.2.2.2.1
def g0:GL rsh sh0:=λn m x kn kx=>l0 n x.1.2.2.2.1 x.1.2.2.2.2.1 x.2.1 x.2.2.1 (λy0=>kx 0 (sh0_0.enc (((()),(()),(()),()),(x.2.1,x.2.2.1,y0,())))) m x.1.2.2.2.2.2.1 x.2.2.2.1
def g2:GL rsh sh2:=λn m x kn kx=>l2 n x.1.2.2.2.1 x.1.2.2.2.2.1 x.2.1 x.2.2.1 (λy0=>kx 4 (sh0_0.enc (((()),(()),(()),()),(x.2.1,x.2.2.1,y0,())))) m x.1.2.2.2.2.2.1 x.2.2.2.1
def g3:GL rsh sh3:=λn m x kn kx=>l3 n x.1.2.2.1 x.1.2.2.2.1 x.2.1 (λy0=>kx 6 (sh3_6.enc (((()),(()),()),(x.2.1,y0,())))) m x.1.2.2.2.2.1 x.2.2.1
def B:Bd:=⟨ash,rsh,[gj.E],⟨code,85,.nil,[(.cell 2 53,.st Qd,.pr QP QE)]⟩,[⟨1,sh1,g1⟩,⟨0,sh0,g0⟩,⟨2,sh2,g2⟩,⟨3,sh3,g3⟩]⟩
theorem u1:UO B 1 (.loop b1):=
 lu (.seq .nil (.seq Vl (.seq (.block (some [1,2,3,5,6,15,16,17,23,24,25]) (.seq .nil (.reg [(32,.own .ro),(36,.pr .ro QZ),(37,.own QX)]))) .nil))) [(0,[1,2,3]),(1,[1,2,3,15,16,17]),(2,[1,2,3,5,6,15,16,17])] [1,2,3,5,6,15,16,17,23,24,25] sh1 g1 mn
theorem u0:UO B 0 (.loop b0):=
 lu (.seq .nil (.seq Vl (.seq (.block (some [1,2,3,15,16,17]) (.seq .nil (.seq (.reg [(21,.own QX)]) (.seq (.seq .nil (.block (some [1,2,3,5,6,15,16,17]) (.cut 1 [1,2,3,5,6,15,16,17,23,24,25]))) (.reg [(45,.pr .ro QV),(46,.own QR)]))))) .nil))) [(0,[1,2,3])] [1,2,3,15,16,17] sh0 g0 (mc u1 mn)
theorem u2:UO B 2 (.loop b2):=
 lu (.seq .nil (.seq Vl (.seq (.block (some [1,2,3,51,52,53]) (.seq .nil (.seq (.reg [(57,.own .ro)]) (.reg [(65,.own QU)])))) .nil))) [(4,[1,2,3])] [1,2,3,51,52,53] sh2 g2 mn
theorem u3:UO B 3 (.loop b3):=
 lu (.seq .nil (.seq Vl (.seq (.block (some [2,3,70,71,72]) (.seq .nil (.reg [(79,.pr QQ QN),(80,.own QJ)]))) .nil))) [(6,[2,3])] [2,3,70,71,72] sh3 g3 mn
def E:En:=⟨74,λn=>⟨B.a,B.r,λv=>F n v.1⟩,cD B (.seq (.reg [(2,.pr QP QE)]) (.seq (.reg [(13,.pr QP QE),(3,.pr QP QE)]) (.seq (.seq .nil (.block (some [1,2,3]) (.cut 0 [1,2,3,15,16,17]))) (.seq (.seq .nil (.block (some [1,2,3]) (.cut 2 [1,2,3,51,52,53]))) (.seq (.seq .nil (.block (some [2,3]) (.cut 3 [2,3,70,71,72]))) Vm))))) Tryz.func74 (mc u0 (mc u2 (mc u3 mn)))⟩
end ch
namespace cS
def l0 (n:Nat)(s3:Wh)(f4:Wg->Option Bool)(t5:Int)(K0:Unit->Option Int):Nat->Int->Option Int
 |0,_=>none
 |k+1,t6=>
 if decide (t6<t5)=true then
 if(0:Int)<=t6/\t6<(Jr s3:Int)then
 (f4 (Jv s3 (Jt t6) ([],((0,(Jq,[])),[])),())).bind λr7=>
 if r7=true then
 some t6
 else
 l0 n s3 f4 t5 K0 k (Ju.wrap (t6+1))
 else
 none
 else
 K0 ()
def F (n:Nat)(s1:Wh)(f2:Wg->Option Bool):Option Int:=
 l0 n s1 f2 (Jr s1:Int) (λ_=>
 some (-1)) n 0
def code:=Tryz.f161.body.getD .skip
abbrev ash:List ASh:=[.ro Qe,.fn [.st Qg] .bool]
abbrev rsh:List RSh:=[.ro QA]
def b0:=JA (JA (Jy (JA (Jy code))))
abbrev sh0:ES:=⟨[(0,.v Qe),(1,.clo [.st Qg] .bool),(7,.v QA),(8,.v QA)],[]⟩
abbrev sh0_0:ES:=⟨[],[]⟩
def g0:GL rsh sh0:=λn m x kn kx=>l0 n x.1.1 x.1.2.1 x.1.2.2.1 (λ_=>kx 0 (sh0_0.enc ((()),(())))) m x.1.2.2.2.1
def B:Bd:=⟨ash,rsh,[],⟨code,19,.nil,[(.tmp 4,.int .i64,.ro)]⟩,[⟨0,sh0,g0⟩]⟩
theorem u0:UO B 0 (.loop b0):=
 lu (.seq .nil (.seq Vl (.seq (.block (some [0,1,7,8]) Va) .nil))) [(0,[])] [0,1,7,8] sh0 g0 mn
def E:En:=⟨161,λn=>⟨B.a,B.r,λv=>F n v.1 v.2.1⟩,cD B (.seq .nil (.seq (.seq .nil (.block (some []) (.cut 0 [0,1,7,8]))) Vm)) Tryz.func161 (mc u0 mn)⟩
end cS
namespace cV
def F (n:Nat)(s1:Wh)(f2:Wg->Option Bool):Option Bool:=
 (cS.F n s1 f2).bind λr3=>
 some (decide (r3>=0))
def code:=Tryz.f86.body.getD .skip
abbrev ash:List ASh:=[.ro Qe,.fn [.st Qg] .bool]
abbrev rsh:List RSh:=[.ro .bool]
def B:Bd:=⟨ash,rsh,[cS.E],⟨code,9,.nil,[(.tmp 4,.bool,.ro)]⟩,[]⟩
def E:En:=⟨86,λn=>⟨B.a,B.r,λv=>F n v.1 v.2.1⟩,cD B Vk Tryz.func86 mn⟩
end cV
namespace fT
def F (n:Nat)(_1:Int)(e2:WG)(t3:WL):Option WG:=
 if decide (e2.1=1)=true then
 (bB.F n t3 e2.2.1).bind λr4=>
 (cI.F n (Ju.wrap (r4+1))).bind λr5=>
 if Js ⟨#[118]⟩+Js r5<=aT then
 some (e2.1,(⟨#[118]⟩++r5,e2.2.2))
 else
 none
 else
 some e2
def code:=Tryz.f167.body.getD .skip
abbrev ash:List ASh:=[.ro QA,.mv Qn QT,.rp Qz]
abbrev rsh:List RSh:=[.own Qn QT]
def B:Bd:=⟨ash,rsh,[cI.E,bB.E],⟨code,18,.nil,[(.cell 5 94,.st Qr,.pr .ro QX)]⟩,[]⟩
def E:En:=⟨167,λn=>⟨B.a,B.r,λv=>F n v.1 v.2.1 v.2.2.1⟩,cD B (.seq (.reg [(5,.pr .ro QX)]) Vc) Tryz.func167 mn⟩
end fT
namespace cb
def l0 (n:Nat)(other4:WL)(t5:WD)(t6:Int)(r8:Wk)(t9:Wk)(K0:Wk->Option Wk):Nat->Int->Wk->Option Wk
 |0,_,_=>none
 |k+1,t7,out10=>
 if decide (t7<t6)=true then
 if(0:Int)<=t7/\t7<(Jr t5:Int)then
 if Jr ([]:WN)+Jr (((Jv t5 (Jt t7) (0,(Jq,[]))).2).2:WN)<=aT then
 (fT.F n t7 ((Jv t5 (Jt t7) (0,(Jq,[]))).1,(((Jv t5 (Jt t7) (0,(Jq,[]))).2).1,[]++(((Jv t5 (Jt t7) (0,(Jq,[]))).2).2))) other4).bind λr11=>
 if Jr out10.1+Jr [r11]<=aT then
 l0 n other4 t5 t6 r8 t9 K0 k (Ju.wrap (t7+1)) (out10.1++[r11],out10.2)
 else
 none
 else
 none
 else
 none
 else
 K0 out10
def l1 (n:Nat)(t13:WD)(t14:Int)(t16:Wk)(K2:Wk->Option Wk):Nat->Int->Wk->Option Wk
 |0,_,_=>none
 |k+1,t15,out17=>
 if decide (t15<t14)=true then
 if(0:Int)<=t15/\t15<(Jr t13:Int)then
 (fb.F n (Jv t13 (Jt t15) (0,(Jq,[])))).bind λr18=>
 if Jr out17.2.2+Jr [r18]<=aT then
 l1 n t13 t14 t16 K2 k (Ju.wrap (t15+1)) (out17.1,(out17.2.1,out17.2.2++[r18]))
 else
 none
 else
 none
 else
 K2 out17
def F (n:Nat)(r1:Wk)(other2:Unit×(WL×Unit)):Option Wk:=
 (fb.F n r1.2.1).bind λr3=>
 l0 n other2.2.1 r1.1 (Jr r1.1:Int) r1 ([],((0,(Jq,[])),[])) (λout12=>
 l1 n r1.2.2 (Jr r1.2.2:Int) ([],((0,(Jq,[])),[])) (λout19=>
 some out19) n 0 out12) n 0 ([],(r3,[]))
def code:=Tryz.f102.body.getD .skip
abbrev ash:List ASh:=[.ro Qf,.fc 167 [] [.sl QC]]
abbrev rsh:List RSh:=[.own Qf QJ]
def b0:=JA (JA (Jy (JA (Jy (Jy code)))))
def b1:=JA (JA (Jy (JA (Jy (Jy (Jy code))))))
abbrev sh0:ES:=⟨[(1,.fv 167 [] [.rp Qz]),(2,.pt 2 []),(4,.pt 4 []),(5,.pt 5 []),(15,.v Qk),(16,.v QA),(17,.v QA)],[⟨2,.st Qg,.ro,true,false,none⟩,⟨4,.st Qg,.pr QQ QN,true,false,none⟩,⟨5,.st Qg,.pr QQ QN,true,false,none⟩]⟩
abbrev sh0_0:ES:=⟨[(2,.pt 2 []),(4,.pt 4 []),(5,.pt 5 [])],[⟨2,.st Qg,.ro,true,false,none⟩,⟨4,.st Qg,.pr QQ QN,true,false,none⟩,⟨5,.st Qg,.pr QQ QN,true,false,none⟩]⟩
abbrev sh1:ES:=⟨[(4,.pt 4 []),(5,.pt 5 []),(38,.v Qk),(39,.v QA),(40,.v QA)],[⟨4,.st Qg,.pr QQ QN,true,false,none⟩,⟨5,.st Qg,.pr QQ QN,true,false,none⟩]⟩
abbrev sh1_2:ES:=⟨[(4,.pt 4 []),(5,.pt 5 [])],[⟨4,.st Qg,.pr QQ QN,true,false,none⟩,⟨5,.st Qg,.pr QQ QN,true,false,none⟩]⟩
def g0:GL rsh sh0:=λn m x kn kx=>l0 n x.1.1.2.1 x.1.2.2.2.2.1 x.1.2.2.2.2.2.1 x.2.1 x.2.2.1 (λy0=>kx 0 (sh0_0.enc (((()),(()),(()),()),(x.2.1,x.2.2.1,y0,())))) m x.1.2.2.2.2.2.2.1 x.2.2.2.1
def g1:GL rsh sh1:=λn m x kn kx=>l1 n x.1.2.2.1 x.1.2.2.2.1 x.2.1 (λy0=>kx 2 (sh1_2.enc (((()),(()),()),(x.2.1,y0,())))) m x.1.2.2.2.2.1 x.2.2.1
def B:Bd:=⟨ash,rsh,[fT.E,fb.E],⟨code,53,.nil,[(.cell 4 34,.st Qg,.pr QQ QN)]⟩,[⟨0,sh0,g0⟩,⟨1,sh1,g1⟩]⟩
theorem u0:UO B 0 (.loop b0):=
 lu (.seq .nil (.seq Vl (.seq (.block (some [1,2,4,5,15,16,17]) (.seq .nil (.seq (.reg [(22,.own .ro)]) (.reg [(32,.pr .ro QX),(33,.own QT)])))) .nil))) [(0,[2,4,5])] [1,2,4,5,15,16,17] sh0 g0 mn
theorem u1:UO B 1 (.loop b1):=
 lu (.seq .nil (.seq Vl (.seq (.block (some [4,5,38,39,40]) (.seq .nil (.reg [(47,.pr .ro QX),(48,.own QT)]))) .nil))) [(2,[4,5])] [4,5,38,39,40] sh1 g1 mn
def E:En:=⟨102,λn=>⟨B.a,B.r,λv=>F n v.1 v.2.1⟩,cD B (.seq (.reg [(4,.pr QQ QN)]) (.seq (.reg [(12,.pr .ro QX),(13,.pr QQ QN),(5,.pr QQ QN)]) (.seq (.seq .nil (.block (some [2,4,5]) (.cut 0 [1,2,4,5,15,16,17]))) (.seq (.seq .nil (.block (some [4,5]) (.cut 1 [4,5,38,39,40]))) Vm)))) Tryz.func102 (mc u0 (mc u1 mn))⟩
end cb
open Go.Proofs
namespace fG
def F (n:Nat)(r1:Wk):Option Wk:=
 (dC.F n r1).bind λr2=>
 (cb.F n r1 ((),(r2,()))).bind λr3=>
 some r3
def code:=Tryz.f89.body.getD .skip
abbrev ash:List ASh:=[.ro Qf]
abbrev rsh:List RSh:=[.ro Qf]
def B:Bd:=⟨ash,rsh,[dC.E,cb.E],⟨code,9,.nil,[(.cell 2 34,.st Qg,.ro)]⟩,[]⟩
def E:En:=⟨89,λn=>⟨B.a,B.r,λv=>F n v.1⟩,cD B Vh Tryz.func89 mn⟩
end fG
namespace jo
def F (n:Nat)(o1:Wk)(t2:Wk):Option Bool:=
 (fG.F n o1).bind λr3=>
 (fG.F n t2).bind λr4=>
 (fg.F n r3 r4).bind λr5=>
 some r5
def code:=Tryz.f87.body.getD .skip
abbrev ash:List ASh:=[.ro Qf,.rp Qf]
abbrev rsh:List RSh:=[.ro .bool]
def B:Bd:=⟨ash,rsh,[fg.E,fG.E],⟨code,9,.nil,[(.tmp 3,.bool,.ro)]⟩,[]⟩
def E:En:=⟨87,λn=>⟨B.a,B.r,λv=>F n v.1 v.2.1⟩,cD B Vk Tryz.func87 mn⟩
end jo
namespace jn
def l0 (n:Nat)(t4:Wh)(t5:Int)(t7:Wb)(K0:Wb->Option Wb):Nat->Int->Wb->Option Wb
 |0,_,_=>none
 |k+1,t6,out8=>
 if decide (t6<t5)=true then
 if(0:Int)<=t6/\t6<(Jr t4:Int)then
 (cV.F n out8.2.2 (λa9=>(jo.F n a9.1 (Jv t4 (Jt t6) ([],((0,(Jq,[])),[])))).bind some)).bind λr10=>
 if(!r10)=true then
 (gj.F n (Jv t4 (Jt t6) ([],((0,(Jq,[])),[])))).bind λr11=>
 if Jr out8.2.2+Jr [r11]<=aT then
 l0 n t4 t5 t7 K0 k (Ju.wrap (t6+1)) (out8.1,(out8.2.1,out8.2.2++[r11]))
 else
 none
 else
 l0 n t4 t5 t7 K0 k (Ju.wrap (t6+1)) out8
 else
 none
 else
 K0 out8
def F (n:Nat)(p1:Wb):Option Wb:=
 (jF.F n p1).bind λr2=>
 if(!r2)=true then
 some ([],([],[]))
 else
 (ch.F n p1).bind λr3=>
 l0 n p1.2.2 (Jr p1.2.2:Int) ([],([],[])) (λout12=>
 some out12) n 0 (r3.1,(r3.2.1,[]))
def code:=Tryz.f24.body.getD .skip
abbrev ash:List ASh:=[.ro Qc]
abbrev rsh:List RSh:=[.own Qc QD]
def b0:=JA (JA (Jy (JA (Jy (Jy (Jy (Jy code)))))))
abbrev sh0:ES:=⟨[(2,.pt 2 []),(3,.pt 3 []),(14,.v Qe),(15,.v QA),(16,.v QA)],[⟨2,.st Qd,.pr QP QE,true,false,none⟩,⟨3,.st Qd,.pr QP QE,true,false,none⟩]⟩
abbrev sh0_0:ES:=⟨[(2,.pt 2 []),(3,.pt 3 [])],[⟨2,.st Qd,.pr QP QE,true,false,none⟩,⟨3,.st Qd,.pr QP QE,true,false,none⟩]⟩
def g0:GL rsh sh0:=λn m x kn kx=>l0 n x.1.2.2.1 x.1.2.2.2.1 x.2.1 (λy0=>kx 0 (sh0_0.enc (((()),(()),()),(x.2.1,y0,())))) m x.1.2.2.2.2.1 x.2.2.1
def B:Bd:=⟨ash,rsh,[gj.E,jF.E,ch.E,cV.E,jo.E],⟨code,34,.nil,[(.cell 2 53,.st Qd,.pr QP QE)]⟩,[⟨0,sh0,g0⟩]⟩
theorem u0:UO B 0 (.loop b0):=
 lu (.seq .nil (.seq Vl (.seq (.block (some [2,3,14,15,16]) (.seq .nil (.seq .nil (.cond (.reg [(28,.pr QQ QN),(29,.own QJ)]) .nil)))) .nil))) [(0,[2,3])] [2,3,14,15,16] sh0 g0 mn
def E:En:=⟨24,λn=>⟨B.a,B.r,λv=>F n v.1⟩,cD B (.seq (.reg [(2,.pr QP QE)]) (.seq (.seq .nil (.cond (.seq (.reg [(9,.pr QP QE)]) .nil) .nil)) (.seq (.reg [(11,.pr QP QE),(3,.pr .ro QX)]) (.seq .nil (.seq (.seq .nil (.block (some [2,3]) (.cut 0 [2,3,14,15,16]))) Vm))))) Tryz.func24 (mc u0 mn)⟩
end jn
namespace dG
def l0 (n:Nat)(a3:WL)(b4:WL)(K0:Unit->Option Bool):Nat->Int->Option Bool
 |0,_=>none
 |k+1,i5=>
 if decide (i5<(Jr a3:Int))=true then
 if(0:Int)<=i5/\i5<(Jr a3:Int)then
 if(0:Int)<=i5/\i5<(Jr b4:Int)then
 if(!(Km (Jv a3 (Jt i5) Jq) (Jv b4 (Jt i5) Jq)))=true then
 some false
 else
 l0 n a3 b4 K0 k (Ju.wrap (i5+1))
 else
 none
 else
 none
 else
 K0 ()
def F (n:Nat)(a1:WL)(b2:WL):Option Bool:=
 if(!decide ((Jr a1:Int)=(Jr b2:Int)))=true then
 some false
 else
 l0 n a1 b2 (λ_=>
 some true) n 0
def code:=Tryz.f218.body.getD .skip
abbrev ash:List ASh:=[.ro Qz,.ro Qz]
abbrev rsh:List RSh:=[.ro .bool]
def b0:=JA (JA (Jy (JA (Jy (Jy code)))))
abbrev sh0:ES:=⟨[(0,.v Qz),(1,.v Qz),(5,.v QA)],[]⟩
abbrev sh0_0:ES:=⟨[],[]⟩
def g0:GL rsh sh0:=λn m x kn kx=>l0 n x.1.1 x.1.2.1 (λ_=>kx 0 (sh0_0.enc ((()),(())))) m x.1.2.2.1
def B:Bd:=⟨ash,rsh,[],⟨code,26,.nil,[(.tmp 4,.bool,.ro)]⟩,[⟨0,sh0,g0⟩]⟩
theorem u0:UO B 0 (.loop b0):=
 lu (.seq Vi (.seq (.block (some [0,1,5]) Vf) .nil)) [(0,[])] [0,1,5] sh0 g0 mn
def E:En:=⟨218,λn=>⟨B.a,B.r,λv=>F n v.1 v.2.1⟩,cD B (.seq .nil (.seq Vf (.seq (.seq .nil (.block (some []) (.cut 0 [0,1,5]))) Vm))) Tryz.func218 (mc u0 mn)⟩
end dG
namespace lc
def F (n:Nat)(a1:WH)(b2:WH):Option Bool:=
 if(!(Km a1.1 b2.1))=true then
 some false
 else
 (dG.F n a1.2 b2.2).bind λr3=>
 if(!r3)=true then
 some false
 else
 some true
def code:=Tryz.f258.body.getD .skip
abbrev ash:List ASh:=[.ro Qw,.ro Qw]
abbrev rsh:List RSh:=[.ro .bool]
def B:Bd:=⟨ash,rsh,[dG.E],⟨code,16,.nil,[(.tmp 4,.bool,.ro)]⟩,[]⟩
def E:En:=⟨258,λn=>⟨B.a,B.r,λv=>F n v.1 v.2.1⟩,cD B WT Tryz.func258 mn⟩
end lc
namespace gO
def l0 (n:Nat)(a3:WE)(b4:WE)(K0:Unit->Option Bool):Nat->Int->Option Bool
 |0,_=>none
 |k+1,i5=>
 if decide (i5<(Jr a3:Int))=true then
 if(0:Int)<=i5/\i5<(Jr a3:Int)then
 if(0:Int)<=i5/\i5<(Jr b4:Int)then
 (lc.F n (Jv a3 (Jt i5) (Jq,[])) (Jv b4 (Jt i5) (Jq,[]))).bind λr6=>
 if(!r6)=true then
 some false
 else
 l0 n a3 b4 K0 k (Ju.wrap (i5+1))
 else
 none
 else
 none
 else
 K0 ()
def F (n:Nat)(a1:WE)(b2:WE):Option Bool:=
 if(!decide ((Jr a1:Int)=(Jr b2:Int)))=true then
 some false
 else
 l0 n a1 b2 (λ_=>
 some true) n 0
def code:=Tryz.f217.body.getD .skip
abbrev ash:List ASh:=[.ro Qv,.ro Qv]
abbrev rsh:List RSh:=[.ro .bool]
def b0:=JA (JA (Jy (JA (Jy (Jy code)))))
abbrev sh0:ES:=⟨[(0,.v Qv),(1,.v Qv),(5,.v QA)],[]⟩
abbrev sh0_0:ES:=⟨[],[]⟩
def g0:GL rsh sh0:=λn m x kn kx=>l0 n x.1.1 x.1.2.1 (λ_=>kx 0 (sh0_0.enc ((()),(())))) m x.1.2.2.1
def B:Bd:=⟨ash,rsh,[lc.E],⟨code,27,.nil,[(.tmp 4,.bool,.ro)]⟩,[⟨0,sh0,g0⟩]⟩
theorem u0:UO B 0 (.loop b0):=
 lu (.seq Vi (.seq (.block (some [0,1,5]) Vf) .nil)) [(0,[])] [0,1,5] sh0 g0 mn
def E:En:=⟨217,λn=>⟨B.a,B.r,λv=>F n v.1 v.2.1⟩,cD B (.seq .nil (.seq Vf (.seq (.seq .nil (.block (some []) (.cut 0 [0,1,5]))) Vm))) Tryz.func217 (mc u0 mn)⟩
end gO
namespace ig
def F (n:Nat)(a1:Ww)(b2:Ww):Option Bool:=
 if(!(Km a1.1 b2.1))=true then
 some false
 else
 (gO.F n a1.2 b2.2).bind λr3=>
 if(!r3)=true then
 some false
 else
 some true
def code:=Tryz.f153.body.getD .skip
abbrev ash:List ASh:=[.ro Ql,.ro Ql]
abbrev rsh:List RSh:=[.ro .bool]
def B:Bd:=⟨ash,rsh,[gO.E],⟨code,16,.nil,[(.tmp 4,.bool,.ro)]⟩,[]⟩
def E:En:=⟨153,λn=>⟨B.a,B.r,λv=>F n v.1 v.2.1⟩,cD B WT Tryz.func153 mn⟩
end ig
namespace dP
def l0 (n:Nat)(a3:Wu)(b4:Wu)(K0:Unit->Option Bool):Nat->Int->Option Bool
 |0,_=>none
 |k+1,i5=>
 if decide (i5<(Jr a3:Int))=true then
 if(0:Int)<=i5/\i5<(Jr a3:Int)then
 if(0:Int)<=i5/\i5<(Jr b4:Int)then
 (ig.F n (Jv a3 (Jt i5) (Jq,[])) (Jv b4 (Jt i5) (Jq,[]))).bind λr6=>
 if(!r6)=true then
 some false
 else
 l0 n a3 b4 K0 k (Ju.wrap (i5+1))
 else
 none
 else
 none
 else
 K0 ()
def F (n:Nat)(a1:Wu)(b2:Wu):Option Bool:=
 if(!decide ((Jr a1:Int)=(Jr b2:Int)))=true then
 some false
 else
 l0 n a1 b2 (λ_=>
 some true) n 0
def code:=Tryz.f76.body.getD .skip
abbrev ash:List ASh:=[.ro Qj,.ro Qj]
abbrev rsh:List RSh:=[.ro .bool]
def b0:=JA (JA (Jy (JA (Jy (Jy code)))))
abbrev sh0:ES:=⟨[(0,.v Qj),(1,.v Qj),(5,.v QA)],[]⟩
abbrev sh0_0:ES:=⟨[],[]⟩
def g0:GL rsh sh0:=λn m x kn kx=>l0 n x.1.1 x.1.2.1 (λ_=>kx 0 (sh0_0.enc ((()),(())))) m x.1.2.2.1
def B:Bd:=⟨ash,rsh,[ig.E],⟨code,27,.nil,[(.tmp 4,.bool,.ro)]⟩,[⟨0,sh0,g0⟩]⟩
theorem u0:UO B 0 (.loop b0):=
 lu (.seq Vi (.seq (.block (some [0,1,5]) Vf) .nil)) [(0,[])] [0,1,5] sh0 g0 mn
def E:En:=⟨76,λn=>⟨B.a,B.r,λv=>F n v.1 v.2.1⟩,cD B (.seq .nil (.seq Vf (.seq (.seq .nil (.block (some []) (.cut 0 [0,1,5]))) Vm))) Tryz.func76 (mc u0 mn)⟩
end dP
namespace iG
def F (n:Nat)(a1:WC)(b2:WC):Option Bool:=
 if(!(Km a1.1 b2.1))=true then
 some false
 else
 (dG.F n a1.2.1 b2.2.1).bind λr3=>
 if(!r3)=true then
 some false
 else
 if(!decide (a1.2.2=b2.2.2))=true then
 some false
 else
 some true
def code:=Tryz.f154.body.getD .skip
abbrev ash:List ASh:=[.ro Qq,.ro Qq]
abbrev rsh:List RSh:=[.ro .bool]
def B:Bd:=⟨ash,rsh,[dG.E],⟨code,21,.nil,[(.tmp 4,.bool,.ro)]⟩,[]⟩
def E:En:=⟨154,λn=>⟨B.a,B.r,λv=>F n v.1 v.2.1⟩,cD B WP Tryz.func154 mn⟩
end iG
namespace ec
def l0 (n:Nat)(a3:Wy)(b4:Wy)(K0:Unit->Option Bool):Nat->Int->Option Bool
 |0,_=>none
 |k+1,i5=>
 if decide (i5<(Jr a3:Int))=true then
 if(0:Int)<=i5/\i5<(Jr a3:Int)then
 if(0:Int)<=i5/\i5<(Jr b4:Int)then
 (iG.F n (Jv a3 (Jt i5) (Jq,([],0))) (Jv b4 (Jt i5) (Jq,([],0)))).bind λr6=>
 if(!r6)=true then
 some false
 else
 l0 n a3 b4 K0 k (Ju.wrap (i5+1))
 else
 none
 else
 none
 else
 K0 ()
def F (n:Nat)(a1:Wy)(b2:Wy):Option Bool:=
 if(!decide ((Jr a1:Int)=(Jr b2:Int)))=true then
 some false
 else
 l0 n a1 b2 (λ_=>
 some true) n 0
def code:=Tryz.f77.body.getD .skip
abbrev ash:List ASh:=[.ro Qm,.ro Qm]
abbrev rsh:List RSh:=[.ro .bool]
def b0:=JA (JA (Jy (JA (Jy (Jy code)))))
abbrev sh0:ES:=⟨[(0,.v Qm),(1,.v Qm),(5,.v QA)],[]⟩
abbrev sh0_0:ES:=⟨[],[]⟩
def g0:GL rsh sh0:=λn m x kn kx=>l0 n x.1.1 x.1.2.1 (λ_=>kx 0 (sh0_0.enc ((()),(())))) m x.1.2.2.1
def B:Bd:=⟨ash,rsh,[iG.E],⟨code,27,.nil,[(.tmp 4,.bool,.ro)]⟩,[⟨0,sh0,g0⟩]⟩
theorem u0:UO B 0 (.loop b0):=
 lu (.seq Vi (.seq (.block (some [0,1,5]) Vf) .nil)) [(0,[])] [0,1,5] sh0 g0 mn
def E:En:=⟨77,λn=>⟨B.a,B.r,λv=>F n v.1 v.2.1⟩,cD B (.seq .nil (.seq Vf (.seq (.seq .nil (.block (some []) (.cut 0 [0,1,5]))) Vm))) Tryz.func77 (mc u0 mn)⟩
end ec
namespace fS
def l0 (n:Nat)(a3:Wh)(b4:Wh)(K0:Unit->Option Bool):Nat->Int->Option Bool
 |0,_=>none
 |k+1,i5=>
 if decide (i5<(Jr a3:Int))=true then
 if(0:Int)<=i5/\i5<(Jr a3:Int)then
 if(0:Int)<=i5/\i5<(Jr b4:Int)then
 (ko.F n (Jv a3 (Jt i5) ([],((0,(Jq,[])),[]))) (Jv b4 (Jt i5) ([],((0,(Jq,[])),[])))).bind λr6=>
 if(!r6)=true then
 some false
 else
 l0 n a3 b4 K0 k (Ju.wrap (i5+1))
 else
 none
 else
 none
 else
 K0 ()
def F (n:Nat)(a1:Wh)(b2:Wh):Option Bool:=
 if(!decide ((Jr a1:Int)=(Jr b2:Int)))=true then
 some false
 else
 l0 n a1 b2 (λ_=>
 some true) n 0
def code:=Tryz.f78.body.getD .skip
abbrev ash:List ASh:=[.ro Qe,.ro Qe]
abbrev rsh:List RSh:=[.ro .bool]
def b0:=JA (JA (Jy (JA (Jy (Jy code)))))
abbrev sh0:ES:=⟨[(0,.v Qe),(1,.v Qe),(5,.v QA)],[]⟩
abbrev sh0_0:ES:=⟨[],[]⟩
def g0:GL rsh sh0:=λn m x kn kx=>l0 n x.1.1 x.1.2.1 (λ_=>kx 0 (sh0_0.enc ((()),(())))) m x.1.2.2.1
def B:Bd:=⟨ash,rsh,[ko.E],⟨code,27,.nil,[(.tmp 4,.bool,.ro)]⟩,[⟨0,sh0,g0⟩]⟩
theorem u0:UO B 0 (.loop b0):=
 lu (.seq Vi (.seq (.block (some [0,1,5]) Vf) .nil)) [(0,[])] [0,1,5] sh0 g0 mn
def E:En:=⟨78,λn=>⟨B.a,B.r,λv=>F n v.1 v.2.1⟩,cD B (.seq .nil (.seq Vf (.seq (.seq .nil (.block (some []) (.cut 0 [0,1,5]))) Vm))) Tryz.func78 (mc u0 mn)⟩
end fS
namespace gD
def F (n:Nat)(a1:Wb)(b2:Wb):Option Bool:=
 (dP.F n a1.1 b2.1).bind λr3=>
 if(!r3)=true then
 some false
 else
 (ec.F n a1.2.1 b2.2.1).bind λr4=>
 if(!r4)=true then
 some false
 else
 (fS.F n a1.2.2 b2.2.2).bind λr5=>
 if(!r5)=true then
 some false
 else
 some true
def code:=Tryz.f20.body.getD .skip
abbrev ash:List ASh:=[.ro Qc,.ro Qc]
abbrev rsh:List RSh:=[.ro .bool]
def B:Bd:=⟨ash,rsh,[dP.E,ec.E,fS.E],⟨code,23,.nil,[(.tmp 4,.bool,.ro)]⟩,[]⟩
def E:En:=⟨20,λn=>⟨B.a,B.r,λv=>F n v.1 v.2.1⟩,cD B WP Tryz.func20 mn⟩
end gD
namespace du
def l0 (n:Nat)(K0:Int->WL->Option (Int×List ByteArray)):Nat->Int->Int->WL->Option (Int×List ByteArray)
 |0,_,_,_=>none
 |k+1,k3,i4,a5=>
 if decide (i4<(Jr a5:Int))=true then
 (aN.F n k3).bind λr6=>
 if(0:Int)<=i4/\i4<(Jr a5:Int)then
 l0 n K0 k (Ju.wrap (k3+1)) (Ju.wrap (i4+1)) (KO a5 (Jt i4) r6)
 else
 none
 else
 K0 k3 a5
def F (n:Nat)(a1:WL)(k2:Int):Option (Int×List ByteArray):=
 l0 n (λk7 a8=>
 some (k7,a8)) n k2 0 a1
def code:=Tryz.f156.body.getD .skip
abbrev ash:List ASh:=[.ms Qz QZ,.ro QA]
abbrev rsh:List RSh:=[.ro QA,.out Qz]
def b0:=JA (JA (Jy (JA (Jy code))))
abbrev sh0:ES:=⟨[(0,.al 0 []),(1,.v QA),(5,.v QA)],[⟨0,.sl QC,.own .ro,false,true,none⟩]⟩
abbrev sh0_0:ES:=⟨[(0,.al 0 []),(1,.v QA)],[⟨0,.sl QC,.own .ro,false,true,none⟩]⟩
def g0:GL rsh sh0:=λn m x kn kx=>l0 n (λy0 y1=>kx 0 (sh0_0.enc (((()),y0,()),(y1,())))) m x.1.2.1 x.1.2.2.1 x.2.1
def B:Bd:=⟨ash,rsh,[aN.E],⟨code,20,.nil,[(.tmp 4,.int .i64,.ro)]⟩,[⟨0,sh0,g0⟩]⟩
theorem u0:UO B 0 (.loop b0):=
 lu (.seq Vi (.seq (.block (some [0,1,5]) Vm) .nil)) [(0,[0,1])] [0,1,5] sh0 g0 mn
def E:En:=⟨156,λn=>⟨B.a,B.r,λv=>F n v.1 v.2.1⟩,cD B (.seq .nil (.seq (.seq .nil (.block (some [0,1]) (.cut 0 [0,1,5]))) Vm)) Tryz.func156 (mc u0 mn)⟩
end du
namespace ge
def l0 (n:Nat)(K0:Int->WE->Option WA):Nat->Int->Int->WE->Option WA
 |0,_,_,_=>none
 |k+1,k3,i4,a5=>
 if decide (i4<(Jr a5:Int))=true then
 (aN.F n k3).bind λr6=>
 if(0:Int)<=i4/\i4<(Jr a5:Int)then
 let w7:List WH:=KO a5 (Jt i4) (r6,(Jv a5 (Jt i4) (Jq,[])).2)
 if(0:Int)<=i4/\i4<(Jr w7:Int)then
 (du.F n ((Jv w7 (Jt i4) (Jq,[])).2) (Ju.wrap (k3+1))).bind λr8=>
 let w9:List WH:=KO w7 (Jt i4) ((Jv w7 (Jt i4) (Jq,[])).1,r8.2)
 l0 n K0 k r8.1 (Ju.wrap (i4+1)) w9
 else
 none
 else
 none
 else
 K0 k3 a5
def F (n:Nat)(a1:WE)(k2:Int):Option WA:=
 l0 n (λk10 a11=>
 some (k10,a11)) n k2 0 a1
def code:=Tryz.f155.body.getD .skip
abbrev ash:List ASh:=[.ms Qv QV,.ro QA]
abbrev rsh:List RSh:=[.ro QA,.out Qv]
def b0:=JA (JA (Jy (JA (Jy code))))
abbrev sh0:ES:=⟨[(0,.al 0 []),(1,.v QA),(5,.v QA)],[⟨0,.sl Qw,.own QX,false,true,none⟩]⟩
abbrev sh0_0:ES:=⟨[(0,.al 0 []),(1,.v QA)],[⟨0,.sl Qw,.own QX,false,true,none⟩]⟩
def g0:GL rsh sh0:=λn m x kn kx=>l0 n (λy0 y1=>kx 0 (sh0_0.enc (((()),y0,()),(y1,())))) m x.1.2.1 x.1.2.2.1 x.2.1
def B:Bd:=⟨ash,rsh,[aN.E,du.E],⟨code,28,.nil,[(.tmp 4,.int .i64,.ro)]⟩,[⟨0,sh0,g0⟩]⟩
theorem u0:UO B 0 (.loop b0):=
 lu (.seq Vi (.seq (.block (some [0,1,5]) Vk) .nil)) [(0,[0,1])] [0,1,5] sh0 g0 mn
def E:En:=⟨155,λn=>⟨B.a,B.r,λv=>F n v.1 v.2.1⟩,cD B (.seq .nil (.seq (.seq .nil (.block (some [0,1]) (.cut 0 [0,1,5]))) Vm)) Tryz.func155 (mc u0 mn)⟩
end ge
namespace dM
def l0 (n:Nat)(K0:Int->Wu->Option Ws):Nat->Int->Int->Wu->Option Ws
 |0,_,_,_=>none
 |k+1,k3,i4,a5=>
 if decide (i4<(Jr a5:Int))=true then
 (aN.F n k3).bind λr6=>
 if(0:Int)<=i4/\i4<(Jr a5:Int)then
 let w7:List Ww:=KO a5 (Jt i4) (r6,(Jv a5 (Jt i4) (Jq,[])).2)
 if(0:Int)<=i4/\i4<(Jr w7:Int)then
 (ge.F n ((Jv w7 (Jt i4) (Jq,[])).2) (Ju.wrap (k3+1))).bind λr8=>
 let w9:List Ww:=KO w7 (Jt i4) ((Jv w7 (Jt i4) (Jq,[])).1,r8.2)
 l0 n K0 k r8.1 (Ju.wrap (i4+1)) w9
 else
 none
 else
 none
 else
 K0 k3 a5
def F (n:Nat)(a1:Wu)(k2:Int):Option Ws:=
 l0 n (λk10 a11=>
 some (k10,a11)) n k2 0 a1
def code:=Tryz.f79.body.getD .skip
abbrev ash:List ASh:=[.ms Qj QP,.ro QA]
abbrev rsh:List RSh:=[.ro QA,.out Qj]
def b0:=JA (JA (Jy (JA (Jy code))))
abbrev sh0:ES:=⟨[(0,.al 0 []),(1,.v QA),(5,.v QA)],[⟨0,.sl Ql,.own QR,false,true,none⟩]⟩
abbrev sh0_0:ES:=⟨[(0,.al 0 []),(1,.v QA)],[⟨0,.sl Ql,.own QR,false,true,none⟩]⟩
def g0:GL rsh sh0:=λn m x kn kx=>l0 n (λy0 y1=>kx 0 (sh0_0.enc (((()),y0,()),(y1,())))) m x.1.2.1 x.1.2.2.1 x.2.1
def B:Bd:=⟨ash,rsh,[aN.E,ge.E],⟨code,28,.nil,[(.tmp 4,.int .i64,.ro)]⟩,[⟨0,sh0,g0⟩]⟩
theorem u0:UO B 0 (.loop b0):=
 lu (.seq Vi (.seq (.block (some [0,1,5]) Vk) .nil)) [(0,[0,1])] [0,1,5] sh0 g0 mn
def E:En:=⟨79,λn=>⟨B.a,B.r,λv=>F n v.1 v.2.1⟩,cD B (.seq .nil (.seq (.seq .nil (.block (some [0,1]) (.cut 0 [0,1,5]))) Vm)) Tryz.func79 (mc u0 mn)⟩
end dM
namespace e8
def l0 (n:Nat)(K0:Int->Wy->Option Wv):Nat->Int->Int->Wy->Option Wv
 |0,_,_,_=>none
 |k+1,k3,i4,a5=>
 if decide (i4<(Jr a5:Int))=true then
 (aN.F n k3).bind λr6=>
 if(0:Int)<=i4/\i4<(Jr a5:Int)then
 let w7:List WC:=KO a5 (Jt i4) (r6,(Jv a5 (Jt i4) (Jq,([],0))).2)
 if(0:Int)<=i4/\i4<(Jr w7:Int)then
 (du.F n (((Jv w7 (Jt i4) (Jq,([],0))).2).1) (Ju.wrap (k3+1))).bind λr8=>
 let w9:List WC:=KO w7 (Jt i4) ((Jv w7 (Jt i4) (Jq,([],0))).1,(r8.2,((Jv w7 (Jt i4) (Jq,([],0))).2).2))
 if(0:Int)<=i4/\i4<(Jr w9:Int)then
 let w10:List WC:=KO w9 (Jt i4) ((Jv w9 (Jt i4) (Jq,([],0))).1,(((Jv w9 (Jt i4) (Jq,([],0))).2).1,r8.1))
 l0 n K0 k (Ju.wrap (r8.1+1)) (Ju.wrap (i4+1)) w10
 else
 none
 else
 none
 else
 none
 else
 K0 k3 a5
def F (n:Nat)(a1:Wy)(k2:Int):Option Wv:=
 l0 n (λk11 a12=>
 some (k11,a12)) n k2 0 a1
def code:=Tryz.f80.body.getD .skip
abbrev ash:List ASh:=[.ms Qm QS,.ro QA]
abbrev rsh:List RSh:=[.ro QA,.out Qm]
def b0:=JA (JA (Jy (JA (Jy code))))
abbrev sh0:ES:=⟨[(0,.al 0 []),(1,.v QA),(5,.v QA)],[⟨0,.sl Qq,.own QU,false,true,none⟩]⟩
abbrev sh0_0:ES:=⟨[(0,.al 0 []),(1,.v QA)],[⟨0,.sl Qq,.own QU,false,true,none⟩]⟩
def g0:GL rsh sh0:=λn m x kn kx=>l0 n (λy0 y1=>kx 0 (sh0_0.enc (((()),y0,()),(y1,())))) m x.1.2.1 x.1.2.2.1 x.2.1
def B:Bd:=⟨ash,rsh,[aN.E,du.E],⟨code,35,.nil,[(.tmp 4,.int .i64,.ro)]⟩,[⟨0,sh0,g0⟩]⟩
theorem u0:UO B 0 (.loop b0):=
 lu (.seq Vi (.seq (.block (some [0,1,5]) Vd) .nil)) [(0,[0,1])] [0,1,5] sh0 g0 mn
def E:En:=⟨80,λn=>⟨B.a,B.r,λv=>F n v.1 v.2.1⟩,cD B (.seq .nil (.seq (.seq .nil (.block (some [0,1]) (.cut 0 [0,1,5]))) Vm)) Tryz.func80 (mc u0 mn)⟩
end e8
namespace fp
def l0 (n:Nat)(K0:Int->Wh->Option Wf):Nat->Int->Int->Wh->Option Wf
 |0,_,_,_=>none
 |k+1,k3,i4,a5=>
 if decide (i4<(Jr a5:Int))=true then
 if(0:Int)<=i4/\i4<(Jr a5:Int)then
 (gl.F n ((Jv a5 (Jt i4) ([],((0,(Jq,[])),[]))).1) k3).bind λr6=>
 let w7:List Wk:=KO a5 (Jt i4) (r6.2,(Jv a5 (Jt i4) ([],((0,(Jq,[])),[]))).2)
 if(0:Int)<=i4/\i4<(Jr w7:Int)then
 let w8:List Wk:=KO w7 (Jt i4) ((Jv w7 (Jt i4) ([],((0,(Jq,[])),[]))).1,((r6.1,(((Jv w7 (Jt i4) ([],((0,(Jq,[])),[]))).2).1).2),((Jv w7 (Jt i4) ([],((0,(Jq,[])),[]))).2).2))
 (aN.F n (Ju.wrap (r6.1+1))).bind λr9=>
 if(0:Int)<=i4/\i4<(Jr w8:Int)then
 let w10:List Wk:=KO w8 (Jt i4) ((Jv w8 (Jt i4) ([],((0,(Jq,[])),[]))).1,(((((Jv w8 (Jt i4) ([],((0,(Jq,[])),[]))).2).1).1,(r9,((((Jv w8 (Jt i4) ([],((0,(Jq,[])),[]))).2).1).2).2)),((Jv w8 (Jt i4) ([],((0,(Jq,[])),[]))).2).2))
 if(0:Int)<=i4/\i4<(Jr w10:Int)then
 (dE.F n (((((Jv w10 (Jt i4) ([],((0,(Jq,[])),[]))).2).1).2).2) (Ju.wrap ((Ju.wrap (r6.1+1))+1))).bind λr11=>
 let w12:List Wk:=KO w10 (Jt i4) ((Jv w10 (Jt i4) ([],((0,(Jq,[])),[]))).1,(((((Jv w10 (Jt i4) ([],((0,(Jq,[])),[]))).2).1).1,(((((Jv w10 (Jt i4) ([],((0,(Jq,[])),[]))).2).1).2).1,r11.2)),((Jv w10 (Jt i4) ([],((0,(Jq,[])),[]))).2).2))
 if(0:Int)<=i4/\i4<(Jr w12:Int)then
 (gi.F n (((Jv w12 (Jt i4) ([],((0,(Jq,[])),[]))).2).2) r11.1).bind λr13=>
 let w14:List Wk:=KO w12 (Jt i4) ((Jv w12 (Jt i4) ([],((0,(Jq,[])),[]))).1,(((Jv w12 (Jt i4) ([],((0,(Jq,[])),[]))).2).1,r13.2))
 l0 n K0 k r13.1 (Ju.wrap (i4+1)) w14
 else
 none
 else
 none
 else
 none
 else
 none
 else
 none
 else
 K0 k3 a5
def F (n:Nat)(a1:Wh)(k2:Int):Option Wf:=
 l0 n (λk15 a16=>
 some (k15,a16)) n k2 0 a1
def code:=Tryz.f81.body.getD .skip
abbrev ash:List ASh:=[.ms Qe QH,.ro QA]
abbrev rsh:List RSh:=[.ro QA,.out Qe]
def b0:=JA (JA (Jy (JA (Jy code))))
abbrev sh0:ES:=⟨[(0,.al 0 []),(1,.v QA),(5,.v QA)],[⟨0,.sl Qf,.own QJ,false,true,none⟩]⟩
abbrev sh0_0:ES:=⟨[(0,.al 0 []),(1,.v QA)],[⟨0,.sl Qf,.own QJ,false,true,none⟩]⟩
def g0:GL rsh sh0:=λn m x kn kx=>l0 n (λy0 y1=>kx 0 (sh0_0.enc (((()),y0,()),(y1,())))) m x.1.2.1 x.1.2.2.1 x.2.1
def B:Bd:=⟨ash,rsh,[gl.E,gi.E,aN.E,dE.E],⟨code,52,.nil,[(.tmp 4,.int .i64,.ro)]⟩,[⟨0,sh0,g0⟩]⟩
theorem u0:UO B 0 (.loop b0):=
 lu (.seq Vi (.seq (.block (some [0,1,5]) (.seq .nil W7)) .nil)) [(0,[0,1])] [0,1,5] sh0 g0 mn
def E:En:=⟨81,λn=>⟨B.a,B.r,λv=>F n v.1 v.2.1⟩,cD B (.seq .nil (.seq (.seq .nil (.block (some [0,1]) (.cut 0 [0,1,5]))) Vm)) Tryz.func81 (mc u0 mn)⟩
end fp
namespace io
def F (n:Nat)(a1:Wb)(k2:Int):Option (Int×Wu×Wy×List Wk):=
 (dM.F n a1.1 k2).bind λr3=>
 (e8.F n a1.2.1 r3.1).bind λr4=>
 (fp.F n a1.2.2 r4.1).bind λr5=>
 some (r5.1,(r3.2,(r4.2,r5.2)))
def code:=Tryz.f21.body.getD .skip
abbrev ash:List ASh:=[.ms Qc QD,.ro QA]
abbrev rsh:List RSh:=[.ro QA,.out Qc]
def B:Bd:=⟨ash,rsh,[dM.E,e8.E,fp.E],⟨code,18,.nil,[(.tmp 4,.int .i64,.ro)]⟩,[]⟩
def E:En:=⟨21,λn=>⟨B.a,B.r,λv=>F n v.1 v.2.1⟩,cD B W7 Tryz.func21 mn⟩
end io
namespace dv
def l0 (n:Nat)(a3:WL)(K0:Int->Option Int):Nat->Int->Int->Option Int
 |0,_,_=>none
 |k+1,k4,i5=>
 if decide (i5<(Jr a3:Int))=true then
 if(0:Int)<=i5/\i5<(Jr a3:Int)then
 (aN.F n k4).bind λr6=>
 if(!(Km (Jv a3 (Jt i5) Jq) r6))=true then
 some (-1)
 else
 l0 n a3 K0 k (Ju.wrap (k4+1)) (Ju.wrap (i5+1))
 else
 none
 else
 K0 k4
def F (n:Nat)(a1:WL)(k2:Int):Option Int:=
 l0 n a1 (λk7=>
 some k7) n k2 0
def code:=Tryz.f158.body.getD .skip
abbrev ash:List ASh:=[.ro Qz,.ro QA]
abbrev rsh:List RSh:=[.ro QA]
def b0:=JA (JA (Jy (JA (Jy code))))
abbrev sh0:ES:=⟨[(0,.v Qz),(1,.v QA),(5,.v QA)],[]⟩
abbrev sh0_0:ES:=⟨[(1,.v QA)],[]⟩
def g0:GL rsh sh0:=λn m x kn kx=>l0 n x.1.1 (λy0=>kx 0 (sh0_0.enc ((y0,()),(())))) m x.1.2.1 x.1.2.2.1
def B:Bd:=⟨ash,rsh,[aN.E],⟨code,22,.nil,[(.tmp 4,.int .i64,.ro)]⟩,[⟨0,sh0,g0⟩]⟩
theorem u0:UO B 0 (.loop b0):=
 lu (.seq Vi (.seq (.block (some [0,1,5]) Vb) .nil)) [(0,[1])] [0,1,5] sh0 g0 mn
def E:En:=⟨158,λn=>⟨B.a,B.r,λv=>F n v.1 v.2.1⟩,cD B (.seq .nil (.seq (.seq .nil (.block (some [1]) (.cut 0 [0,1,5]))) Vm)) Tryz.func158 (mc u0 mn)⟩
end dv
namespace gk
def l0 (n:Nat)(a3:WE)(K0:Int->Option Int):Nat->Int->Int->Option Int
 |0,_,_=>none
 |k+1,k4,i5=>
 if decide (i5<(Jr a3:Int))=true then
 if(0:Int)<=i5/\i5<(Jr a3:Int)then
 (aN.F n k4).bind λr6=>
 if(!(Km ((Jv a3 (Jt i5) (Jq,[])).1) r6))=true then
 some (-1)
 else
 if(0:Int)<=i5/\i5<(Jr a3:Int)then
 (dv.F n ((Jv a3 (Jt i5) (Jq,[])).2) (Ju.wrap (k4+1))).bind λr7=>
 if decide (r7<0)=true then
 some (-1)
 else
 l0 n a3 K0 k r7 (Ju.wrap (i5+1))
 else
 none
 else
 none
 else
 K0 k4
def F (n:Nat)(a1:WE)(k2:Int):Option Int:=
 l0 n a1 (λk8=>
 some k8) n k2 0
def code:=Tryz.f157.body.getD .skip
abbrev ash:List ASh:=[.ro Qv,.ro QA]
abbrev rsh:List RSh:=[.ro QA]
def b0:=JA (JA (Jy (JA (Jy code))))
abbrev sh0:ES:=⟨[(0,.v Qv),(1,.v QA),(5,.v QA)],[]⟩
abbrev sh0_0:ES:=⟨[(1,.v QA)],[]⟩
def g0:GL rsh sh0:=λn m x kn kx=>l0 n x.1.1 (λy0=>kx 0 (sh0_0.enc ((y0,()),(())))) m x.1.2.1 x.1.2.2.1
def B:Bd:=⟨ash,rsh,[aN.E,dv.E],⟨code,32,.nil,[(.tmp 4,.int .i64,.ro)]⟩,[⟨0,sh0,g0⟩]⟩
theorem u0:UO B 0 (.loop b0):=
 lu (.seq Vi (.seq (.block (some [0,1,5]) WU) .nil)) [(0,[1])] [0,1,5] sh0 g0 mn
def E:En:=⟨157,λn=>⟨B.a,B.r,λv=>F n v.1 v.2.1⟩,cD B (.seq .nil (.seq (.seq .nil (.block (some [1]) (.cut 0 [0,1,5]))) Vm)) Tryz.func157 (mc u0 mn)⟩
end gk
namespace dL
def l0 (n:Nat)(a3:Wu)(K0:Int->Option Int):Nat->Int->Int->Option Int
 |0,_,_=>none
 |k+1,k4,i5=>
 if decide (i5<(Jr a3:Int))=true then
 if(0:Int)<=i5/\i5<(Jr a3:Int)then
 (aN.F n k4).bind λr6=>
 if(!(Km ((Jv a3 (Jt i5) (Jq,[])).1) r6))=true then
 some (-1)
 else
 if(0:Int)<=i5/\i5<(Jr a3:Int)then
 (gk.F n ((Jv a3 (Jt i5) (Jq,[])).2) (Ju.wrap (k4+1))).bind λr7=>
 if decide (r7<0)=true then
 some (-1)
 else
 l0 n a3 K0 k r7 (Ju.wrap (i5+1))
 else
 none
 else
 none
 else
 K0 k4
def F (n:Nat)(a1:Wu)(k2:Int):Option Int:=
 l0 n a1 (λk8=>
 some k8) n k2 0
def code:=Tryz.f82.body.getD .skip
abbrev ash:List ASh:=[.ro Qj,.ro QA]
abbrev rsh:List RSh:=[.ro QA]
def b0:=JA (JA (Jy (JA (Jy code))))
abbrev sh0:ES:=⟨[(0,.v Qj),(1,.v QA),(5,.v QA)],[]⟩
abbrev sh0_0:ES:=⟨[(1,.v QA)],[]⟩
def g0:GL rsh sh0:=λn m x kn kx=>l0 n x.1.1 (λy0=>kx 0 (sh0_0.enc ((y0,()),(())))) m x.1.2.1 x.1.2.2.1
def B:Bd:=⟨ash,rsh,[aN.E,gk.E],⟨code,32,.nil,[(.tmp 4,.int .i64,.ro)]⟩,[⟨0,sh0,g0⟩]⟩
theorem u0:UO B 0 (.loop b0):=
 lu (.seq Vi (.seq (.block (some [0,1,5]) WU) .nil)) [(0,[1])] [0,1,5] sh0 g0 mn
def E:En:=⟨82,λn=>⟨B.a,B.r,λv=>F n v.1 v.2.1⟩,cD B (.seq .nil (.seq (.seq .nil (.block (some [1]) (.cut 0 [0,1,5]))) Vm)) Tryz.func82 (mc u0 mn)⟩
end dL
namespace eb
def l0 (n:Nat)(a3:Wy)(K0:Int->Option Int):Nat->Int->Int->Option Int
 |0,_,_=>none
 |k+1,k4,i5=>
 if decide (i5<(Jr a3:Int))=true then
 if(0:Int)<=i5/\i5<(Jr a3:Int)then
 (aN.F n k4).bind λr6=>
 if(!(Km ((Jv a3 (Jt i5) (Jq,([],0))).1) r6))=true then
 some (-1)
 else
 if(0:Int)<=i5/\i5<(Jr a3:Int)then
 (dv.F n (((Jv a3 (Jt i5) (Jq,([],0))).2).1) (Ju.wrap (k4+1))).bind λr7=>
 if decide (r7<0)=true then
 some (-1)
 else
 if(0:Int)<=i5/\i5<(Jr a3:Int)then
 if(!decide ((((Jv a3 (Jt i5) (Jq,([],0))).2).2)=r7))=true then
 some (-1)
 else
 l0 n a3 K0 k (Ju.wrap (r7+1)) (Ju.wrap (i5+1))
 else
 none
 else
 none
 else
 none
 else
 K0 k4
def F (n:Nat)(a1:Wy)(k2:Int):Option Int:=
 l0 n a1 (λk8=>
 some k8) n k2 0
def code:=Tryz.f83.body.getD .skip
abbrev ash:List ASh:=[.ro Qm,.ro QA]
abbrev rsh:List RSh:=[.ro QA]
def b0:=JA (JA (Jy (JA (Jy code))))
abbrev sh0:ES:=⟨[(0,.v Qm),(1,.v QA),(5,.v QA)],[]⟩
abbrev sh0_0:ES:=⟨[(1,.v QA)],[]⟩
def g0:GL rsh sh0:=λn m x kn kx=>l0 n x.1.1 (λy0=>kx 0 (sh0_0.enc ((y0,()),(())))) m x.1.2.1 x.1.2.2.1
def B:Bd:=⟨ash,rsh,[aN.E,dv.E],⟨code,41,.nil,[(.tmp 4,.int .i64,.ro)]⟩,[⟨0,sh0,g0⟩]⟩
theorem u0:UO B 0 (.loop b0):=
 lu (.seq Vi (.seq (.block (some [0,1,5]) (.seq Vf (.seq .nil (.seq .nil (.seq Vf Vb))))) .nil)) [(0,[1])] [0,1,5] sh0 g0 mn
def E:En:=⟨83,λn=>⟨B.a,B.r,λv=>F n v.1 v.2.1⟩,cD B (.seq .nil (.seq (.seq .nil (.block (some [1]) (.cut 0 [0,1,5]))) Vm)) Tryz.func83 (mc u0 mn)⟩
end eb
namespace fq
def l0 (n:Nat)(a3:Wh)(K0:Int->Option Int):Nat->Int->Int->Option Int
 |0,_,_=>none
 |k+1,k4,i5=>
 if decide (i5<(Jr a3:Int))=true then
 if(0:Int)<=i5/\i5<(Jr a3:Int)then
 (gf.F n ((Jv a3 (Jt i5) ([],((0,(Jq,[])),[]))).1) k4).bind λr6=>
 if decide (r6<0)=true then
 some (-1)
 else
 if(0:Int)<=i5/\i5<(Jr a3:Int)then
 if(!decide (((((Jv a3 (Jt i5) ([],((0,(Jq,[])),[]))).2).1).1)=r6))=true then
 some (-1)
 else
 if(0:Int)<=i5/\i5<(Jr a3:Int)then
 (aN.F n (Ju.wrap (r6+1))).bind λr7=>
 if(!(Km (((((Jv a3 (Jt i5) ([],((0,(Jq,[])),[]))).2).1).2).1) r7))=true then
 some (-1)
 else
 if(0:Int)<=i5/\i5<(Jr a3:Int)then
 (dD.F n (((((Jv a3 (Jt i5) ([],((0,(Jq,[])),[]))).2).1).2).2) (Ju.wrap ((Ju.wrap (r6+1))+1))).bind λr8=>
 if decide (r8<0)=true then
 some (-1)
 else
 if(0:Int)<=i5/\i5<(Jr a3:Int)then
 (gm.F n (((Jv a3 (Jt i5) ([],((0,(Jq,[])),[]))).2).2) r8).bind λr9=>
 if decide (r9<0)=true then
 some (-1)
 else
 l0 n a3 K0 k r9 (Ju.wrap (i5+1))
 else
 none
 else
 none
 else
 none
 else
 none
 else
 none
 else
 K0 k4
def F (n:Nat)(a1:Wh)(k2:Int):Option Int:=
 l0 n a1 (λk10=>
 some k10) n k2 0
def code:=Tryz.f84.body.getD .skip
abbrev ash:List ASh:=[.ro Qe,.ro QA]
abbrev rsh:List RSh:=[.ro QA]
def b0:=JA (JA (Jy (JA (Jy code))))
abbrev sh0:ES:=⟨[(0,.v Qe),(1,.v QA),(5,.v QA)],[]⟩
abbrev sh0_0:ES:=⟨[(1,.v QA)],[]⟩
def g0:GL rsh sh0:=λn m x kn kx=>l0 n x.1.1 (λy0=>kx 0 (sh0_0.enc ((y0,()),(())))) m x.1.2.1 x.1.2.2.1
def B:Bd:=⟨ash,rsh,[gf.E,gm.E,aN.E,dD.E],⟨code,62,.nil,[(.tmp 4,.int .i64,.ro)]⟩,[⟨0,sh0,g0⟩]⟩
theorem u0:UO B 0 (.loop b0):=
 lu (.seq Vi (.seq (.block (some [0,1,5]) (.seq .nil (.seq Vf (.seq Vf (.seq .nil (.seq Vf (.seq .nil (.seq .nil (.seq Vf Va))))))))) .nil)) [(0,[1])] [0,1,5] sh0 g0 mn
def E:En:=⟨84,λn=>⟨B.a,B.r,λv=>F n v.1 v.2.1⟩,cD B (.seq .nil (.seq (.seq .nil (.block (some [1]) (.cut 0 [0,1,5]))) Vm)) Tryz.func84 (mc u0 mn)⟩
end fq
namespace ij
def F (n:Nat)(a1:Wb)(k2:Int):Option Int:=
 (dL.F n a1.1 k2).bind λr3=>
 if decide (r3<0)=true then
 some (-1)
 else
 (eb.F n a1.2.1 r3).bind λr4=>
 if decide (r4<0)=true then
 some (-1)
 else
 (fq.F n a1.2.2 r4).bind λr5=>
 if decide (r5<0)=true then
 some (-1)
 else
 some r5
def code:=Tryz.f22.body.getD .skip
abbrev ash:List ASh:=[.ro Qc,.ro QA]
abbrev rsh:List RSh:=[.ro QA]
def B:Bd:=⟨ash,rsh,[dL.E,eb.E,fq.E],⟨code,24,.nil,[(.tmp 4,.int .i64,.ro)]⟩,[]⟩
def E:En:=⟨22,λn=>⟨B.a,B.r,λv=>F n v.1 v.2.1⟩,cD B WO Tryz.func22 mn⟩
end ij
namespace laws_FnExactOnce
def j0 (n:Nat)(t12:Wb)(t13:Wb)(t14:Wb):Option Bool:=
 (io.F n t14 1).bind λr15=>
 (ij.F n r15.2 1).bind λr16=>
 if decide (r16<0)=true then
 some false
 else
 if(!decide (r16=r15.1))=true then
 some false
 else
 (gI.F n t12).bind λr17=>
 (jn.F n r17).bind λr18=>
 (gD.F n r18 t13).bind λr19=>
 if(!r19)=true then
 some false
 else
 (ij.F n r15.2 1).bind λr20=>
 if decide (r20<0)=true then
 some false
 else
 if(!decide (r20=r15.1))=true then
 some false
 else
 some true
def F (n:Nat)(t1:Wb):Option Bool:=
 (kt.F n t1 1048576).bind λr2=>
 if decide (r2<0)=true then
 some true
 else
 (gI.F n t1).bind λr3=>
 (iT.F n r3).bind λr4=>
 (gI.F n t1).bind λr5=>
 (jn.F n r5).bind λr6=>
 (gD.F n r6 r4).bind λr7=>
 if(!r7)=true then
 some false
 else
 (gI.F n t1).bind λr8=>
 (gD.F n r5 r8).bind λr9=>
 if(!r9)=true then
 some false
 else
 (io.F n r5 1).bind λr10=>
 if(decide (r10.1<0))=false then
 (gD.F n r6 r4).bind λr11=>
 if(!r11)=true then
 some false
 else
 j0 n t1 r4 r6
 else
 some false
def code:=Tryz.f6.body.getD .skip
abbrev ash:List ASh:=[.ro Qc]
abbrev rsh:List RSh:=[.ro .bool]
def c0:=Jy (Jy (Jy (Jy (Jy (Jy (Jy (Jy (Jy (Jy (Jy (Jy code)))))))))))
abbrev sh0:ES:=⟨[(1,.pt 1 []),(4,.pt 4 []),(6,.pt 6 [])],[⟨1,.st Qd,.ro,true,false,none⟩,⟨4,.st Qd,.ro,true,false,none⟩,⟨6,.st Qd,.pr QP QE,true,false,none⟩]⟩
def g0:GL rsh sh0:=λn m x kn kx=>j0 n x.2.1 x.2.2.1 x.2.2.2.1
def B:Bd:=⟨ash,rsh,[kt.E,gI.E,gD.E,io.E,ij.E,iT.E,jn.E],⟨code,69,.nil,[(.tmp 2,.bool,.ro)]⟩,[⟨0,sh0,g0⟩]⟩
theorem u0:UO B 0 c0:=
 ju (.seq .nil (.seq .nil (.seq .nil (.seq .nil (.seq Vf (.seq Vf (.seq .nil (.seq Vf (.seq .nil WT))))))))) [] [2] sh0 g0 mn
def E:En:=⟨6,λn=>⟨B.a,B.r,λv=>F n v.1⟩,cD B (.seq .nil (.seq .nil (.seq .nil (.seq Vf (.seq .nil (.seq (.reg [(20,.pr QP QE),(5,.pr QZ QW)]) (.seq (.reg [(22,.pr QP QE),(6,.pr QZ QW)]) (.seq Vf (.seq Vf (.seq .nil (.seq .nil (.seq Vf (.cut 0 [1,4,6]))))))))))))) Tryz.func6 (mc u0 mn)⟩
def ent (n:Nat):ip:=⟨ash,rsh,λv=>F n v.1⟩
theorem ok (n:Nat):aq JC 6 (ent n):=E.ok n
end laws_FnExactOnce
end
end Go.Abs
