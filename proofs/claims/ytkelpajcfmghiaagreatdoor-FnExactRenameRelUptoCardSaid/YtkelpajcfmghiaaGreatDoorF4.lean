/- The functions, and that a call of each comes to it. Conditions: none. -/
import Derived.Test.YtkelpajcfmghiaaGreatDoorF0
open ByteArray renaming empty → Jd,extract → Jz,size → Jf
open Go.Abs renaming seq → JL
open Go.Abs.Code renaming l → Jn,r → Jl
open Go.Abs.ES renaming on → L7
open Go.IntKind renaming i64 → Jh,u8 → L8
open Go.Proofs.Tryz renaming prog → Jp
open Int renaming toNat → Jg
open List renaming getD → Ji,length → Je,replicate → JZ,set → Kl
set_option linter.unusedVariables false
set_option linter.unusedSimpArgs false
namespace Go.Abs
noncomputable section
open Go.Proofs
namespace cO
def F (n:Nat)(r1:Q7)(kind2:Int):Option Q1:=
 (cX.F n r1 1).bind λr3=>
 (bl.F n r3.2 ⟨#[40]⟩).bind λr4=>
 (aB.F n r4 ⟨#[41]⟩).bind λr5=>
 if(!r5.1)=true then
 (ae.F n r5.2).bind λr6=>
 some ((kind2,(r3.1,r6.1)),r6.2)
 else
 some ((kind2,(r3.1,[])),r5.2)
def code:=Tryz.f193.body.getD .skip
abbrev ash:List ASh:=[.mp Qa QI,.ro QA]
abbrev rsh:List RSh:=[.ro Qn,.out Qa]
def B:Bd:=⟨ash,rsh,[cX.E,bl.E,aB.E,ae.E],⟨code,19,.nil,[(.cell 4 31,.st Qr,.ro)]⟩,[]⟩
def E:En:=⟨193,λn=>⟨B.a,B.r,λv=>F n v.1 v.2.1⟩,cG B (.seq .nil W1) Tryz.func193 mn⟩
end cO
namespace bg
def l1 (n:Nat)(t11:Int)(t12:WL)(t13:Int)(t15:Q7)(t16:WG)(K0:WG->Option Q1):Nat->Int->WG->Option Q1
 |0,_,_=>none
 |k+1,t14,t17=>
 if decide (t14<t13)=true then
 if(0:Int)<=t14/\t14<(Je t12:Int)then
 (bQ.F n t15 (Ji t12 (Jg t14) Jd)).bind λr18=>
 if r18=true then
 l1 n t11 t12 t13 t15 t16 K0 k (Jh.wrap (t14+1)) (t17.1,(Ji t12 (Jg t14) Jd,t17.2.2))
 else
 l1 n t11 t12 t13 t15 t16 K0 k (Jh.wrap (t14+1)) t17
 else
 none
 else
 K0 t17
def j0 (n:Nat)(t8:Q7)(t9:WG):Option Q1:=
 (af.F n t8).bind λr10=>
 l1 n r10.1 ([⟨#[61]⟩,⟨#[33,61]⟩,⟨#[60]⟩,⟨#[60,61]⟩]:WL) (Je ([⟨#[61]⟩,⟨#[33,61]⟩,⟨#[60]⟩,⟨#[60,61]⟩]:WL):Int) r10.2 t9 (λt19=>
 if(JL t19.2.1 Jd)=true then
 (bf.F n r10.2).bind λr20=>
 some (t19,r20)
 else
 (af.F n (r10.2.1,(Jh.wrap (r10.2.2.1+1),r10.2.2.2))).bind λr21=>
 some ((t19.1,(t19.2.1,[r10.1,r21.1])),r21.2)) n 0 (3,(Jd,[]))
def F (n:Nat)(t1:Q7):Option Q1:=
 (aB.F n t1 ⟨#[33]⟩).bind λr2=>
 if r2.1=true then
 (cO.F n r2.2 2).bind λr3=>
 some (r3.1,r3.2)
 else
 (bh.F n r2.2 0).bind λr4=>
 if(decide (r4.1=1))=true then
 (bh.F n r2.2 1).bind λr5=>
 if(decide (r5.1=5))=true then
 (bh.F n r2.2 1).bind λr6=>
 if(JL r6.2.1 ⟨#[40]⟩)=true then
 (cO.F n r2.2 1).bind λr7=>
 some (r7.1,r7.2)
 else
 j0 n r2.2 (0,(Jd,[]))
 else
 j0 n r2.2 (0,(Jd,[]))
 else
 j0 n r2.2 (0,(Jd,[]))
def code:=Tryz.f194.body.getD .skip
abbrev ash:List ASh:=[.mp Qa QI]
abbrev rsh:List RSh:=[.ro Qn,.out Qa]
def c0:=Jl (Jl (Jl code))
def b1:=Jn (Jn (Jl (Jn (Jl (Jl c0)))))
abbrev sh1:ES:=⟨[(0,.pt 0 []),(2,.pt 2 []),(3,.pt 3 []),(4,.v QA),(33,.v Qz),(34,.v QA),(35,.v QA)],[⟨0,.st Qb,.pr .ro QL,true,true,none⟩,⟨2,.st Qr,.ro,true,false,none⟩,⟨3,.st Qr,.ro,true,false,none⟩]⟩
abbrev sh1_0:ES:=⟨[(0,.pt 0 []),(2,.pt 2 []),(3,.pt 3 []),(4,.v QA)],[⟨0,.st Qb,.pr .ro QL,true,true,none⟩,⟨2,.st Qr,.ro,true,false,none⟩,⟨3,.st Qr,.ro,true,false,none⟩]⟩
abbrev sh0:ES:=⟨[(0,.pt 0 []),(2,.pt 2 [])],[⟨0,.st Qb,.pr .ro QL,true,true,none⟩,⟨2,.st Qr,.ro,true,false,none⟩]⟩
def g1:GL rsh sh1:=λn m x kn kx=>l1 n x.1.2.2.2.1 x.1.2.2.2.2.1 x.1.2.2.2.2.2.1 x.2.1 x.2.2.1 (λy0=>kx 0 (sh1_0.enc (((()),(()),(()),x.1.2.2.2.1,()),(x.2.1,x.2.2.1,y0,())))) m x.1.2.2.2.2.2.2.1 x.2.2.2.1
def g0:GL rsh sh0:=λn m x kn kx=>j0 n x.2.1 x.2.2.1
def B:Bd:=⟨ash,rsh,[bQ.E,bh.E,cO.E,bf.E,aB.E,af.E],⟨code,65,.nil,[(.cell 2 31,.st Qr,.ro)]⟩,[⟨1,sh1,g1⟩,⟨0,sh0,g0⟩]⟩
theorem u1:UO B 1 (.loop b1):=
 lu (.seq .nil (.seq Vl (.seq (.block (some [0,2,3,4,33,34,35]) Ve) .nil))) [(0,[0,2,3,4])] [0,2,3,4,33,34,35] sh1 g1 mn
theorem u0:UO B 0 c0:=
 ju (.seq .nil (.seq .nil (.seq (.seq .nil (.block (some [0,2,3,4]) (.cut 1 [0,2,3,4,33,34,35]))) (.seq Va Vd)))) [] [0,2] sh0 g0 (mc u1 mn)
def E:En:=⟨194,λn=>⟨B.a,B.r,λv=>F n v.1⟩,cG B (.seq .nil (.seq Vf (.seq Vf (.cut 0 [0,2])))) Tryz.func194 (mc u0 mn)⟩
end bg
namespace av
def l0 (n:Nat)(K3:Q7->Ww->Option Q7):Nat->Q7->Ww->Option Q7
 |0,_,_=>none
 |k+1,t6,t7=>
 (aT.F n t6 ⟨#[124]⟩).bind λr8=>
 if r8.1=true then
 (dm.F n r8.2).bind λr9=>
 if Je t7.2+Je [r9.1]<=aU then
 l0 n K3 k r9.2 (t7.1,t7.2++[r9.1])
 else
 none
 else
 K3 r8.2 t7
def l2 (n:Nat)(t21:WL)(t22:Int)(K5:Q7->WC->Option Q7):Nat->Int->Q7->WC->Option Q7
 |0,_,_,_=>none
 |k+1,t23,t24,t25=>
 if decide (t23<t22)=true then
 if(0:Int)<=t23/\t23<(Je t21:Int)then
 if(decide (t25.2.2=0))=true then
 (aT.F n t24 (Ji t21 (Jg t23) Jd)).bind λr26=>
 if r26.1=true then
 l2 n t21 t22 K5 k (Jh.wrap (t23+1)) r26.2 (t25.1,(t25.2.1,Jh.wrap (t23+1)))
 else
 l2 n t21 t22 K5 k (Jh.wrap (t23+1)) r26.2 t25
 else
 l2 n t21 t22 K5 k (Jh.wrap (t23+1)) t24 t25
 else
 none
 else
 K5 t24 t25
def j1 (n:Nat)(t19:Q7)(t20:WC)(Kn:Q7->Option Q7):Option Q7:=
 l2 n ([⟨#[105,110,112,117,116]⟩,⟨#[111,117,116,112,117,116]⟩,⟨#[105,110,108,105,110,101]⟩]:WL) (Je ([⟨#[105,110,112,117,116]⟩,⟨#[111,117,116,112,117,116]⟩,⟨#[105,110,108,105,110,101]⟩]:WL):Int) (λt27 t28=>
 (bo.F n t27 ⟨#[46]⟩).bind λr29=>
 if Je r29.2.2.2.2.2.2.2.2.1+Je [t28]<=aU then
 Kn (r29.1,(r29.2.1,(r29.2.2.1,(r29.2.2.2.1,(r29.2.2.2.2.1,(r29.2.2.2.2.2.1,(r29.2.2.2.2.2.2.1,(r29.2.2.2.2.2.2.2.1,(r29.2.2.2.2.2.2.2.2.1++[t28],r29.2.2.2.2.2.2.2.2.2)))))))))
 else
 none) n 0 t19 t20
def l3 (n:Nat)(K1:Q7->Wk->Option Q7):Nat->Q7->Wk->Option Q7
 |0,_,_=>none
 |k+1,t35,t36=>
 (aB.F n t35 ⟨#[44]⟩).bind λr37=>
 if r37.1=true then
 (bg.F n r37.2).bind λr38=>
 if Je t36.2.2+Je [r38.1]<=aU then
 l3 n K1 k r38.2 (t36.1,(t36.2.1,t36.2.2++[r38.1]))
 else
 none
 else
 K1 r37.2 t36
def j4 (n:Nat)(t41:Q7)(t42:Wk)(Kn:Q7->Option Q7):Option Q7:=
 (bl.F n t41 ⟨#[46]⟩).bind λr43=>
 (aW.F n r43 (Je t42.2.2:Int) 12).bind λr44=>
 (aW.F n r44 (Je r43.2.2.2.2.2.2.1:Int) 60).bind λr45=>
 if Je r45.2.2.2.2.2.2.2.2.2+Je [(r43.2.2.2.2.2.2.1,t42.2)]<=aU then
 Kn (r45.1,(r45.2.1,(r45.2.2.1,(r45.2.2.2.1,(r45.2.2.2.2.1,(r45.2.2.2.2.2.1,(r45.2.2.2.2.2.2.1,(r45.2.2.2.2.2.2.2.1,(r45.2.2.2.2.2.2.2.2.1,r45.2.2.2.2.2.2.2.2.2++[(r43.2.2.2.2.2.2.1,t42.2)])))))))))
 else
 none
def F (n:Nat)(t1:Q7):Option Q7:=
 (aT.F n t1 ⟨#[116,121,112,101]⟩).bind λr2=>
 if r2.1=true then
 (bE.F n r2.2 2).bind λr3=>
 (bo.F n r3.2 ⟨#[61]⟩).bind λr4=>
 (dm.F n r4).bind λr5=>
 if Je ([]:WE)+Je [r5.1]<=aU then
 l0 n (λt10 t11=>
 (bo.F n t10 ⟨#[46]⟩).bind λr12=>
 (aW.F n r12 (Je t11.2:Int) 12).bind λr13=>
 if Je r13.2.2.2.2.2.2.2.1+Je [t11]<=aU then
 some (r13.1,(r13.2.1,(r13.2.2.1,(r13.2.2.2.1,(r13.2.2.2.2.1,(r13.2.2.2.2.2.1,(r13.2.2.2.2.2.2.1,(r13.2.2.2.2.2.2.2.1++[t11],r13.2.2.2.2.2.2.2.2))))))))
 else
 none) n r5.2 (r3.1,[]++[r5.1])
 else
 none
 else
 (aT.F n r2.2 ⟨#[114,101,108]⟩).bind λr14=>
 if r14.1=true then
 (bE.F n r14.2 1).bind λr15=>
 (bo.F n r15.2 ⟨#[40]⟩).bind λr16=>
 (aT.F n r16 ⟨#[41]⟩).bind λr17=>
 if(!r17.1)=true then
 (bq.F n r17.2).bind λr18=>
 j1 n r18.2 (r15.1,(r18.1,0)) (λt30=>
 some t30)
 else
 j1 n r17.2 (r15.1,([],0)) (λt31=>
 some t31)
 else
 (cO.F n (r14.2.1,(r14.2.2.1,(r14.2.2.2.1,(r14.2.2.2.2.1,(r14.2.2.2.2.2.1,(r14.2.2.2.2.2.2.1,([],r14.2.2.2.2.2.2.2.2))))))) 1).bind λr32=>
 (aB.F n r32.2 ⟨#[58,45]⟩).bind λr33=>
 if r33.1=true then
 (bg.F n r33.2).bind λr34=>
 if Je ([]:WD)+Je [r34.1]<=aU then
 l3 n (λt39 t40=>
 j4 n t39 t40 (λt46=>
 some t46)) n r34.2 ([],(r32.1,[]++[r34.1]))
 else
 none
 else
 j4 n r33.2 ([],(r32.1,[])) (λt47=>
 some t47)
def code:=Tryz.f123.body.getD .skip
abbrev ash:List ASh:=[.mp Qa QK]
abbrev rsh:List RSh:=[.out Qa]
def c1:=Jl (Jl (Jl (Jn (Jl (Jl (Jl (Jn code)))))))
def b0:=Jn (Jn (Jn (Jl (Jl (Jl (Jn (Jl (Jn code))))))))
def c4:=Jl (Jl (Jl (Jl (Jl (Jl (Jl (Jl (Jn code))))))))
def b2:=Jn (Jn (Jl (Jn c1)))
def b3:=Jn (Jn (Jl (Jn (Jl (Jn (Jl (Jl (Jl (Jl (Jl (Jl (Jl (Jn code)))))))))))))
abbrev sh0:ES:=⟨[(0,.pt 0 []),(2,.pt 2 [])],[⟨0,.st Qb,.pr .ro QM,true,true,none⟩,⟨2,.st Qp,.pr .ro QZ,true,false,none⟩]⟩
abbrev sh2:ES:=⟨[(0,.pt 0 []),(3,.pt 3 []),(119,.v Qz),(120,.v QA),(121,.v QA)],[⟨0,.st Qb,.pr .ro QM,true,true,none⟩,⟨3,.st Qt,.ro,true,false,none⟩]⟩
abbrev sh2_5:ES:=⟨[(0,.pt 0 []),(3,.pt 3 [])],[⟨0,.st Qb,.pr .ro QM,true,true,none⟩,⟨3,.st Qt,.ro,true,false,none⟩]⟩
abbrev sh1_n:ES:=⟨[(0,.pt 0 [])],[⟨0,.st Qb,.pr .ro QM,true,true,none⟩]⟩
abbrev sh3:ES:=⟨[(0,.pt 0 []),(6,.pt 6 [])],[⟨0,.st Qb,.pr .ro QL,true,true,none⟩,⟨6,.st Qg,.pr .ro QX,true,false,none⟩]⟩
def g0:GL rsh sh0:=λn m x kn kx=>l0 n (λy0 y1=>kx 3 (sh0.enc (((()),(()),()),(y0,y1,())))) m x.2.1 x.2.2.1
def g2:GL rsh sh2:=λn m x kn kx=>l2 n x.1.2.2.1 x.1.2.2.2.1 (λy0 y1=>kx 5 (sh2_5.enc (((()),(()),()),(y0,y1,())))) m x.1.2.2.2.2.1 x.2.1 x.2.2.1
def g1:GL rsh sh2_5:=λn m x kn kx=>j1 n x.2.1 x.2.2.1 (λy0=>kn (sh1_n.enc (((()),()),(y0,()))))
def g3:GL rsh sh3:=λn m x kn kx=>l3 n (λy0 y1=>kx 1 (sh3.enc (((()),(()),()),(y0,y1,())))) m x.2.1 x.2.2.1
def g4:GL rsh sh3:=λn m x kn kx=>j4 n x.2.1 x.2.2.1 (λy0=>kn (sh1_n.enc (((()),()),(y0,()))))
def B:Bd:=⟨ash,rsh,[aT.E,bE.E,bo.E,dm.E,bq.E,aW.E,cO.E,bl.E,aB.E,bg.E],⟨code,152,.nil,[]⟩,[⟨0,sh0,g0⟩,⟨2,sh2,g2⟩,⟨1,sh2_5,g1⟩,⟨3,sh3,g3⟩,⟨4,sh3,g4⟩]⟩
theorem u0:UO B 0 (.loop b0):=
 lu (.seq Vi (.block (some [0,2]) .nil)) [(0,[0]),(3,[0,2])] [0,2] sh0 g0 mn
theorem u2:UO B 2 (.loop b2):=
 lu (.seq .nil (.seq Vl (.seq (.block (some [0,3,119,120,121]) Ve) .nil))) [(0,[0]),(5,[0,3])] [0,3,119,120,121] sh2 g2 mn
theorem u1:UO B 1 c1:=
 ju (.seq (.seq .nil (.block (some [0,3]) (.cut 2 [0,3,119,120,121]))) Vm) [(0,[0])] [0] sh2_5 g1 (mc u2 mn)
theorem u3:UO B 3 (.loop b3):=
 lu (.seq Vi (.block (some [0,6]) .nil)) [(0,[0]),(1,[0,6])] [0,6] sh3 g3 mn
theorem u4:UO B 4 c4:=
 ju (.seq .nil (.seq (.reg [(38,.ro)]) (.seq .nil (.seq .nil (.reg [(56,.ro)]))))) [(0,[0])] [0] sh3 g4 mn
def E:En:=⟨123,λn=>⟨B.a,B.r,λv=>F n v.1⟩,cG B (.block (some [0]) (.seq .nil (.cond (.seq (.reg [(67,.pr .ro QZ),(2,.pr .ro QZ)]) (.seq .nil (.seq .nil (.seq (.block (some [0,2]) (.cut 0 [0,2])) (.seq .nil (.seq .nil (.reg [(99,.ro)]))))))) (.seq .nil (.cond (.seq .nil (.seq .nil (.seq Vi (.cut 1 [0,3])))) (.seq (.reg [(7,.pr .ro QX),(6,.pr .ro QX)]) (.seq (.reg [(9,.own .ro)]) (.seq .nil (.seq (.seq .nil (.cond (.seq .nil (.block (some [0,6]) (.cut 3 [0,6]))) .nil)) (.cut 4 [0,6])))))))))) Tryz.func123 (mc u0 (mc u1 (mc u3 (mc u4 mn))))⟩
end av
namespace dV
def l0 (n:Nat)(t3:WF)(t4:Wc)(K0:Q7->Option Q9):Nat->Q7->Option Q9
 |0,_=>none
 |k+1,t5=>
 if(!t5.2.2.2.2.1)=true then
 if decide (t5.2.1<(Je t3:Int))=true then
 (av.F n t5).bind λr6=>
 l0 n t3 t4 K0 k r6
 else
 K0 t5
 else
 K0 t5
def F (n:Nat)(t1:ByteArray):Option Q9:=
 (az.F n t1).bind λr2=>
 if(!decide (r2.2.2=0))=true then
 some (([],([],[])),r2.2.1,r2.2.2)
 else
 l0 n r2.1 ([],([],[])) (λt7=>
 if t7.2.2.2.2.1=true then
 some (([],([],[])),t7.2.2.2.1,5)
 else
 (aW.F n t7 (Je t7.2.2.2.2.2.2.2.1:Int) 20).bind λr8=>
 (aW.F n r8 (Je r8.2.2.2.2.2.2.2.2.1:Int) 20).bind λr9=>
 (aW.F n r9 (Je r9.2.2.2.2.2.2.2.2.2:Int) 40).bind λr10=>
 if r10.2.2.2.2.2.1=true then
 some (([],([],[])),0,6)
 else
 some (r10.2.2.2.2.2.2.2,0,0)) n (r2.1,(0,((Jf t1:Int),(0,(false,(false,([],([],([],[])))))))))
def code:=Tryz.f56.body.getD .skip
abbrev ash:List ASh:=[.ro .str]
abbrev rsh:List RSh:=[.ro Qc,.ro QA,.ro QA]
def b0:=Jn (Jn (Jn (Jl (Jl (Jl (Jl code))))))
abbrev sh0:ES:=⟨[(2,.pt 2 []),(5,.v Qo),(8,.pt 8 [])],[⟨2,.st Qd,.ro,true,false,none⟩,⟨8,.st Qb,.pr .ro QM,true,false,none⟩]⟩
abbrev sh0_0:ES:=⟨[(2,.pt 2 []),(8,.pt 8 [])],[⟨2,.st Qd,.ro,true,false,none⟩,⟨8,.st Qb,.pr .ro QM,true,false,none⟩]⟩
def g0:GL rsh sh0:=λn m x kn kx=>l0 n x.1.2.1 x.2.1 (λy0=>kx 0 (sh0_0.enc (((()),(()),()),(x.2.1,y0,())))) m x.2.2.1
def B:Bd:=⟨ash,rsh,[az.E,av.E,aW.E],⟨code,83,.nil,[(.cell 2 53,.st Qd,.ro),(.tmp 3,.int .i64,.ro),(.tmp 4,.int .i64,.ro)]⟩,[⟨0,sh0,g0⟩]⟩
theorem u0:UO B 0 (.loop b0):=
 lu (.seq Vi (.block (some [2,5,8]) .nil)) [(0,[2,8])] [2,5,8] sh0 g0 mn
def E:En:=⟨56,λn=>⟨B.a,B.r,λv=>F n v.1⟩,cG B (.seq .nil (.seq .nil (.seq Vf (.seq (.reg [(23,.pr .ro QM)]) (.seq (.block (some [2,8]) (.cut 0 [2,5,8])) (.seq Vf (.seq .nil (.seq .nil (.seq .nil (.seq Vf (.seq (.reg [(82,.ro)]) .nil))))))))))) Tryz.func56 (mc u0 mn)⟩
end dV
namespace dX
def F (n:Nat)(t1:Int)(low2:Int)(high3:Int):Option Bool:=
 if(decide (t1>=low2))=true then
 some (decide (t1<=high3))
 else
 some false
def code:=Tryz.f125.body.getD .skip
abbrev ash:List ASh:=[.ro QA,.ro QA,.ro QA]
abbrev rsh:List RSh:=[.ro .bool]
def B:Bd:=⟨ash,rsh,[],⟨code,15,.nil,[(.tmp 6,.bool,.ro)]⟩,[]⟩
def E:En:=⟨125,λn=>⟨B.a,B.r,λv=>F n v.1 v.2.1 v.2.2.1⟩,cG B Vk Tryz.func125 mn⟩
end dX
namespace gU
def F (n:Nat)(kind1:Int):Option Bool:=
 (dX.F n kind1 5 7).bind λr2=>
 some r2
def code:=Tryz.f177.body.getD .skip
abbrev ash:List ASh:=[.ro QA]
abbrev rsh:List RSh:=[.ro .bool]
def B:Bd:=⟨ash,rsh,[dX.E],⟨code,5,.nil,[(.tmp 2,.bool,.ro)]⟩,[]⟩
def E:En:=⟨177,λn=>⟨B.a,B.r,λv=>F n v.1⟩,cG B Vk Tryz.func177 mn⟩
end gU
namespace jA
def F (n:Nat)(r1:Wk):Option WD:=
 if Je [r1.2.1]+Je r1.2.2<=aU then
 some ([r1.2.1]++r1.2.2)
 else
 none
def code:=Tryz.f109.body.getD .skip
abbrev ash:List ASh:=[.ro Qf]
abbrev rsh:List RSh:=[.ro Qk]
def B:Bd:=⟨ash,rsh,[],⟨code,9,.nil,[(.tmp 2,.sl Qn,.ro)]⟩,[]⟩
def E:En:=⟨109,λn=>⟨B.a,B.r,λv=>F n v.1⟩,cG B (.seq .nil (.seq (.reg [(5,.own .ro)]) .nil)) Tryz.func109 mn⟩
end jA
namespace cK
def l0 (n:Nat)(s3:WN)(f4:(Int×Unit)->Option Bool)(t5:Int)(K0:Unit->Option Int):Nat->Int->Option Int
 |0,_=>none
 |k+1,t6=>
 if decide (t6<t5)=true then
 if(0:Int)<=t6/\t6<(Je s3:Int)then
 (f4 (Ji s3 (Jg t6) 0,())).bind λr7=>
 if r7=true then
 some t6
 else
 l0 n s3 f4 t5 K0 k (Jh.wrap (t6+1))
 else
 none
 else
 K0 ()
def F (n:Nat)(s1:WN)(f2:(Int×Unit)->Option Bool):Option Int:=
 l0 n s1 f2 (Je s1:Int) (λ_=>
 some (-1)) n 0
def code:=Tryz.f173.body.getD .skip
abbrev ash:List ASh:=[.ro Qy,.fn [.int .i64] .bool]
abbrev rsh:List RSh:=[.ro QA]
def b0:=Jn (Jn (Jl (Jn (Jl code))))
abbrev sh0:ES:=⟨[(0,.v Qy),(1,.clo [.int .i64] .bool),(7,.v QA),(8,.v QA)],[]⟩
abbrev sh0_0:ES:=⟨[],[]⟩
def g0:GL rsh sh0:=λn m x kn kx=>l0 n x.1.1 x.1.2.1 x.1.2.2.1 (λ_=>kx 0 (sh0_0.enc ((()),(())))) m x.1.2.2.2.1
def B:Bd:=⟨ash,rsh,[],⟨code,19,.nil,[(.tmp 4,.int .i64,.ro)]⟩,[⟨0,sh0,g0⟩]⟩
theorem u0:UO B 0 (.loop b0):=
 lu (.seq .nil (.seq Vl (.seq (.block (some [0,1,7,8]) Vb) .nil))) [(0,[])] [0,1,7,8] sh0 g0 mn
def E:En:=⟨173,λn=>⟨B.a,B.r,λv=>F n v.1 v.2.1⟩,cG B (.seq .nil (.seq (.seq .nil (.block (some []) (.cut 0 [0,1,7,8]))) Vm)) Tryz.func173 (mc u0 mn)⟩
end cK
namespace dd
def F (n:Nat)(s1:WN)(f2:(Int×Unit)->Option Bool):Option Bool:=
 (cK.F n s1 f2).bind λr3=>
 some (decide (r3>=0))
def code:=Tryz.f100.body.getD .skip
abbrev ash:List ASh:=[.ro Qy,.fn [.int .i64] .bool]
abbrev rsh:List RSh:=[.ro .bool]
def B:Bd:=⟨ash,rsh,[cK.E],⟨code,9,.nil,[(.tmp 4,.bool,.ro)]⟩,[]⟩
def E:En:=⟨100,λn=>⟨B.a,B.r,λv=>F n v.1 v.2.1⟩,cG B Vk Tryz.func100 mn⟩
end dd
namespace fy
def F (n:Nat)(t1:Int):Option Bool:=
 some (!decide (t1=1))
def code:=Tryz.f178.body.getD .skip
abbrev ash:List ASh:=[.ro QA]
abbrev rsh:List RSh:=[.ro .bool]
def B:Bd:=⟨ash,rsh,[],⟨code,5,.nil,[(.tmp 2,.bool,.ro)]⟩,[]⟩
def E:En:=⟨178,λn=>⟨B.a,B.r,λv=>F n v.1⟩,cG B Vk Tryz.func178 mn⟩
end fy
namespace bH
def l1 (n:Nat)(t7:Int)(t8:WD)(t9:Int)(t10:Int)(t11:WN)(t12:Int)(t14:Wk)(t16:WG)(K2:WN->Option Bool):Nat->Int->WN->Option Bool
 |0,_,_=>none
 |k+1,t13,t15=>
 if decide (t13<t12)=true then
 if(0:Int)<=t13/\t13<(Je t11:Int)then
 (dX.F n (Ji t11 (Jg t13) 0) 0 (Jh.wrap (t7 - 1))).bind λr17=>
 if(!r17)=true then
 some false
 else
 if(0:Int)<=(Ji t11 (Jg t13) 0)/\(Ji t11 (Jg t13) 0)<(Je t15:Int)then
 if(0:Int)<=(Ji t11 (Jg t13) 0)/\(Ji t11 (Jg t13) 0)<(Je t15:Int)then
 let w18:List Int:=Kl t15 (Jg (Ji t11 (Jg t13) 0)) (Jh.wrap ((Ji t15 (Jg (Ji t11 (Jg t13) 0)) 0)+1))
 l1 n t7 t8 t9 t10 t11 t12 t14 t16 K2 k (Jh.wrap (t13+1)) w18
 else
 none
 else
 none
 else
 none
 else
 K2 t15
def l0 (n:Nat)(t2:WD)(t3:Int)(t5:Wk)(K0:WN->Option Bool):Nat->Int->WN->Option Bool
 |0,_,_=>none
 |k+1,t4,t6=>
 if decide (t4<t3)=true then
 if(0:Int)<=t4/\t4<(Je t2:Int)then
 l1 n t4 t2 t3 t4 (((Ji t2 (Jg t4) (0,(Jd,[]))).2).2) (Je (((Ji t2 (Jg t4) (0,(Jd,[]))).2).2):Int) t5 (Ji t2 (Jg t4) (0,(Jd,[]))) (λt19=>
 (dX.F n ((Ji t2 (Jg t4) (0,(Jd,[]))).1) 1 7).bind λr20=>
 if(!r20)=false then
 (gU.F n ((Ji t2 (Jg t4) (0,(Jd,[]))).1)).bind λr21=>
 if r21=true then
 if(!decide ((Je (((Ji t2 (Jg t4) (0,(Jd,[]))).2).2):Int)=2))=false then
 (dX.F n ((Ji t2 (Jg t4) (0,(Jd,[]))).1) 1 3).bind λr22=>
 if r22=true then
 if decide ((Je (((Ji t2 (Jg t4) (0,(Jd,[]))).2).2):Int)>0)=true then
 some false
 else
 l0 n t2 t3 t5 K0 k (Jh.wrap (t4+1)) t19
 else
 l0 n t2 t3 t5 K0 k (Jh.wrap (t4+1)) t19
 else
 some false
 else
 (dX.F n ((Ji t2 (Jg t4) (0,(Jd,[]))).1) 1 3).bind λr23=>
 if r23=true then
 if decide ((Je (((Ji t2 (Jg t4) (0,(Jd,[]))).2).2):Int)>0)=true then
 some false
 else
 l0 n t2 t3 t5 K0 k (Jh.wrap (t4+1)) t19
 else
 l0 n t2 t3 t5 K0 k (Jh.wrap (t4+1)) t19
 else
 some false) n 0 t6
 else
 none
 else
 K0 t6
def l4 (n:Nat)(t38:WD)(t39:Int)(t40:Int)(t41:WN)(t42:Int)(t44:Wk)(K6:WN->Option Bool):Nat->Int->WN->Option Bool
 |0,_,_=>none
 |k+1,t43,t45=>
 if decide (t43<t42)=true then
 if(0:Int)<=t43/\t43<(Je t41:Int)then
 (dX.F n (Ji t41 (Jg t43) 0) 0 (Jh.wrap ((Je t44.1:Int) - 1))).bind λr46=>
 if(!r46)=true then
 some false
 else
 if(0:Int)<=(Ji t41 (Jg t43) 0)/\(Ji t41 (Jg t43) 0)<(Je t45:Int)then
 if(0:Int)<=(Ji t41 (Jg t43) 0)/\(Ji t41 (Jg t43) 0)<(Je t45:Int)then
 let w47:List Int:=Kl t45 (Jg (Ji t41 (Jg t43) 0)) (Jh.wrap ((Ji t45 (Jg (Ji t41 (Jg t43) 0)) 0)+1))
 l4 n t38 t39 t40 t41 t42 t44 K6 k (Jh.wrap (t43+1)) w47
 else
 none
 else
 none
 else
 none
 else
 K6 t45
def j3 (n:Nat)(t32:WD)(t33:Int)(t34:Int)(t35:Wk)(t36:WN)(t37:WG)(Kn:WN->Option Bool):Option Bool:=
 l4 n t32 t33 t34 t37.2.2 (Je t37.2.2:Int) t35 (λt48=>
 Kn t48) n 0 t36
def l2 (n:Nat)(t26:WD)(t27:Int)(t29:Wk)(K4:WN->Option Bool):Nat->Int->WN->Option Bool
 |0,_,_=>none
 |k+1,t28,t30=>
 if decide (t28<t27)=true then
 if(0:Int)<=t28/\t28<(Je t26:Int)then
 if(decide (t28=0))=true then
 if(!decide (((Ji t26 (Jg t28) (0,(Jd,[]))).1)=1))=false then
 (dX.F n ((Ji t26 (Jg t28) (0,(Jd,[]))).1) 1 3).bind λr31=>
 if(!r31)=false then
 if(decide (((Ji t26 (Jg t28) (0,(Jd,[]))).1)=3))=true then
 if(!decide ((Je (((Ji t26 (Jg t28) (0,(Jd,[]))).2).2):Int)=2))=true then
 some false
 else
 j3 n t26 t27 t28 t29 t30 (Ji t26 (Jg t28) (0,(Jd,[]))) (λt49=>
 l2 n t26 t27 t29 K4 k (Jh.wrap (t28+1)) t49)
 else
 j3 n t26 t27 t28 t29 t30 (Ji t26 (Jg t28) (0,(Jd,[]))) (λt50=>
 l2 n t26 t27 t29 K4 k (Jh.wrap (t28+1)) t50)
 else
 some false
 else
 some false
 else
 (dX.F n ((Ji t26 (Jg t28) (0,(Jd,[]))).1) 1 3).bind λr51=>
 if(!r51)=false then
 if(decide (((Ji t26 (Jg t28) (0,(Jd,[]))).1)=3))=true then
 if(!decide ((Je (((Ji t26 (Jg t28) (0,(Jd,[]))).2).2):Int)=2))=true then
 some false
 else
 j3 n t26 t27 t28 t29 t30 (Ji t26 (Jg t28) (0,(Jd,[]))) (λt52=>
 l2 n t26 t27 t29 K4 k (Jh.wrap (t28+1)) t52)
 else
 j3 n t26 t27 t28 t29 t30 (Ji t26 (Jg t28) (0,(Jd,[]))) (λt53=>
 l2 n t26 t27 t29 K4 k (Jh.wrap (t28+1)) t53)
 else
 some false
 else
 none
 else
 K4 t30
def F (n:Nat)(t1:Wk):Option Bool:=
 if(0:Int)<=(Je t1.1:Int)/\(Je t1.1:Int)<=(Je t1.1:Int)/\(Je t1.1:Int)<=(aU:Int)then
 l0 n t1.1 (Je t1.1:Int) t1 (λt24=>
 (jA.F n t1).bind λr25=>
 l2 n r25 (Je r25:Int) t1 (λt54=>
 if(decide ((Je t1.1:Int)<=60))=true then
 (dd.F n t54 (λa55=>(fy.F n a55.1).bind some)).bind λr56=>
 some (!r56)
 else
 some false) n 0 t24) n 0 (JZ (Jg (Je t1.1:Int)) 0)
 else
 none
def code:=Tryz.f105.body.getD .skip
abbrev ash:List ASh:=[.ro Qf]
abbrev rsh:List RSh:=[.ro .bool]
def b0:=Jn (Jn (Jl (Jn (Jl (Jl code)))))
def b2:=Jn (Jn (Jl (Jn (Jl (Jl (Jl code))))))
def c3:=Jl (Jl (Jn (Jn (Jl (Jl b2)))))
def b1:=Jn (Jn (Jl (Jn (Jl (Jn (Jn (Jl (Jl b0))))))))
def b4:=Jn (Jn (Jl c3))
abbrev sh1:ES:=⟨[(1,.pt 1 []),(3,.al 3 []),(4,.v QA),(5,.pt 5 []),(17,.v Qk),(18,.v QA),(19,.v QA),(25,.v Qy),(26,.v QA),(27,.v QA)],[⟨1,.st Qg,.ro,true,false,none⟩,⟨3,.sl QA,.own .ro,false,false,none⟩,⟨5,.st Qr,.ro,true,false,none⟩]⟩
abbrev sh1_2:ES:=⟨[(1,.pt 1 []),(3,.al 3 []),(5,.pt 5 []),(17,.v Qk),(18,.v QA),(19,.v QA)],[⟨1,.st Qg,.ro,true,false,none⟩,⟨3,.sl QA,.own .ro,false,false,none⟩,⟨5,.st Qr,.ro,true,false,none⟩]⟩
abbrev sh0:ES:=⟨[(1,.pt 1 []),(3,.al 3 []),(17,.v Qk),(18,.v QA),(19,.v QA)],[⟨1,.st Qg,.ro,true,false,none⟩,⟨3,.sl QA,.own .ro,false,false,none⟩]⟩
abbrev sh0_0:ES:=⟨[(1,.pt 1 []),(3,.al 3 [])],[⟨1,.st Qg,.ro,true,false,none⟩,⟨3,.sl QA,.own .ro,false,false,none⟩]⟩
abbrev sh4:ES:=⟨[(1,.pt 1 []),(3,.al 3 []),(71,.v Qk),(72,.v QA),(73,.v QA),(103,.v Qy),(104,.v QA),(105,.v QA)],[⟨1,.st Qg,.ro,true,false,none⟩,⟨3,.sl QA,.own .ro,false,false,none⟩]⟩
abbrev sh4_6:ES:=⟨[(1,.pt 1 []),(3,.al 3 []),(71,.v Qk),(72,.v QA),(73,.v QA)],[⟨1,.st Qg,.ro,true,false,none⟩,⟨3,.sl QA,.own .ro,false,false,none⟩]⟩
abbrev sh3:ES:=⟨[(1,.pt 1 []),(3,.al 3 []),(9,.pt 9 []),(71,.v Qk),(72,.v QA),(73,.v QA)],[⟨1,.st Qg,.ro,true,false,none⟩,⟨3,.sl QA,.own .ro,false,false,none⟩,⟨9,.st Qr,.ro,true,false,none⟩]⟩
def g1:GL rsh sh1:=λn m x kn kx=>l1 n x.1.2.2.1 x.1.2.2.2.2.1 x.1.2.2.2.2.2.1 x.1.2.2.2.2.2.2.1 x.1.2.2.2.2.2.2.2.1 x.1.2.2.2.2.2.2.2.2.1 x.2.1 x.2.2.2.1 (λy0=>kx 2 (sh1_2.enc (((()),(()),(()),x.1.2.2.2.2.1,x.1.2.2.2.2.2.1,x.1.2.2.2.2.2.2.1,()),(x.2.1,y0,x.2.2.2.1,())))) m x.1.2.2.2.2.2.2.2.2.2.1 x.2.2.1
def g0:GL rsh sh0:=λn m x kn kx=>l0 n x.1.2.2.1 x.1.2.2.2.1 x.2.1 (λy0=>kx 0 (sh0_0.enc (((()),(()),()),(x.2.1,y0,())))) m x.1.2.2.2.2.1 x.2.2.1
def g4:GL rsh sh4:=λn m x kn kx=>l4 n x.1.2.2.1 x.1.2.2.2.1 x.1.2.2.2.2.1 x.1.2.2.2.2.2.1 x.1.2.2.2.2.2.2.1 x.2.1 (λy0=>kx 6 (sh4_6.enc (((()),(()),x.1.2.2.1,x.1.2.2.2.1,x.1.2.2.2.2.1,()),(x.2.1,y0,())))) m x.1.2.2.2.2.2.2.2.1 x.2.2.1
def g3:GL rsh sh3:=λn m x kn kx=>j3 n x.1.2.2.2.1 x.1.2.2.2.2.1 x.1.2.2.2.2.2.1 x.2.1 x.2.2.1 x.2.2.2.1 (λy0=>kn (sh4_6.enc (((()),(()),x.1.2.2.2.1,x.1.2.2.2.2.1,x.1.2.2.2.2.2.1,()),(x.2.1,y0,()))))
def g2:GL rsh sh4_6:=λn m x kn kx=>l2 n x.1.2.2.1 x.1.2.2.2.1 x.2.1 (λy0=>kx 4 (sh0_0.enc (((()),(()),()),(x.2.1,y0,())))) m x.1.2.2.2.2.1 x.2.2.1
def B:Bd:=⟨ash,rsh,[dd.E,jA.E,dX.E,gU.E,fy.E],⟨code,133,.nil,[(.tmp 2,.bool,.ro)]⟩,[⟨1,sh1,g1⟩,⟨0,sh0,g0⟩,⟨4,sh4,g4⟩,⟨3,sh3,g3⟩,⟨2,sh4_6,g2⟩]⟩
theorem u1:UO B 1 (.loop b1):=
 lu (.seq .nil (.seq Vl (.seq (.block (some [1,3,4,5,17,18,19,25,26,27]) W4) .nil))) [(0,[1,3]),(1,[1,3,17,18,19]),(2,[1,3,5,17,18,19])] [1,3,4,5,17,18,19,25,26,27] sh1 g1 mn
theorem u0:UO B 0 (.loop b0):=
 lu (.seq .nil (.seq Vl (.seq (.block (some [1,3,17,18,19]) (.seq .nil (.seq (.seq .nil (.block (some [1,3,5,17,18,19]) (.cut 1 [1,3,4,5,17,18,19,25,26,27]))) Vf))) .nil))) [(0,[1,3])] [1,3,17,18,19] sh0 g0 (mc u1 mn)
theorem u4:UO B 4 (.loop b4):=
 lu (.seq .nil (.seq Vl (.seq (.block (some [1,3,71,72,73,103,104,105]) W4) .nil))) [(4,[1,3]),(5,[1,3,71,72,73]),(6,[1,3,71,72,73])] [1,3,71,72,73,103,104,105] sh4 g4 mn
theorem u3:UO B 3 c3:=
 ju (.seq .nil (.block (some [1,3,71,72,73]) (.cut 4 [1,3,71,72,73,103,104,105]))) [(4,[1,3]),(5,[1,3,71,72,73])] [1,3,71,72,73] sh3 g3 (mc u4 mn)
theorem u2:UO B 2 (.loop b2):=
 lu (.seq .nil (.seq Vl (.seq (.block (some [1,3,71,72,73]) (.seq .nil (.seq Vf (.cut 3 [1,3,9,71,72,73])))) .nil))) [(4,[1,3])] [1,3,71,72,73] sh4_6 g2 (mc u3 mn)
def E:En:=⟨105,λn=>⟨B.a,B.r,λv=>F n v.1⟩,cG B (.seq .nil (.seq (.reg [(15,.own .ro)]) (.seq (.seq .nil (.block (some [1,3]) (.cut 0 [1,3,17,18,19]))) (.seq (.seq .nil (.block (some [1,3]) (.cut 2 [1,3,71,72,73]))) Vm)))) Tryz.func105 (mc u0 (mc u2 mn))⟩
end bH
namespace ax
def j0 (n:Nat)(self138:Wk->Int->Option ByteArray)(self179:Wk->WN->Option ByteArray)(self199:Int->Wk->Option ByteArray)(t4:Bool)(r5:Wk)(e6:WG)(Kn:Unit->Option ByteArray):Option ByteArray:=
 if t4=true then
 if(0:Int)<=0/\0<(Je e6.2.2:Int)then
 (self199 (Ji e6.2.2 (0) 0) r5).bind λr7=>
 if Jf r7+Jf ⟨#[32]⟩<=aU then
 if(0:Int)<=(Jh.wrap (e6.1 - 5))/\(Jh.wrap (e6.1 - 5))<(Je ([⟨#[43]⟩,⟨#[45]⟩,⟨#[42]⟩]:WL):Int)then
 if Jf (r7++⟨#[32]⟩)+Jf (Ji ([⟨#[43]⟩,⟨#[45]⟩,⟨#[42]⟩]:WL) (Jg (Jh.wrap (e6.1 - 5))) Jd)<=aU then
 if Jf ((r7++⟨#[32]⟩)++(Ji ([⟨#[43]⟩,⟨#[45]⟩,⟨#[42]⟩]:WL) (Jg (Jh.wrap (e6.1 - 5))) Jd))+Jf ⟨#[32]⟩<=aU then
 if(0:Int)<=1/\1<(Je e6.2.2:Int)then
 (self199 (Ji e6.2.2 (1) 0) r5).bind λr8=>
 if Jf (((r7++⟨#[32]⟩)++(Ji ([⟨#[43]⟩,⟨#[45]⟩,⟨#[42]⟩]:WL) (Jg (Jh.wrap (e6.1 - 5))) Jd))++⟨#[32]⟩)+Jf r8<=aU then
 some ((((r7++⟨#[32]⟩)++(Ji ([⟨#[43]⟩,⟨#[45]⟩,⟨#[42]⟩]:WL) (Jg (Jh.wrap (e6.1 - 5))) Jd))++⟨#[32]⟩)++r8)
 else
 none
 else
 none
 else
 none
 else
 none
 else
 none
 else
 none
 else
 none
 else
 Kn ()
def G (n:Nat)(self138:Wk->Int->Option ByteArray)(self179:Wk->WN->Option ByteArray)(self199:Int->Wk->Option ByteArray)(r1:Wk)(t2:Int):Option ByteArray:=
 if(0:Int)<=t2/\t2<(Je r1.1:Int)then
 if decide (((Ji r1.1 (Jg t2) (0,(Jd,[]))).1)=2)=true then
 some ⟨#[95]⟩
 else
 if decide (((Ji r1.1 (Jg t2) (0,(Jd,[]))).1)=4)=true then
 if decide ((Je (((Ji r1.1 (Jg t2) (0,(Jd,[]))).2).2):Int)>0)=true then
 if Jf (((Ji r1.1 (Jg t2) (0,(Jd,[]))).2).1)+Jf ⟨#[40]⟩<=aU then
 (self179 r1 (((Ji r1.1 (Jg t2) (0,(Jd,[]))).2).2)).bind λr3=>
 if Jf ((((Ji r1.1 (Jg t2) (0,(Jd,[]))).2).1)++⟨#[40]⟩)+Jf r3<=aU then
 if Jf (((((Ji r1.1 (Jg t2) (0,(Jd,[]))).2).1)++⟨#[40]⟩)++r3)+Jf ⟨#[41]⟩<=aU then
 some ((((((Ji r1.1 (Jg t2) (0,(Jd,[]))).2).1)++⟨#[40]⟩)++r3)++⟨#[41]⟩)
 else
 none
 else
 none
 else
 none
 else
 some (((Ji r1.1 (Jg t2) (0,(Jd,[]))).2).1)
 else
 if decide (((Ji r1.1 (Jg t2) (0,(Jd,[]))).1)=5)=true then
 j0 n self138 self179 self199 (decide (((Ji r1.1 (Jg t2) (0,(Jd,[]))).1)=5)) r1 (Ji r1.1 (Jg t2) (0,(Jd,[]))) (λ_=>
 some (((Ji r1.1 (Jg t2) (0,(Jd,[]))).2).1))
 else
 if decide (((Ji r1.1 (Jg t2) (0,(Jd,[]))).1)=6)=true then
 j0 n self138 self179 self199 (decide (((Ji r1.1 (Jg t2) (0,(Jd,[]))).1)=6)) r1 (Ji r1.1 (Jg t2) (0,(Jd,[]))) (λ_=>
 some (((Ji r1.1 (Jg t2) (0,(Jd,[]))).2).1))
 else
 j0 n self138 self179 self199 (decide (((Ji r1.1 (Jg t2) (0,(Jd,[]))).1)=7)) r1 (Ji r1.1 (Jg t2) (0,(Jd,[]))) (λ_=>
 some (((Ji r1.1 (Jg t2) (0,(Jd,[]))).2).1))
 else
 none
end ax
namespace ar
def l0 (n:Nat)(self138:Wk->Int->Option ByteArray)(self179:Wk->WN->Option ByteArray)(self199:Int->Wk->Option ByteArray)(t3:WN)(t4:Int)(r6:Wk)(K0:WL->Option ByteArray):Nat->Int->WL->Option ByteArray
 |0,_,_=>none
 |k+1,t5,out7=>
 if decide (t5<t4)=true then
 if(0:Int)<=t5/\t5<(Je t3:Int)then
 (self138 r6 (Ji t3 (Jg t5) 0)).bind λr8=>
 if Je out7+Je [r8]<=aU then
 l0 n self138 self179 self199 t3 t4 r6 K0 k (Jh.wrap (t5+1)) (out7++[r8])
 else
 none
 else
 none
 else
 K0 out7
def G (n:Nat)(self138:Wk->Int->Option ByteArray)(self179:Wk->WN->Option ByteArray)(self199:Int->Wk->Option ByteArray)(r1:Wk)(l2:WN):Option ByteArray:=
 l0 n self138 self179 self199 l2 (Je l2:Int) r1 (λout9=>
 (cJ.F n out9 ⟨#[44,32]⟩).bind λr10=>
 some r10) n 0 []
end ar
namespace aL
def G (n:Nat)(self138:Wk->Int->Option ByteArray)(self179:Wk->WN->Option ByteArray)(self199:Int->Wk->Option ByteArray)(k1:Int)(t2:Wk):Option ByteArray:=
 if(0:Int)<=k1/\k1<(Je t2.1:Int)then
 (gU.F n ((Ji t2.1 (Jg k1) (0,(Jd,[]))).1)).bind λr3=>
 if r3=true then
 (self138 t2 k1).bind λr4=>
 if Jf ⟨#[40]⟩+Jf r4<=aU then
 if Jf (⟨#[40]⟩++r4)+Jf ⟨#[41]⟩<=aU then
 some ((⟨#[40]⟩++r4)++⟨#[41]⟩)
 else
 none
 else
 none
 else
 (self138 t2 k1).bind λr5=>
 some r5
 else
 none
end aL
def eM:Nat->(Wk->Int->Option ByteArray)×(Wk->WN->Option ByteArray)×(Int->Wk->Option ByteArray)
 |0=>(λ_ _=>none,λ_ _=>none,λ_ _=>none)
 |n+1=>(ax.G n (eM n).1 (eM n).2.1 (eM n).2.2,ar.G n (eM n).1 (eM n).2.1 (eM n).2.2,aL.G n (eM n).1 (eM n).2.1 (eM n).2.2)
namespace ax
def code:Code:=Tryz.f138.body.getD .skip
def F (n:Nat):Wk->Int->Option ByteArray:=(eM n).1
abbrev ash:List ASh:=[.ro Qf,.ro QA]
abbrev rsh:List RSh:=[.ro .str]
def ent (n:Nat):ij:=⟨ash,rsh,λv=>F n v.1 v.2.1⟩
end ax
namespace ar
def code:Code:=Tryz.f179.body.getD .skip
def F (n:Nat):Wk->WN->Option ByteArray:=(eM n).2.1
abbrev ash:List ASh:=[.ro Qf,.ro Qy]
abbrev rsh:List RSh:=[.ro .str]
def ent (n:Nat):ij:=⟨ash,rsh,λv=>F n v.1 v.2.1⟩
end ar
namespace aL
def code:Code:=Tryz.f199.body.getD .skip
def F (n:Nat):Int->Wk->Option ByteArray:=(eM n).2.2
abbrev ash:List ASh:=[.ro QA,.rp Qf]
abbrev rsh:List RSh:=[.ro .str]
def ent (n:Nat):ij:=⟨ash,rsh,λv=>F n v.1 v.2.1⟩
end aL
namespace ax
def cx (n:Nat):fS:=jD Jp TYS [(138,ax.ent n),(179,ar.ent n),(199,aL.ent n)]
def d:rx:=⟨code,60,.nil,[(.tmp 4,.str,.ro)]⟩
def kr (n:Nat)(v:jB ash):KN rsh:=jK (cx n) d (eG ash v) (ip rsh)
def c0:Code:=(Jl (Jl (Jl (Jl (Jl (Jn (Jl (Jn (Jl (Jl code))))))))))
def an:An:=.seq .nil (.seq .nil (.seq (.seq .nil (.block (some [5]) (.seq .nil (.cond Vm (.seq .nil (.cond Vf (.seq W9 (.cut 0 [2,5,31])))))))) Vm))
def an0:An:=.cond Vk .nil
abbrev sh0:ES:=⟨[(2,.pt 2 []),(5,.pt 5 []),(31,.v .bool)],[⟨2,.st Qg,.ro,true,false,none⟩,⟨5,.st Qr,.ro,true,false,none⟩]⟩
abbrev sh0_n:ES:=⟨[(5,.pt 5 [])],[⟨5,.st Qr,.ro,true,false,none⟩]⟩
def g0 (n m:Nat)(x:sh0.V)(kn:KN rsh)(kx:KX rsh):Option (jL rsh):=j0 n (ax.F n) (ar.F n) (aL.F n) x.1.2.2.1 x.2.1 x.2.2.1 (λ_=>kn (sh0_n.enc (((()),()),(x.2.2.1,()))))
def T (n:Nat):sO (jL rsh):=λj e kn kx=>match j with
 |0=>L7 sh0 e λx=>g0 n n x kn kx
 |_=>none
theorem mk (n:Nat)(ih138:aq Jp 138 (ax.ent n))(ih179:aq Jp 179 (ar.ent n))(ih199:aq Jp 199 (aL.ent n)):lS (cx n):=fJ (mem_cons ih138 (mem_cons ih179 (mem_cons ih199 bD)))
theorem u0 (n:Nat)(v:jB ash)(ih138:aq Jp 138 (ax.ent n))(ih179:aq Jp 179 (ar.ent n))(ih199:aq Jp 199 (aL.ent n)):cQ (cx n) 60 (T n) (kr n v) 0 (c0):=
 jr (CO _) (mk n ih138 ih179 ih199) (MX _) an0 [(0,[5])] [5] sh0 (g0 n n) (λ_ _ _=>rfl) (λx kn kx=>by kernel_rfl) (l:=[]) (by kernel_rfl) (bD)
theorem ok0:aq Jp 138 (ent 0):=gq Tryz.f138 (by kernel_rfl) (by kernel_rfl) (by kernel_rfl) (λ_=>rfl)
theorem okS (n:Nat)(ih138:aq Jp 138 (ax.ent n))(ih179:aq Jp 179 (ar.ent n))(ih199:aq Jp 199 (aL.ent n)):aq Jp 138 (ent (n+1)):=
 iq (c:=cx n) (e:=ent (n+1)) (d:=d) (CO _) (mk n ih138 ih179 ih199) (MX _) an Tryz.func138 (by kernel_rfl) (T n) (l:=[(0,c0)]) (by kernel_rfl) (λv=>mem_cons (u0 n v ih138 ih179 ih199) bD) (λv=>by kernel_rfl)
end ax
namespace ar
def cx (n:Nat):fS:=jD Jp TYS [(107,cJ.E.e n),(138,ax.ent n),(179,ar.ent n),(199,aL.ent n)]
def d:rx:=⟨code,24,.nil,[(.tmp 4,.str,.ro)]⟩
def kr (n:Nat)(v:jB ash):KN rsh:=jK (cx n) d (eG ash v) (ip rsh)
def b0:Code:=Jn (Jn (Jl (Jn (Jl (Jl code)))))
def an:An:=.seq .nil (.seq (.reg [(8,.own .ro)]) (.seq (.seq .nil (.block (some [5]) (.cut 0 [2,5,9,10,11]))) Vm))
def an0:An:=.seq .nil (.seq Vl (.seq (.block (some [2,5,9,10,11]) Vm) .nil))
abbrev sh0:ES:=⟨[(2,.pt 2 []),(5,.al 5 []),(9,.v Qy),(10,.v QA),(11,.v QA)],[⟨2,.st Qg,.ro,true,false,none⟩,⟨5,.sl QC,.own .ro,false,false,none⟩]⟩
abbrev sh0_0:ES:=⟨[(5,.al 5 [])],[⟨5,.sl QC,.own .ro,false,false,none⟩]⟩
def g0 (n m:Nat)(x:sh0.V)(kn:KN rsh)(kx:KX rsh):Option (jL rsh):=l0 n (ax.F n) (ar.F n) (aL.F n) x.1.2.2.1 x.1.2.2.2.1 x.2.1 (λy0=>kx 0 (sh0_0.enc (((()),()),(y0,())))) m x.1.2.2.2.2.1 x.2.2.1
def T (n:Nat):sO (jL rsh):=λj e kn kx=>match j with
 |0=>L7 sh0 e λx=>g0 n n x kn kx
 |_=>none
theorem mk (n:Nat)(ih138:aq Jp 138 (ax.ent n))(ih179:aq Jp 179 (ar.ent n))(ih199:aq Jp 199 (aL.ent n)):lS (cx n):=fJ (mem_cons (cJ.E.ok n) (mem_cons ih138 (mem_cons ih179 (mem_cons ih199 bD))))
theorem u0 (n:Nat)(v:jB ash)(ih138:aq Jp 138 (ax.ent n))(ih179:aq Jp 179 (ar.ent n))(ih199:aq Jp 199 (aL.ent n)):cQ (cx n) 24 (T n) (kr n v) 0 (.loop b0):=
 kq (n:=n) (CO _) (mk n ih138 ih179 ih199) (MX _) an0 [(0,[5])] [2,5,9,10,11] sh0 (g0 n) (λ_ _ _=>rfl) (λ_ _ _=>rfl) (λm x kn kx=>by kernel_rfl) (l:=[]) (by kernel_rfl) (bD)
theorem ok0:aq Jp 179 (ent 0):=gq Tryz.f179 (by kernel_rfl) (by kernel_rfl) (by kernel_rfl) (λ_=>rfl)
theorem okS (n:Nat)(ih138:aq Jp 138 (ax.ent n))(ih179:aq Jp 179 (ar.ent n))(ih199:aq Jp 199 (aL.ent n)):aq Jp 179 (ent (n+1)):=
 iq (c:=cx n) (e:=ent (n+1)) (d:=d) (CO _) (mk n ih138 ih179 ih199) (MX _) an Tryz.func179 (by kernel_rfl) (T n) (l:=[(0,.loop b0)]) (by kernel_rfl) (λv=>mem_cons (u0 n v ih138 ih179 ih199) bD) (λv=>by kernel_rfl)
end ar
namespace aL
def cx (n:Nat):fS:=jD Jp TYS [(177,gU.E.e n),(138,ax.ent n),(179,ar.ent n),(199,aL.ent n)]
def d:rx:=⟨code,19,.nil,[(.tmp 3,.str,.ro)]⟩
def an:An:=.seq .nil W5
theorem ok0:aq Jp 199 (ent 0):=gq Tryz.f199 (by kernel_rfl) (by kernel_rfl) (by kernel_rfl) (λ_=>rfl)
theorem okS (n:Nat)(ih138:aq Jp 138 (ax.ent n))(ih179:aq Jp 179 (ar.ent n))(ih199:aq Jp 199 (aL.ent n)):aq Jp 199 (ent (n+1)):=
 Eu (c:=cx n) (e:=ent (n+1)) (d:=d) (CO _) (fJ (mem_cons (gU.E.ok n) (mem_cons ih138 (mem_cons ih179 (mem_cons ih199 bD))))) (MX _) an Tryz.func199 (by kernel_rfl) (by kernel_rfl) (λv=>by kernel_rfl)
end aL
theorem yI:(n:Nat)->aq Jp 138 (ax.ent n)/\aq Jp 179 (ar.ent n)/\aq Jp 199 (aL.ent n)
 |0=>⟨ax.ok0,ar.ok0,aL.ok0⟩
 |n+1=>have ih:=yI n;⟨ax.okS n ih.1 ih.2.1 ih.2.2,ar.okS n ih.1 ih.2.1 ih.2.2,aL.okS n ih.1 ih.2.1 ih.2.2⟩
theorem ax.ok (n:Nat):aq Jp 138 (ax.ent n):=(yI n).1
def ax.E:En:=⟨138,ax.ent,ax.ok⟩
theorem ar.ok (n:Nat):aq Jp 179 (ar.ent n):=(yI n).2.1
def ar.E:En:=⟨179,ar.ent,ar.ok⟩
namespace eQ
def F (n:Nat)(r1:Wk)(l2:WG):Option ByteArray:=
 if decide (l2.1=3)=true then
 if(0:Int)<=0/\0<(Je l2.2.2:Int)then
 (ax.F n r1 (Ji l2.2.2 (0) 0)).bind λr3=>
 if Jf r3+Jf ⟨#[32]⟩<=aU then
 if Jf (r3++⟨#[32]⟩)+Jf l2.2.1<=aU then
 if Jf ((r3++⟨#[32]⟩)++l2.2.1)+Jf ⟨#[32]⟩<=aU then
 if(0:Int)<=1/\1<(Je l2.2.2:Int)then
 (ax.F n r1 (Ji l2.2.2 (1) 0)).bind λr4=>
 if Jf (((r3++⟨#[32]⟩)++l2.2.1)++⟨#[32]⟩)+Jf r4<=aU then
 some ((((r3++⟨#[32]⟩)++l2.2.1)++⟨#[32]⟩)++r4)
 else
 none
 else
 none
 else
 none
 else
 none
 else
 none
 else
 none
 else
 if decide (l2.1=2)=true then
 if Jf ⟨#[33]⟩+Jf l2.2.1<=aU then
 if Jf (⟨#[33]⟩++l2.2.1)+Jf ⟨#[40]⟩<=aU then
 (ar.F n r1 l2.2.2).bind λr5=>
 if Jf ((⟨#[33]⟩++l2.2.1)++⟨#[40]⟩)+Jf r5<=aU then
 if Jf (((⟨#[33]⟩++l2.2.1)++⟨#[40]⟩)++r5)+Jf ⟨#[41]⟩<=aU then
 some ((((⟨#[33]⟩++l2.2.1)++⟨#[40]⟩)++r5)++⟨#[41]⟩)
 else
 none
 else
 none
 else
 none
 else
 none
 else
 if Jf l2.2.1+Jf ⟨#[40]⟩<=aU then
 (ar.F n r1 l2.2.2).bind λr6=>
 if Jf (l2.2.1++⟨#[40]⟩)+Jf r6<=aU then
 if Jf ((l2.2.1++⟨#[40]⟩)++r6)+Jf ⟨#[41]⟩<=aU then
 some (((l2.2.1++⟨#[40]⟩)++r6)++⟨#[41]⟩)
 else
 none
 else
 none
 else
 none
def code:=Tryz.f106.body.getD .skip
abbrev ash:List ASh:=[.ro Qf,.ro Qn]
abbrev rsh:List RSh:=[.ro .str]
def B:Bd:=⟨ash,rsh,[ax.E,ar.E],⟨code,48,.nil,[(.tmp 4,.str,.ro)]⟩,[]⟩
def E:En:=⟨106,λn=>⟨B.a,B.r,λv=>F n v.1 v.2.1⟩,cG B (.seq .nil (.seq (.seq .nil (.block (some [2,3]) W0)) Vm)) Tryz.func106 mn⟩
end eQ
namespace fa
def l0 (n:Nat)(out4:ByteArray)(t5:WD)(t6:Int)(r8:Wk)(K0:WL->Option ByteArray):Nat->Int->WL->Option ByteArray
 |0,_,_=>none
 |k+1,t7,body9=>
 if decide (t7<t6)=true then
 if(0:Int)<=t7/\t7<(Je t5:Int)then
 (eQ.F n r8 (Ji t5 (Jg t7) (0,(Jd,[])))).bind λr10=>
 if Je body9+Je [r10]<=aU then
 l0 n out4 t5 t6 r8 K0 k (Jh.wrap (t7+1)) (body9++[r10])
 else
 none
 else
 none
 else
 K0 body9
def F (n:Nat)(r1:Wk):Option ByteArray:=
 (bH.F n r1).bind λr2=>
 if(!r2)=true then
 some Jd
 else
 (eQ.F n r1 r1.2.1).bind λr3=>
 l0 n r3 r1.2.2 (Je r1.2.2:Int) r1 (λbody11=>
 if decide ((Je body11:Int)>0)=true then
 (cJ.F n body11 ⟨#[44,32]⟩).bind λr12=>
 if Jf ⟨#[32,58,45,32]⟩+Jf r12<=aU then
 if Jf r3+Jf (⟨#[32,58,45,32]⟩++r12)<=aU then
 if Jf (r3++(⟨#[32,58,45,32]⟩++r12))+Jf ⟨#[46]⟩<=aU then
 if decide ((Jf ((r3++(⟨#[32,58,45,32]⟩++r12))++⟨#[46]⟩):Int)>3000)=true then
 some Jd
 else
 some ((r3++(⟨#[32,58,45,32]⟩++r12))++⟨#[46]⟩)
 else
 none
 else
 none
 else
 none
 else
 if Jf r3+Jf ⟨#[46]⟩<=aU then
 if decide ((Jf (r3++⟨#[46]⟩):Int)>3000)=true then
 some Jd
 else
 some (r3++⟨#[46]⟩)
 else
 none) n 0 []
def code:=Tryz.f37.body.getD .skip
abbrev ash:List ASh:=[.ro Qf]
abbrev rsh:List RSh:=[.ro .str]
def b0:=Jn (Jn (Jl (Jn (Jl (Jl (Jl (Jl code)))))))
abbrev sh0:ES:=⟨[(1,.pt 1 []),(3,.v .str),(4,.al 4 []),(16,.v Qk),(17,.v QA),(18,.v QA)],[⟨1,.st Qg,.ro,true,false,none⟩,⟨4,.sl QC,.own .ro,false,false,none⟩]⟩
abbrev sh0_0:ES:=⟨[(3,.v .str),(4,.al 4 [])],[⟨4,.sl QC,.own .ro,false,false,none⟩]⟩
def g0:GL rsh sh0:=λn m x kn kx=>l0 n x.1.2.1 x.1.2.2.2.1 x.1.2.2.2.2.1 x.2.1 (λy0=>kx 0 (sh0_0.enc ((x.1.2.1,(()),()),(y0,())))) m x.1.2.2.2.2.2.1 x.2.2.1
def B:Bd:=⟨ash,rsh,[bH.E,eQ.E,cJ.E],⟨code,43,.nil,[(.tmp 2,.str,.ro)]⟩,[⟨0,sh0,g0⟩]⟩
theorem u0:UO B 0 (.loop b0):=
 lu (.seq .nil (.seq Vl (.seq (.block (some [1,3,4,16,17,18]) Vm) .nil))) [(0,[3,4])] [1,3,4,16,17,18] sh0 g0 mn
def E:En:=⟨37,λn=>⟨B.a,B.r,λv=>F n v.1⟩,cG B (.seq .nil (.seq Vf (.seq .nil (.seq (.reg [(14,.own .ro)]) (.seq (.seq .nil (.block (some [3,4]) (.cut 0 [1,3,4,16,17,18]))) (.seq Vi W2)))))) Tryz.func37 (mc u0 mn)⟩
end fa
namespace iL
def F (n:Nat)(l1:WG):Option WG:=
 if Je ([]:WN)+Je l1.2.2<=aU then
 some (l1.1,(l1.2.1,[]++l1.2.2))
 else
 none
def code:=Tryz.f174.body.getD .skip
abbrev ash:List ASh:=[.ro Qn]
abbrev rsh:List RSh:=[.own Qn QT]
def B:Bd:=⟨ash,rsh,[],⟨code,12,.nil,[(.cell 2 31,.st Qr,.pr .ro QX)]⟩,[]⟩
def E:En:=⟨174,λn=>⟨B.a,B.r,λv=>F n v.1⟩,cG B (.seq .nil (.seq (.reg [(7,.own .ro),(11,.pr .ro QX)]) .nil)) Tryz.func174 mn⟩
end iL
namespace iX
def F (n:Nat)(_1:Int)(e2:WG):Option WG:=
 some e2
def code:=Tryz.f103.body.getD .skip
abbrev ash:List ASh:=[.ro QA,.mv Qn QT]
abbrev rsh:List RSh:=[.own Qn QT]
def B:Bd:=⟨ash,rsh,[],⟨code,6,.nil,[(.cell 4 94,.st Qr,.pr .ro QX)]⟩,[]⟩
def E:En:=⟨103,λn=>⟨B.a,B.r,λv=>F n v.1 v.2.1⟩,cG B (.seq (.reg [(4,.pr .ro QX)]) Vm) Tryz.func103 mn⟩
end iX
namespace cb
def l0 (n:Nat)(t4:WD)(t5:Int)(r7:Wk)(t8:Wk)(K0:Wk->Option Wk):Nat->Int->Wk->Option Wk
 |0,_,_=>none
 |k+1,t6,out9=>
 if decide (t6<t5)=true then
 if(0:Int)<=t6/\t6<(Je t4:Int)then
 if Je ([]:WN)+Je (((Ji t4 (Jg t6) (0,(Jd,[]))).2).2:WN)<=aU then
 (iX.F n t6 ((Ji t4 (Jg t6) (0,(Jd,[]))).1,(((Ji t4 (Jg t6) (0,(Jd,[]))).2).1,[]++(((Ji t4 (Jg t6) (0,(Jd,[]))).2).2)))).bind λr10=>
 if Je out9.1+Je [r10]<=aU then
 l0 n t4 t5 r7 t8 K0 k (Jh.wrap (t6+1)) (out9.1++[r10],out9.2)
 else
 none
 else
 none
 else
 none
 else
 K0 out9
def l1 (n:Nat)(t12:WD)(t13:Int)(t15:Wk)(K2:Wk->Option Wk):Nat->Int->Wk->Option Wk
 |0,_,_=>none
 |k+1,t14,out16=>
 if decide (t14<t13)=true then
 if(0:Int)<=t14/\t14<(Je t12:Int)then
 (iL.F n (Ji t12 (Jg t14) (0,(Jd,[])))).bind λr17=>
 if Je out16.2.2+Je [r17]<=aU then
 l1 n t12 t13 t15 K2 k (Jh.wrap (t14+1)) (out16.1,(out16.2.1,out16.2.2++[r17]))
 else
 none
 else
 none
 else
 K2 out16
def F (n:Nat)(r1:Wk)(other2:Unit×Unit):Option Wk:=
 (iL.F n r1.2.1).bind λr3=>
 l0 n r1.1 (Je r1.1:Int) r1 ([],((0,(Jd,[])),[])) (λout11=>
 l1 n r1.2.2 (Je r1.2.2:Int) ([],((0,(Jd,[])),[])) (λout18=>
 some out18) n 0 out11) n 0 ([],(r3,[]))
def code:=Tryz.f102.body.getD .skip
abbrev ash:List ASh:=[.ro Qf,.fc 103 [] []]
abbrev rsh:List RSh:=[.own Qf QJ]
def b0:=Jn (Jn (Jl (Jn (Jl (Jl code)))))
def b1:=Jn (Jn (Jl (Jn (Jl (Jl (Jl code))))))
abbrev sh0:ES:=⟨[(1,.fv 103 [] []),(2,.pt 2 []),(4,.pt 4 []),(5,.pt 5 []),(15,.v Qk),(16,.v QA),(17,.v QA)],[⟨2,.st Qg,.ro,true,false,none⟩,⟨4,.st Qg,.pr QQ QN,true,false,none⟩,⟨5,.st Qg,.pr QQ QN,true,false,none⟩]⟩
abbrev sh0_0:ES:=⟨[(2,.pt 2 []),(4,.pt 4 []),(5,.pt 5 [])],[⟨2,.st Qg,.ro,true,false,none⟩,⟨4,.st Qg,.pr QQ QN,true,false,none⟩,⟨5,.st Qg,.pr QQ QN,true,false,none⟩]⟩
abbrev sh1:ES:=⟨[(4,.pt 4 []),(5,.pt 5 []),(38,.v Qk),(39,.v QA),(40,.v QA)],[⟨4,.st Qg,.pr QQ QN,true,false,none⟩,⟨5,.st Qg,.pr QQ QN,true,false,none⟩]⟩
abbrev sh1_2:ES:=⟨[(4,.pt 4 []),(5,.pt 5 [])],[⟨4,.st Qg,.pr QQ QN,true,false,none⟩,⟨5,.st Qg,.pr QQ QN,true,false,none⟩]⟩
def g0:GL rsh sh0:=λn m x kn kx=>l0 n x.1.2.2.2.2.1 x.1.2.2.2.2.2.1 x.2.1 x.2.2.1 (λy0=>kx 0 (sh0_0.enc (((()),(()),(()),()),(x.2.1,x.2.2.1,y0,())))) m x.1.2.2.2.2.2.2.1 x.2.2.2.1
def g1:GL rsh sh1:=λn m x kn kx=>l1 n x.1.2.2.1 x.1.2.2.2.1 x.2.1 (λy0=>kx 2 (sh1_2.enc (((()),(()),()),(x.2.1,y0,())))) m x.1.2.2.2.2.1 x.2.2.1
def B:Bd:=⟨ash,rsh,[iX.E,iL.E],⟨code,53,.nil,[(.cell 4 34,.st Qg,.pr QQ QN)]⟩,[⟨0,sh0,g0⟩,⟨1,sh1,g1⟩]⟩
theorem u0:UO B 0 (.loop b0):=
 lu (.seq .nil (.seq Vl (.seq (.block (some [1,2,4,5,15,16,17]) (.seq .nil (.seq (.reg [(22,.own .ro)]) (.reg [(32,.pr .ro QX),(33,.own QT)])))) .nil))) [(0,[2,4,5])] [1,2,4,5,15,16,17] sh0 g0 mn
theorem u1:UO B 1 (.loop b1):=
 lu (.seq .nil (.seq Vl (.seq (.block (some [4,5,38,39,40]) (.seq .nil (.reg [(47,.pr .ro QX),(48,.own QT)]))) .nil))) [(2,[4,5])] [4,5,38,39,40] sh1 g1 mn
def E:En:=⟨102,λn=>⟨B.a,B.r,λv=>F n v.1 v.2.1⟩,cG B (.seq (.reg [(4,.pr QQ QN)]) (.seq (.reg [(12,.pr .ro QX),(13,.pr QQ QN),(5,.pr QQ QN)]) (.seq (.seq .nil (.block (some [2,4,5]) (.cut 0 [1,2,4,5,15,16,17]))) (.seq (.seq .nil (.block (some [4,5]) (.cut 1 [4,5,38,39,40]))) Vm)))) Tryz.func102 (mc u0 (mc u1 mn))⟩
end cb
namespace iV
def F (n:Nat)(r1:Wk):Option Wk:=
 (cb.F n r1 ((),())).bind λr2=>
 some r2
def code:=Tryz.f35.body.getD .skip
abbrev ash:List ASh:=[.ro Qf]
abbrev rsh:List RSh:=[.own Qf QJ]
def B:Bd:=⟨ash,rsh,[cb.E],⟨code,5,.nil,[(.cell 2 34,.st Qg,.pr QQ QN)]⟩,[]⟩
def E:En:=⟨35,λn=>⟨B.a,B.r,λv=>F n v.1⟩,cG B (.seq (.reg [(2,.pr QQ QN)]) (.seq (.reg [(4,.pr QQ QN)]) .nil)) Tryz.func35 mn⟩
end iV
namespace internal_stringslite_HasPrefix
def F (n:Nat)(s1:ByteArray)(t2:ByteArray):Option Bool:=
 if(decide ((Jf s1:Int)>=(Jf t2:Int)))=true then
 if(0:Int)<=0/\(0:Int)<=(Jf t2:Int)/\(Jf t2:Int)<=(Jf s1:Int)then
 some (JL (Jz s1 (Jg 0) (Jg (Jf t2:Int))) t2)
 else
 none
 else
 some false
def code:=Tryz.f260.body.getD .skip
abbrev ash:List ASh:=[.ro .str,.ro .str]
abbrev rsh:List RSh:=[.ro .bool]
def B:Bd:=⟨ash,rsh,[],⟨code,18,.nil,[(.tmp 4,.bool,.ro)]⟩,[]⟩
def E:En:=⟨260,λn=>⟨B.a,B.r,λv=>F n v.1 v.2.1⟩,cG B Vk Tryz.func260 mn⟩
end internal_stringslite_HasPrefix
namespace dY
def F (n:Nat)(s1:ByteArray)(t2:ByteArray):Option Bool:=
 (internal_stringslite_HasPrefix.F n s1 t2).bind λr3=>
 some r3
def code:=Tryz.f223.body.getD .skip
abbrev ash:List ASh:=[.ro .str,.ro .str]
abbrev rsh:List RSh:=[.ro .bool]
def B:Bd:=⟨ash,rsh,[internal_stringslite_HasPrefix.E],⟨code,8,.nil,[(.tmp 4,.bool,.ro)]⟩,[]⟩
def E:En:=⟨223,λn=>⟨B.a,B.r,λv=>F n v.1 v.2.1⟩,cG B Vk Tryz.func223 mn⟩
end dY
namespace fW
def F (n:Nat)(b1:Int):Option Bool:=
 if(decide (b1>=97))=true then
 if(decide (b1<=122))=false then
 if(decide (b1>=65))=true then
 some (decide (b1<=90))
 else
 some false
 else
 some true
 else
 if(decide (b1>=65))=true then
 some (decide (b1<=90))
 else
 some false
def code:=Tryz.f216.body.getD .skip
abbrev ash:List ASh:=[.ro QB]
abbrev rsh:List RSh:=[.ro .bool]
def B:Bd:=⟨ash,rsh,[],⟨code,17,.nil,[(.tmp 2,.bool,.ro)]⟩,[]⟩
def E:En:=⟨216,λn=>⟨B.a,B.r,λv=>F n v.1⟩,cG B Vk Tryz.func216 mn⟩
end fW
namespace dG
def F (n:Nat)(b1:Int):Option Bool:=
 if(decide (b1>=48))=true then
 some (decide (b1<=57))
 else
 some false
def code:=Tryz.f257.body.getD .skip
abbrev ash:List ASh:=[.ro QB]
abbrev rsh:List RSh:=[.ro .bool]
def B:Bd:=⟨ash,rsh,[],⟨code,9,.nil,[(.tmp 2,.bool,.ro)]⟩,[]⟩
def E:En:=⟨257,λn=>⟨B.a,B.r,λv=>F n v.1⟩,cG B Vk Tryz.func257 mn⟩
end dG
namespace gZ
def F (n:Nat)(b1:Int):Option Bool:=
 (fW.F n b1).bind λr2=>
 if r2=false then
 (dG.F n b1).bind λr3=>
 if r3=false then
 some (decide (b1=95))
 else
 some true
 else
 some true
def code:=Tryz.f215.body.getD .skip
abbrev ash:List ASh:=[.ro QB]
abbrev rsh:List RSh:=[.ro .bool]
def B:Bd:=⟨ash,rsh,[fW.E,dG.E],⟨code,13,.nil,[(.tmp 2,.bool,.ro)]⟩,[]⟩
def E:En:=⟨215,λn=>⟨B.a,B.r,λv=>F n v.1⟩,cG B Vk Tryz.func215 mn⟩
end gZ
namespace ci
def l0 (n:Nat)(s2:ByteArray)(K0:Int->Option Int):Nat->Int->Option Int
 |0,_=>none
 |k+1,t3=>
 if(decide (t3<(Jf s2:Int)))=true then
 if(0:Int)<=t3/\t3<(Jf s2:Int)then
 (gZ.F n (aO s2 t3)).bind λr4=>
 if r4=true then
 if(decide (t3>0))=false then
 if(0:Int)<=0/\0<(Jf s2:Int)then
 (fW.F n (aO s2 0)).bind λr5=>
 if r5=true then
 l0 n s2 K0 k (Jh.wrap (t3+1))
 else
 K0 t3
 else
 none
 else
 l0 n s2 K0 k (Jh.wrap (t3+1))
 else
 K0 t3
 else
 none
 else
 K0 t3
def F (n:Nat)(s1:ByteArray):Option Int:=
 l0 n s1 (λt6=>
 some t6) n 0
def code:=Tryz.f152.body.getD .skip
abbrev ash:List ASh:=[.ro .str]
abbrev rsh:List RSh:=[.ro QA]
def b0:=Jn (Jn (Jn (Jl (Jl code))))
abbrev sh0:ES:=⟨[(0,.v .str),(3,.v QA)],[]⟩
abbrev sh0_0:ES:=⟨[(3,.v QA)],[]⟩
def g0:GL rsh sh0:=λn m x kn kx=>l0 n x.1.1 (λy0=>kx 0 (sh0_0.enc ((y0,()),(())))) m x.1.2.1
def B:Bd:=⟨ash,rsh,[gZ.E,fW.E],⟨code,26,.nil,[(.tmp 2,.int .i64,.ro)]⟩,[⟨0,sh0,g0⟩]⟩
theorem u0:UO B 0 (.loop b0):=
 lu (.seq Vi (.block (some [0,3]) .nil)) [(0,[3])] [0,3] sh0 g0 mn
def E:En:=⟨152,λn=>⟨B.a,B.r,λv=>F n v.1⟩,cG B (.seq .nil (.seq .nil (.seq (.block (some [3]) (.cut 0 [0,3])) Vm))) Tryz.func152 (mc u0 mn)⟩
end ci
namespace cF
def j1 (n:Nat)(s4:ByteArray)(t5:Int)(Kn:Int->Option Int):Option Int:=
 if(0:Int)<=t5/\t5<(Jf s4:Int)then
 if decide ((aO s4 t5)=34)=true then
 some (Jh.wrap (t5+1))
 else
 if(0:Int)<=t5/\t5<(Jf s4:Int)then
 if(decide ((aO s4 t5)<32))=false then
 if(0:Int)<=t5/\t5<(Jf s4:Int)then
 if(decide ((aO s4 t5)>126))=false then
 if(0:Int)<=t5/\t5<(Jf s4:Int)then
 if decide ((aO s4 t5)=92)=true then
 some 0
 else
 Kn (Jh.wrap (t5+1))
 else
 none
 else
 some 0
 else
 none
 else
 some 0
 else
 none
 else
 none
def l0 (n:Nat)(s2:ByteArray)(K0:Unit->Option Int):Nat->Int->Option Int
 |0,_=>none
 |k+1,t3=>
 if(decide (t3<(Jf s2:Int)))=true then
 if decide (t3<=21)=true then
 j1 n s2 t3 (λt6=>
 l0 n s2 K0 k t6)
 else
 K0 ()
 else
 K0 ()
def F (n:Nat)(s1:ByteArray):Option Int:=
 l0 n s1 (λ_=>
 some 0) n 1
def code:=Tryz.f262.body.getD .skip
abbrev ash:List ASh:=[.ro .str]
abbrev rsh:List RSh:=[.ro QA]
def b0:=Jn (Jn (Jl (Jn (Jl code))))
def c1:=Jl b0
abbrev sh1:ES:=⟨[(0,.v .str),(3,.v QA)],[]⟩
abbrev sh0_0:ES:=⟨[],[]⟩
def g1:GL rsh sh1:=λn m x kn kx=>j1 n x.1.1 x.1.2.1 (λy0=>kn (sh1.enc ((x.1.1,y0,()),(()))))
def g0:GL rsh sh1:=λn m x kn kx=>l0 n x.1.1 (λ_=>kx 0 (sh0_0.enc ((()),(())))) m x.1.2.1
def B:Bd:=⟨ash,rsh,[],⟨code,38,.nil,[(.tmp 2,.int .i64,.ro)]⟩,[⟨1,sh1,g1⟩,⟨0,sh1,g0⟩]⟩
theorem u1:UO B 1 c1:=
 ju (.seq (.block (some [0,3]) (.block (some [0,3]) W0)) .nil) [(0,[])] [0,3] sh1 g1 mn
theorem u0:UO B 0 (.loop b0):=
 lu (.seq Vi (.cut 1 [0,3])) [(0,[])] [0,3] sh1 g0 (mc u1 mn)
def E:En:=⟨262,λn=>⟨B.a,B.r,λv=>F n v.1⟩,cG B (.seq .nil (.seq (.seq .nil (.block (some []) (.cut 0 [0,3]))) Vm)) Tryz.func262 (mc u0 mn)⟩
end cF
namespace aG
def l1 (n:Nat)(self:ByteArray->Option WM)(t6:ByteArray)(K1:Int->Option WM):Nat->Int->Option WM
 |0,_=>none
 |k+1,t7=>
 if(decide (t7<(Jf t6:Int)))=true then
 if(0:Int)<=t7/\t7<(Jf t6:Int)then
 (dG.F n (aO t6 t7)).bind λr8=>
 if r8=true then
 l1 n self t6 K1 k (Jh.wrap (t7+1))
 else
 K1 t7
 else
 none
 else
 K1 t7
def l4 (n:Nat)(self:ByteArray->Option WM)(t18:ByteArray)(K3:Int->Option WM):Nat->Int->Bool->Option WM
 |0,_,_=>none
 |k+1,t19,t20=>
 if t20=true then
 if(0:Int)<=(Jh.wrap (t19+1))/\(Jh.wrap (t19+1))<=(Jf t18:Int)/\(Jf t18:Int)<=(Jf t18:Int)then
 (self (Jz t18 (Jg (Jh.wrap (t19+1))) (Jg (Jf t18:Int)))).bind λr21=>
 if decide (r21.1=0)=true then
 some (0,0)
 else
 if(decide ((Jh.wrap (t19+(Jh.wrap (1+r21.2))))<(Jf t18:Int)))=true then
 if(0:Int)<=(Jh.wrap (t19+(Jh.wrap (1+r21.2))))/\(Jh.wrap (t19+(Jh.wrap (1+r21.2))))<(Jf t18:Int)then
 l4 n self t18 K3 k (Jh.wrap (t19+(Jh.wrap (1+r21.2)))) (decide ((aO t18 (Jh.wrap (t19+(Jh.wrap (1+r21.2)))))=44))
 else
 none
 else
 l4 n self t18 K3 k (Jh.wrap (t19+(Jh.wrap (1+r21.2)))) false
 else
 none
 else
 K3 t19
def j3 (n:Nat)(self:ByteArray->Option WM)(t16:ByteArray)(t17:Int)(Kn:Unit->Option WM):Option WM:=
 l4 n self t16 (λt22=>
 if(decide (t22<(Jf t16:Int)))=true then
 if(0:Int)<=t22/\t22<(Jf t16:Int)then
 if decide ((aO t16 t22)=41)=true then
 some (3,Jh.wrap (t22+1))
 else
 Kn ()
 else
 none
 else
 Kn ()) n t17 true
def j2 (n:Nat)(self:ByteArray->Option WM)(t13:ByteArray)(t14:Bool)(Kn:Unit->Option WM):Option WM:=
 if t14=true then
 (ci.F n t13).bind λr15=>
 if decide (r15>20)=true then
 some (0,0)
 else
 if(decide (r15=(Jf t13:Int)))=false then
 if(0:Int)<=r15/\r15<(Jf t13:Int)then
 if(!decide ((aO t13 r15)=40))=true then
 some (3,r15)
 else
 j3 n self t13 r15 (λ_=>
 Kn ())
 else
 none
 else
 some (3,r15)
 else
 Kn ()
def j0 (n:Nat)(self:ByteArray->Option WM)(t4:ByteArray)(t5:Bool)(Kn:Unit->Option WM):Option WM:=
 if t5=true then
 l1 n self t4 (λt9=>
 if(0:Int)<=0/\(0:Int)<=t9/\t9<=(Jf t4:Int)then
 (eX.F n (Jz t4 (Jg 0) (Jg t9))).bind λr10=>
 if(r10.2&&false)=true then
 none
 else
 if(r10.2==false)=true then
 (dX.F n r10.1 (-1000000) 1000000).bind λr11=>
 if r11=true then
 (de.F n r10.1).bind λr12=>
 if(0:Int)<=0/\(0:Int)<=t9/\t9<=(Jf t4:Int)then
 if(JL r12 (Jz t4 (Jg 0) (Jg t9)))=true then
 some (1,t9)
 else
 Kn ()
 else
 none
 else
 Kn ()
 else
 Kn ()
 else
 none) n 1
 else
 if(0:Int)<=0/\0<(Jf t4:Int)then
 if(decide ((aO t4 0)>=65))=true then
 if(0:Int)<=0/\0<(Jf t4:Int)then
 j2 n self t4 (decide ((aO t4 0)<=90)) (λ_=>
 Kn ())
 else
 none
 else
 j2 n self t4 false (λ_=>
 Kn ())
 else
 none
def G (n:Nat)(self:ByteArray->Option WM)(t1:ByteArray):Option WM:=
 if(JL t1 Jd)=true then
 some (0,0)
 else
 if(0:Int)<=0/\0<(Jf t1:Int)then
 if decide ((aO t1 0)=34)=true then
 (cF.F n t1).bind λr2=>
 if decide (r2>0)=true then
 some (2,r2)
 else
 some (0,0)
 else
 if(0:Int)<=0/\0<(Jf t1:Int)then
 if(decide ((aO t1 0)=45))=false then
 if(0:Int)<=0/\0<(Jf t1:Int)then
 (dG.F n (aO t1 0)).bind λr3=>
 j0 n self t1 r3 (λ_=>
 some (0,0))
 else
 none
 else
 j0 n self t1 true (λ_=>
 some (0,0))
 else
 none
 else
 none
def F:Nat->ByteArray->Option WM
 |0=>λ_=>none
 |n+1=>G n (F n)
def code:Code:=Tryz.f283.body.getD .skip
abbrev ash:List ASh:=[.ro .str]
abbrev rsh:List RSh:=[.ro QA,.ro QA]
def ent (n:Nat):ij:=⟨ash,rsh,λv=>F n v.1⟩
def cx (n:Nat):fS:=jD Jp TYS [(125,dX.E.e n),(128,de.E.e n),(152,ci.E.e n),(257,dG.E.e n),(262,cF.E.e n),(292,eX.E.e n),(283,ent n)]
def d:rx:=⟨code,127,.nil,[(.tmp 2,.int .i64,.ro),(.tmp 3,.int .i64,.ro)]⟩
def kr (n:Nat)(v:jB ash):KN rsh:=jK (cx n) d (eG ash v) (ip rsh)
def b1:Code:=Jn (Jn (Jn (Jl (Jn (Jl (Jl (Jl (Jn (Jn (Jl (Jl code)))))))))))
def b4:Code:=Jn (Jn (Jl (Jn (Jl (Jl (Jl (Jn (Jl (Jl (Jl (Jl (Jl (Jn (Jn (Jl (Jl code))))))))))))))))
def c3:Code:=(Jl (Jl (Jl (Jn (Jl (Jl (Jl (Jl (Jl (Jn (Jn (Jl (Jl code)))))))))))))
def c2:Code:=(Jl (Jl (Jl (Jl (Jl (Jn (Jn (Jl (Jl code)))))))))
def c0:Code:=(Jl (Jl (Jl (Jn (Jn (Jl (Jl code)))))))
def an:An:=.seq .nil (.seq Vf (.seq (.block (some []) (.seq .nil (.cond Vb (.seq .nil (.cut 0 [0,23]))))) Vm))
def an1:An:=.seq Vi (.block (some [0,5]) .nil)
abbrev sh1:ES:=⟨[(0,.v .str),(5,.v QA)],[]⟩
abbrev sh1_1:ES:=⟨[(0,.v .str),(5,.v QA)],[]⟩
def an4:An:=.seq Vi (.seq (.block (some [0,8]) W4) .nil)
abbrev sh4:ES:=⟨[(0,.v .str),(8,.v QA),(9,.v .bool)],[]⟩
abbrev sh4_3:ES:=⟨[(0,.v .str),(8,.v QA)],[]⟩
def an3:An:=.seq (.seq .nil (.block (some [0,8]) (.cut 4 [0,8,9]))) Vf
abbrev sh3:ES:=⟨[(0,.v .str),(8,.v QA)],[]⟩
abbrev sh3_n:ES:=⟨[],[]⟩
def an2:An:=.cond (.seq .nil (.seq Vf (.seq Vf (.cut 3 [0,8])))) .nil
abbrev sh2:ES:=⟨[(0,.v .str),(66,.v .bool)],[]⟩
abbrev sh2_n:ES:=⟨[],[]⟩
def an0:An:=.cond (.seq .nil (.seq (.block (some [0,5]) (.cut 1 [0,5])) Vb)) (.seq .nil (.cut 2 [0,66]))
abbrev sh0:ES:=⟨[(0,.v .str),(23,.v .bool)],[]⟩
abbrev sh0_n:ES:=⟨[],[]⟩
def g1 (n m:Nat)(x:sh1.V)(kn:KN rsh)(kx:KX rsh):Option (jL rsh):=l1 n (F n) x.1.1 (λy0=>kx 1 (sh1_1.enc ((x.1.1,y0,()),(())))) m x.1.2.1
def g4 (n m:Nat)(x:sh4.V)(kn:KN rsh)(kx:KX rsh):Option (jL rsh):=l4 n (F n) x.1.1 (λy0=>kx 3 (sh4_3.enc ((x.1.1,y0,()),(())))) m x.1.2.1 x.1.2.2.1
def g3 (n m:Nat)(x:sh3.V)(kn:KN rsh)(kx:KX rsh):Option (jL rsh):=j3 n (F n) x.1.1 x.1.2.1 (λ_=>kn (sh3_n.enc ((()),(()))))
def g2 (n m:Nat)(x:sh2.V)(kn:KN rsh)(kx:KX rsh):Option (jL rsh):=j2 n (F n) x.1.1 x.1.2.1 (λ_=>kn (sh2_n.enc ((()),(()))))
def g0 (n m:Nat)(x:sh0.V)(kn:KN rsh)(kx:KX rsh):Option (jL rsh):=j0 n (F n) x.1.1 x.1.2.1 (λ_=>kn (sh0_n.enc ((()),(()))))
def T (n:Nat):sO (jL rsh):=λj e kn kx=>match j with
 |1=>L7 sh1 e λx=>g1 n n x kn kx
 |4=>L7 sh4 e λx=>g4 n n x kn kx
 |3=>L7 sh3 e λx=>g3 n n x kn kx
 |2=>L7 sh2 e λx=>g2 n n x kn kx
 |0=>L7 sh0 e λx=>g0 n n x kn kx
 |_=>none
theorem mk (n:Nat)(ih:aq Jp 283 (ent n)):lS (cx n):=fJ (mem_cons (dX.E.ok n) (mem_cons (de.E.ok n) (mem_cons (ci.E.ok n) (mem_cons (dG.E.ok n) (mem_cons (cF.E.ok n) (mem_cons (eX.E.ok n) (mem_cons ih bD)))))))
theorem u1 (n:Nat)(v:jB ash)(ih:aq Jp 283 (ent n)):cQ (cx n) 127 (T n) (kr n v) 1 (.loop b1):=
 kq (n:=n) (CO _) (mk n ih) (MX _) an1 [(0,[]),(1,[0,5])] [0,5] sh1 (g1 n) (λ_ _ _=>rfl) (λ_ _ _=>rfl) (λm x kn kx=>by kernel_rfl) (l:=[]) (by kernel_rfl) (bD)
theorem u4 (n:Nat)(v:jB ash)(ih:aq Jp 283 (ent n)):cQ (cx n) 127 (T n) (kr n v) 4 (.loop b4):=
 kq (n:=n) (CO _) (mk n ih) (MX _) an4 [(0,[]),(3,[0,8])] [0,8,9] sh4 (g4 n) (λ_ _ _=>rfl) (λ_ _ _=>rfl) (λm x kn kx=>by kernel_rfl) (l:=[]) (by kernel_rfl) (bD)
theorem u3 (n:Nat)(v:jB ash)(ih:aq Jp 283 (ent n)):cQ (cx n) 127 (T n) (kr n v) 3 (c3):=
 jr (CO _) (mk n ih) (MX _) an3 [(0,[])] [] sh3 (g3 n n) (λ_ _ _=>rfl) (λx kn kx=>by kernel_rfl) (l:=[(4,.loop b4)]) (by kernel_rfl) (mem_cons (u4 n v ih) bD)
theorem u2 (n:Nat)(v:jB ash)(ih:aq Jp 283 (ent n)):cQ (cx n) 127 (T n) (kr n v) 2 (c2):=
 jr (CO _) (mk n ih) (MX _) an2 [(0,[])] [] sh2 (g2 n n) (λ_ _ _=>rfl) (λx kn kx=>by kernel_rfl) (l:=[(3,c3)]) (by kernel_rfl) (mem_cons (u3 n v ih) bD)
theorem u0 (n:Nat)(v:jB ash)(ih:aq Jp 283 (ent n)):cQ (cx n) 127 (T n) (kr n v) 0 (c0):=
 jr (CO _) (mk n ih) (MX _) an0 [(0,[])] [] sh0 (g0 n n) (λ_ _ _=>rfl) (λx kn kx=>by kernel_rfl) (l:=[(1,.loop b1),(2,c2)]) (by kernel_rfl) (mem_cons (u1 n v ih) (mem_cons (u2 n v ih) bD))
theorem ok:(n:Nat)->aq Jp 283 (ent n)
 |0=>gq Tryz.f283 (by kernel_rfl) (by kernel_rfl) (by kernel_rfl) (λ_=>rfl)
 |n+1=>have ih:=ok n
  iq (c:=cx n) (e:=ent (n+1)) (d:=d) (CO _) (mk n ih) (MX _) an Tryz.func283 (by kernel_rfl) (T n) (l:=[(0,c0)]) (by kernel_rfl) (λv=>mem_cons (u0 n v ih) bD) (λv=>by kernel_rfl)
def E:En:=⟨283,ent,ok⟩
end aG
namespace gC
def F (n:Nat)(s1:ByteArray):Option Int:=
 (aG.F n s1).bind λr2=>
 if(decide ((Jf s1:Int)>200))=false then
 if(!decide (r2.2=(Jf s1:Int)))=true then
 some 0
 else
 some r2.1
 else
 some 0
def code:=Tryz.f261.body.getD .skip
abbrev ash:List ASh:=[.ro .str]
abbrev rsh:List RSh:=[.ro QA]
def B:Bd:=⟨ash,rsh,[aG.E],⟨code,20,.nil,[(.tmp 2,.int .i64,.ro)]⟩,[]⟩
def E:En:=⟨261,λn=>⟨B.a,B.r,λv=>F n v.1⟩,cG B WY Tryz.func261 mn⟩
end gC
namespace bZ
def l0 (n:Nat)(s4:ByteArray)(K1:Int->Option WK):Nat->Int->Option WK
 |0,_=>none
 |k+1,t5=>
 if(decide (t5<(Jf s4:Int)))=true then
 if(0:Int)<=t5/\t5<(Jf s4:Int)then
 (dG.F n (aO s4 t5)).bind λr6=>
 if r6=true then
 l0 n s4 K1 k (Jh.wrap (t5+1))
 else
 K1 t5
 else
 none
 else
 K1 t5
def l1 (n:Nat)(s10:ByteArray)(t11:WL)(t12:Int)(K3:Unit->Option WK):Nat->Int->Option WK
 |0,_=>none
 |k+1,t13=>
 if decide (t13<t12)=true then
 if(0:Int)<=t13/\t13<(Je t11:Int)then
 (dY.F n s10 (Ji t11 (Jg t13) Jd)).bind λr14=>
 if r14=true then
 some (5,(Jf (Ji t11 (Jg t13) Jd):Int),0)
 else
 l1 n s10 t11 t12 K3 k (Jh.wrap (t13+1))
 else
 none
 else
 K3 ()
def F (n:Nat)(s1:ByteArray):Option WK:=
 (ci.F n s1).bind λr2=>
 if decide (r2>0)=true then
 if decide (r2>20)=true then
 some (0,0,2)
 else
 if(0:Int)<=0/\0<(Jf s1:Int)then
 if decide ((aO s1 0)>=97)=true then
 some (1,r2,0)
 else
 some (2,r2,0)
 else
 none
 else
 if(0:Int)<=0/\0<(Jf s1:Int)then
 (dG.F n (aO s1 0)).bind λr3=>
 if r3=true then
 l0 n s1 (λt7=>
 if(0:Int)<=0/\(0:Int)<=t7/\t7<=(Jf s1:Int)then
 (gC.F n (Jz s1 (Jg 0) (Jg t7))).bind λr8=>
 if(!decide (r8=1))=true then
 some (0,0,4)
 else
 some (3,t7,0)
 else
 none) n 0
 else
 if(0:Int)<=0/\0<(Jf s1:Int)then
 if decide ((aO s1 0)=34)=true then
 (cF.F n s1).bind λr9=>
 if decide (r9>0)=true then
 some (4,r9,0)
 else
 some (0,0,3)
 else
 l1 n s1 ([⟨#[58,45]⟩,⟨#[33,61]⟩,⟨#[60,61]⟩,⟨#[40]⟩,⟨#[41]⟩,⟨#[44]⟩,⟨#[46]⟩,⟨#[33]⟩,⟨#[61]⟩,⟨#[60]⟩,⟨#[43]⟩,⟨#[45]⟩,⟨#[42]⟩,⟨#[124]⟩,⟨#[95]⟩]:WL) (Je ([⟨#[58,45]⟩,⟨#[33,61]⟩,⟨#[60,61]⟩,⟨#[40]⟩,⟨#[41]⟩,⟨#[44]⟩,⟨#[46]⟩,⟨#[33]⟩,⟨#[61]⟩,⟨#[60]⟩,⟨#[43]⟩,⟨#[45]⟩,⟨#[42]⟩,⟨#[124]⟩,⟨#[95]⟩]:WL):Int) (λ_=>
 some (0,0,2)) n 0
 else
 none
 else
 none
def code:=Tryz.f224.body.getD .skip
abbrev ash:List ASh:=[.ro .str]
abbrev rsh:List RSh:=[.ro QA,.ro QA,.ro QA]
def b1:=Jn (Jn (Jl (Jn (Jl (Jl (Jl (Jl code)))))))
def b0:=Jn (Jn (Jn (Jl (Jn (Jl (Jn (Jl (Jl code))))))))
abbrev sh0:ES:=⟨[(0,.v .str),(6,.v QA)],[]⟩
abbrev sh1:ES:=⟨[(0,.v .str),(52,.v Qz),(53,.v QA),(54,.v QA)],[]⟩
abbrev sh1_3:ES:=⟨[],[]⟩
def g0:GL rsh sh0:=λn m x kn kx=>l0 n x.1.1 (λy0=>kx 1 (sh0.enc ((x.1.1,y0,()),(())))) m x.1.2.1
def g1:GL rsh sh1:=λn m x kn kx=>l1 n x.1.1 x.1.2.1 x.1.2.2.1 (λ_=>kx 3 (sh1_3.enc ((()),(())))) m x.1.2.2.2.1
def B:Bd:=⟨ash,rsh,[ci.E,dY.E,dG.E,gC.E,cF.E],⟨code,64,.nil,[(.tmp 2,.int .i64,.ro),(.tmp 3,.int .i64,.ro),(.tmp 4,.int .i64,.ro)]⟩,[⟨0,sh0,g0⟩,⟨1,sh1,g1⟩]⟩
theorem u0:UO B 0 (.loop b0):=
 lu (.seq Vi (.block (some [0,6]) .nil)) [(1,[0,6])] [0,6] sh0 g0 mn
theorem u1:UO B 1 (.loop b1):=
 lu (.seq .nil (.seq Vl (.seq (.block (some [0,52,53,54]) Vb) .nil))) [(3,[])] [0,52,53,54] sh1 g1 mn
def E:En:=⟨224,λn=>⟨B.a,B.r,λv=>F n v.1⟩,cG B (.seq .nil (.seq (.seq .nil (.seq .nil (.cond (.seq (.block (some [5]) W0) Vm) .nil))) (.seq (.seq .nil (.cond (.seq .nil (.seq (.block (some [0,6]) (.cut 0 [0,6])) W5)) .nil)) (.seq (.seq .nil (.cond W2 .nil)) (.seq (.seq .nil (.block (some []) (.cut 1 [0,52,53,54]))) Vm))))) Tryz.func224 (mc u0 (mc u1 mn))⟩
end bZ
namespace cZ
def l1 (n:Nat)(t7:ByteArray)(t9:WF)(K3:Int->Option Wx):Nat->Int->Option Wx
 |0,_=>none
 |k+1,t8=>
 if(decide (t8<(Jf t7:Int)))=true then
 if(0:Int)<=t8/\t8<(Jf t7:Int)then
 if(!decide ((aO t7 t8)=10))=true then
 l1 n t7 t9 K3 k (Jh.wrap (t8+1))
 else
 K3 t8
 else
 none
 else
 K3 t8
def l0 (n:Nat)(t2:ByteArray)(K0:WF->Option Wx):Nat->Int->WF->Option Wx
 |0,_,_=>none
 |k+1,t3,t4=>
 if decide (t3<(Jf t2:Int))=true then
 if(0:Int)<=t3/\t3<(Jf t2:Int)then
 (iu.F n ⟨#[32,9,10,13]⟩ (aO t2 t3)).bind λr5=>
 if decide (r5>=0)=true then
 l0 n t2 K0 k (Jh.wrap (t3+1)) t4
 else
 if(0:Int)<=t3/\t3<=(Jf t2:Int)/\(Jf t2:Int)<=(Jf t2:Int)then
 (dY.F n (Jz t2 (Jg t3) (Jg (Jf t2:Int))) ⟨#[47,47]⟩).bind λr6=>
 if r6=true then
 l1 n t2 t4 (λt10=>
 l0 n t2 K0 k t10 t4) n t3
 else
 if(0:Int)<=t3/\t3<=(Jf t2:Int)/\(Jf t2:Int)<=(Jf t2:Int)then
 (bZ.F n (Jz t2 (Jg t3) (Jg (Jf t2:Int)))).bind λr11=>
 if(!decide (r11.2.2=0))=true then
 some ([],t3,r11.2.2)
 else
 if(0:Int)<=t3/\t3<=(Jh.wrap (t3+r11.2.1))/\(Jh.wrap (t3+r11.2.1))<=(Jf t2:Int)then
 if Je t4+Je [(r11.1,(Jz t2 (Jg t3) (Jg (Jh.wrap (t3+r11.2.1))),t3))]<=aU then
 l0 n t2 K0 k (Jh.wrap (t3+r11.2.1)) (t4++[(r11.1,(Jz t2 (Jg t3) (Jg (Jh.wrap (t3+r11.2.1))),t3))])
 else
 none
 else
 none
 else
 none
 else
 none
 else
 none
 else
 K0 t4
def F (n:Nat)(t1:ByteArray):Option Wx:=
 if decide ((Jf t1:Int)>3000)=true then
 some ([],0,1)
 else
 l0 n t1 (λt12=>
 some (t12,0,0)) n 0 []
def code:=Tryz.f175.body.getD .skip
abbrev ash:List ASh:=[.ro .str]
abbrev rsh:List RSh:=[.ro Qo,.ro QA,.ro QA]
def b0:=Jn (Jn (Jl (Jn (Jl (Jl (Jl code))))))
def b1:=Jn (Jn (Jn (Jn (Jl (Jl (Jl (Jn (Jn (Jn (Jl b0))))))))))
abbrev sh1:ES:=⟨[(0,.v .str),(5,.al 5 []),(6,.v QA)],[⟨5,.sl Qs,.own .ro,false,false,none⟩]⟩
abbrev sh0_0:ES:=⟨[(5,.al 5 [])],[⟨5,.sl Qs,.own .ro,false,false,none⟩]⟩
def g1:GL rsh sh1:=λn m x kn kx=>l1 n x.1.1 x.2.1 (λy0=>kx 3 (sh1.enc ((x.1.1,(()),y0,()),(x.2.1,())))) m x.1.2.2.1
def g0:GL rsh sh1:=λn m x kn kx=>l0 n x.1.1 (λy0=>kx 0 (sh0_0.enc (((()),()),(y0,())))) m x.1.2.2.1 x.2.1
def B:Bd:=⟨ash,rsh,[iu.E,dY.E,bZ.E],⟨code,71,.nil,[(.tmp 2,.sl Qs,.ro),(.tmp 3,.int .i64,.ro),(.tmp 4,.int .i64,.ro)]⟩,[⟨1,sh1,g1⟩,⟨0,sh1,g0⟩]⟩
theorem u1:UO B 1 (.loop b1):=
 lu (.seq Vi (.block (some [0,5,6]) .nil)) [(0,[5]),(1,[0,5,6]),(2,[0,5,6]),(3,[0,5,6])] [0,5,6] sh1 g1 mn
theorem u0:UO B 0 (.loop b0):=
 lu (.seq Vi (.block (some [0,5,6]) (.seq (.block (some [0,5,6]) (.seq .nil (.cond Vm (.seq .nil (.cond (.seq (.block (some [0,5,6]) (.cut 1 [0,5,6])) .nil) .nil))))) W3))) [(0,[5])] [0,5,6] sh1 g0 (mc u1 mn)
def E:En:=⟨175,λn=>⟨B.a,B.r,λv=>F n v.1⟩,cG B (.seq .nil (.seq Vf (.seq (.reg [(13,.own .ro)]) (.seq (.seq .nil (.block (some [5]) (.cut 0 [0,5,6]))) Vm)))) Tryz.func175 (mc u0 mn)⟩
end cZ
namespace aY
def F (n:Nat)(p1:Wt)(behind2:Int):Option WJ:=
 if(decide (p1.2.2.2.1>=0))=false then
 if decide ((Jh.wrap (p1.2.1+behind2))>=(Je p1.1:Int))=true then
 some (0,(Jd,0))
 else
 if(0:Int)<=(Jh.wrap (p1.2.1+behind2))/\(Jh.wrap (p1.2.1+behind2))<(Je p1.1:Int)then
 some (Ji p1.1 (Jg (Jh.wrap (p1.2.1+behind2))) (0,(Jd,0)))
 else
 none
 else
 some (0,(Jd,0))
def code:=Tryz.f263.body.getD .skip
abbrev ash:List ASh:=[.rp Qh,.ro QA]
abbrev rsh:List RSh:=[.ro Qs]
def B:Bd:=⟨ash,rsh,[],⟨code,37,.nil,[(.cell 4 218,.st Qu,.ro)]⟩,[]⟩
def E:En:=⟨263,λn=>⟨B.a,B.r,λv=>F n v.1 v.2.1⟩,cG B W3 Tryz.func263 mn⟩
end aY
namespace bL
def F (n:Nat)(p1:Wt)(word2:ByteArray):Option Bool:=
 (aY.F n p1 0).bind λr3=>
 if(decide (r3.1=1))=true then
 some (JL r3.2.1 word2)
 else
 some false
def code:=Tryz.f225.body.getD .skip
abbrev ash:List ASh:=[.rp Qh,.ro .str]
abbrev rsh:List RSh:=[.ro .bool]
def B:Bd:=⟨ash,rsh,[aY.E],⟨code,17,.nil,[(.tmp 4,.bool,.ro)]⟩,[]⟩
def E:En:=⟨225,λn=>⟨B.a,B.r,λv=>F n v.1 v.2.1⟩,cG B Vh Tryz.func225 mn⟩
end bL
open Go.Proofs
namespace aZ
def F (n:Nat)(p1:Wt):Option Wt:=
 if decide (p1.2.2.2.1>=0)=true then
 some p1
 else
 if decide (p1.2.1<(Je p1.1:Int))=true then
 if(0:Int)<=p1.2.1/\p1.2.1<(Je p1.1:Int)then
 some (p1.1,(p1.2.1,(p1.2.2.1,(((Ji p1.1 (Jg p1.2.1) (0,(Jd,0))).2).2,p1.2.2.2.2))))
 else
 none
 else
 some (p1.1,(p1.2.1,(p1.2.2.1,(p1.2.2.1,p1.2.2.2.2))))
def code:=Tryz.f264.body.getD .skip
abbrev ash:List ASh:=[.mp Qh .ro]
abbrev rsh:List RSh:=[.out Qh]
def B:Bd:=⟨ash,rsh,[],⟨code,38,.nil,[]⟩,[]⟩
def E:En:=⟨264,λn=>⟨B.a,B.r,λv=>F n v.1⟩,cG B (.seq Vi Ve) Tryz.func264 mn⟩
end aZ
namespace bO
def F (n:Nat)(p1:Wt)(kind2:Int):Option Wo:=
 (aY.F n p1 0).bind λr3=>
 if(!decide (r3.1=kind2))=true then
 (aZ.F n p1).bind λr4=>
 some (Jd,r4)
 else
 some (r3.2.1,(p1.1,(Jh.wrap (p1.2.1+1),p1.2.2)))
def code:=Tryz.f226.body.getD .skip
abbrev ash:List ASh:=[.mp Qh .ro,.ro QA]
abbrev rsh:List RSh:=[.ro .str,.out Qh]
def B:Bd:=⟨ash,rsh,[aY.E,aZ.E],⟨code,23,.nil,[(.tmp 4,.str,.ro)]⟩,[]⟩
def E:En:=⟨226,λn=>⟨B.a,B.r,λv=>F n v.1 v.2.1⟩,cG B WX Tryz.func226 mn⟩
end bO
namespace bU
def F (n:Nat)(p1:Wt)(sign2:ByteArray):Option Bool:=
 (aY.F n p1 0).bind λr3=>
 if(decide (r3.1=5))=true then
 some (JL r3.2.1 sign2)
 else
 some false
def code:=Tryz.f230.body.getD .skip
abbrev ash:List ASh:=[.rp Qh,.ro .str]
abbrev rsh:List RSh:=[.ro .bool]
def B:Bd:=⟨ash,rsh,[aY.E],⟨code,17,.nil,[(.tmp 4,.bool,.ro)]⟩,[]⟩
def E:En:=⟨230,λn=>⟨B.a,B.r,λv=>F n v.1 v.2.1⟩,cG B Vh Tryz.func230 mn⟩
end bU
namespace aD
def F (n:Nat)(p1:Wt)(sign2:ByteArray):Option (Bool×WF×Int×Int×Int×Bool):=
 (bU.F n p1 sign2).bind λr3=>
 if r3=true then
 some (r3,(p1.1,(Jh.wrap (p1.2.1+1),p1.2.2)))
 else
 some (r3,p1)
def code:=Tryz.f229.body.getD .skip
abbrev ash:List ASh:=[.mp Qh .ro,.ro .str]
abbrev rsh:List RSh:=[.ro .bool,.out Qh]
def B:Bd:=⟨ash,rsh,[bU.E],⟨code,18,.nil,[(.tmp 4,.bool,.ro)]⟩,[]⟩
def E:En:=⟨229,λn=>⟨B.a,B.r,λv=>F n v.1 v.2.1⟩,cG B W1 Tryz.func229 mn⟩
end aD
namespace aA
def F (n:Nat)(p1:Wt)(sign2:ByteArray):Option Wt:=
 (aD.F n p1 sign2).bind λr3=>
 if(!r3.1)=true then
 (aZ.F n r3.2).bind λr4=>
 some r4
 else
 some r3.2
def code:=Tryz.f227.body.getD .skip
abbrev ash:List ASh:=[.mp Qh .ro,.ro .str]
abbrev rsh:List RSh:=[.out Qh]
def B:Bd:=⟨ash,rsh,[aD.E,aZ.E],⟨code,10,.nil,[]⟩,[]⟩
def E:En:=⟨227,λn=>⟨B.a,B.r,λv=>F n v.1 v.2.1⟩,cG B Vi Tryz.func227 mn⟩
end aA
namespace dn
def j0 (n:Nat)(p6:Wt)(t7:WJ):Option Wo:=
 some (t7.2.1,(p6.1,(Jh.wrap (p6.2.1+1),p6.2.2)))
def F (n:Nat)(p1:Wt):Option Wo:=
 (aY.F n p1 0).bind λr2=>
 if(!decide (r2.1=2))=true then
 (bL.F n p1 ⟨#[110,117,109,98,101,114]⟩).bind λr3=>
 if(!r3)=true then
 (bL.F n p1 ⟨#[115,121,109,98,111,108]⟩).bind λr4=>
 if(!r4)=true then
 (aZ.F n p1).bind λr5=>
 some (Jd,r5)
 else
 j0 n p1 r2
 else
 j0 n p1 r2
 else
 j0 n p1 r2
def code:=Tryz.f265.body.getD .skip
abbrev ash:List ASh:=[.mp Qh .ro]
abbrev rsh:List RSh:=[.ro .str,.out Qh]
def c0:=Jl (Jl (Jl code))
abbrev sh0:ES:=⟨[(0,.pt 0 []),(3,.pt 3 [])],[⟨0,.st Qi,.ro,true,true,none⟩,⟨3,.st Qu,.ro,true,false,none⟩]⟩
def g0:GL rsh sh0:=λn m x kn kx=>j0 n x.2.1 x.2.2.1
def B:Bd:=⟨ash,rsh,[bL.E,aY.E,aZ.E],⟨code,30,.nil,[(.tmp 2,.str,.ro)]⟩,[⟨0,sh0,g0⟩]⟩
theorem u0:UO B 0 c0:=
 ju Vk [] [0,2] sh0 g0 mn
def E:En:=⟨265,λn=>⟨B.a,B.r,λv=>F n v.1⟩,cG B (.seq .nil (.seq .nil (.seq Va (.cut 0 [0,3])))) Tryz.func265 (mc u0 mn)⟩
end dn
namespace bN
def l0 (n:Nat)(K0:Wt->WL->Option Wn):Nat->Wt->WL->Option Wn
 |0,_,_=>none
 |k+1,p3,out4=>
 (aD.F n p3 ⟨#[44]⟩).bind λr5=>
 if r5.1=true then
 (dn.F n r5.2).bind λr6=>
 if Je out4+Je [r6.1]<=aU then
 l0 n K0 k r6.2 (out4++[r6.1])
 else
 none
 else
 K0 r5.2 out4
def F (n:Nat)(p1:Wt):Option Wn:=
 (dn.F n p1).bind λr2=>
 l0 n (λp7 out8=>
 if p7.2.2.2.2=false then
 some (out8,(p7.1,(p7.2.1,(p7.2.2.1,(p7.2.2.2.1,decide ((Je out8:Int)>6))))))
 else
 some (out8,(p7.1,(p7.2.1,(p7.2.2.1,(p7.2.2.2.1,true)))))) n r2.2 [r2.1]
def code:=Tryz.f231.body.getD .skip
abbrev ash:List ASh:=[.mp Qh .ro]
abbrev rsh:List RSh:=[.ro Qz,.out Qh]
def b0:=Jn (Jn (Jn (Jl (Jl code))))
abbrev sh0:ES:=⟨[(0,.pt 0 []),(3,.al 3 [])],[⟨0,.st Qi,.ro,true,true,none⟩,⟨3,.sl QC,.own .ro,false,false,none⟩]⟩
def g0:GL rsh sh0:=λn m x kn kx=>l0 n (λy0 y1=>kx 0 (sh0.enc (((()),(()),()),(y0,y1,())))) m x.2.1 x.2.2.1
def B:Bd:=⟨ash,rsh,[aD.E,dn.E],⟨code,27,.nil,[(.tmp 2,.sl QC,.ro)]⟩,[⟨0,sh0,g0⟩]⟩
theorem u0:UO B 0 (.loop b0):=
 lu (.seq Vi (.block (some [0,3]) .nil)) [(0,[0,3])] [0,3] sh0 g0 mn
def E:En:=⟨231,λn=>⟨B.a,B.r,λv=>F n v.1⟩,cG B (.seq .nil (.seq (.reg [(6,.own .ro)]) (.seq (.block (some [0,3]) (.cut 0 [0,3])) Vk))) Tryz.func231 (mc u0 mn)⟩
end bN
namespace ea
def F (n:Nat)(p1:Wt):Option (WH×WF×Int×Int×Int×Bool):=
 (bO.F n p1 2).bind λr2=>
 (aD.F n r2.2 ⟨#[40]⟩).bind λr3=>
 if r3.1=true then
 (bN.F n r3.2).bind λr4=>
 (aA.F n r4.2 ⟨#[41]⟩).bind λr5=>
 some ((r2.1,r4.1),r5)
 else
 some ((r2.1,[]),r3.2)
def code:=Tryz.f228.body.getD .skip
abbrev ash:List ASh:=[.mp Qh .ro]
abbrev rsh:List RSh:=[.ro Qw,.out Qh]
def B:Bd:=⟨ash,rsh,[bO.E,aA.E,aD.E,bN.E],⟨code,15,.nil,[(.cell 2 177,.st Qx,.ro)]⟩,[]⟩
def E:En:=⟨228,λn=>⟨B.a,B.r,λv=>F n v.1⟩,cG B WY Tryz.func228 mn⟩
end ea
namespace fk
def F (n:Nat):Option WL:=
 some ([Jd,⟨#[105,110,112,117,116]⟩,⟨#[111,117,116,112,117,116]⟩,⟨#[105,110,108,105,110,101]⟩]:WL)
def code:=Tryz.f206.body.getD .skip
abbrev ash:List ASh:=[]
abbrev rsh:List RSh:=[.ro Qz]
def B:Bd:=⟨ash,rsh,[],⟨code,2,.nil,[(.tmp 0,.sl QC,.ro)]⟩,[]⟩
def E:En:=⟨206,λn=>⟨B.a,B.r,λv=>F n⟩,cG B Vk Tryz.func206 mn⟩
end fk
namespace iB
def F (n:Nat)(s1:ByteArray):Option Int:=
 (eX.F n s1).bind λr2=>
 some r2.1
def code:=Tryz.f305.body.getD .skip
abbrev ash:List ASh:=[.ro .str]
abbrev rsh:List RSh:=[.ro QA]
def B:Bd:=⟨ash,rsh,[eX.E],⟨code,11,.nil,[(.tmp 2,.int .i64,.ro)]⟩,[]⟩
def E:En:=⟨305,λn=>⟨B.a,B.r,λv=>F n v.1⟩,cG B Vh Tryz.func305 mn⟩
end iB
namespace bw
def F (n:Nat)(r1:WD)(e2:WG):Option Wz:=
 if Je r1+Je [e2]<=aU then
 some (Jh.wrap ((Je (r1++[e2]):Int) - 1),r1++[e2])
 else
 none
def code:=Tryz.f294.body.getD .skip
abbrev ash:List ASh:=[.mp Qk QQ,.mv Qn QT]
abbrev rsh:List RSh:=[.ro QA,.out Qk]
def B:Bd:=⟨ash,rsh,[],⟨code,21,.nil,[(.tmp 4,.int .i64,.ro)]⟩,[]⟩
def E:En:=⟨294,λn=>⟨B.a,B.r,λv=>F n v.1 v.2.1⟩,cG B (.seq .nil (.seq (.reg [(11,.own QT)]) Vm)) Tryz.func294 mn⟩
end bw
namespace ac
def l0 (n:Nat)(self5800284:Wt->WD->Option Wi)(self5900285:Wd)(self6000293:Wd)(self6100299:Wd)(K0:Wt->WD->WN->Option Wi):Nat->Wt->WD->WN->Option Wi
 |0,_,_,_=>none
 |k+1,p4,r5,out6=>
 (aD.F n p4 ⟨#[44]⟩).bind λr7=>
 if r7.1=true then
 (self5900285 r7.2 r5).bind λr8=>
 if Je out6+Je [r8.1]<=aU then
 l0 n self5800284 self5900285 self6000293 self6100299 K0 k r8.2.1 r8.2.2 (out6++[r8.1])
 else
 none
 else
 K0 r7.2 r5 out6
def G (n:Nat)(self5800284:Wt->WD->Option Wi)(self5900285:Wd)(self6000293:Wd)(self6100299:Wd)(p1:Wt)(r2:WD):Option Wi:=
 (self5900285 p1 r2).bind λr3=>
 l0 n self5800284 self5900285 self6000293 self6100299 (λp9 r10 out11=>
 if p9.2.2.2.2=false then
 some (out11,(p9.1,(p9.2.1,(p9.2.2.1,(p9.2.2.2.1,decide ((Je out11:Int)>6))))),r10)
 else
 some (out11,(p9.1,(p9.2.1,(p9.2.2.1,(p9.2.2.2.1,true)))),r10)) n r3.2.1 r3.2.2 [r3.1]
end ac
namespace aa
def j2 (n:Nat)(self5800284:Wt->WD->Option Wi)(self5900285:Wd)(self6000293:Wd)(self6100299:Wd)(a13:Int)(kind14:Int)(p15:Wt)(r16:WD)(Kn:Int->Wt->WD->Option Wl):Option Wl:=
 (self6000293 (p15.1,(Jh.wrap (p15.2.1+1),p15.2.2)) r16).bind λr17=>
 (bw.F n r17.2.2 (kind14,(Jd,[a13,r17.1]))).bind λr18=>
 Kn r18.1 r17.2.1 r18.2
def j1 (n:Nat)(self5800284:Wt->WD->Option Wi)(self5900285:Wd)(self6000293:Wd)(self6100299:Wd)(a9:Int)(p10:Wt)(r11:WD)(Kn:Int->Wt->WD->Option Wl):Option Wl:=
 (bU.F n p10 ⟨#[45]⟩).bind λr12=>
 if r12=true then
 j2 n self5800284 self5900285 self6000293 self6100299 a9 6 p10 r11 (λa19 p20 r21=>
 Kn a19 p20 r21)
 else
 j2 n self5800284 self5900285 self6000293 self6100299 a9 5 p10 r11 (λa22 p23 r24=>
 Kn a22 p23 r24)
def l0 (n:Nat)(self5800284:Wt->WD->Option Wi)(self5900285:Wd)(self6000293:Wd)(self6100299:Wd)(K0:Int->Wt->WD->Option Wl):Nat->Int->Wt->WD->Option Wl
 |0,_,_,_=>none
 |k+1,a4,p5,r6=>
 (bU.F n p5 ⟨#[43]⟩).bind λr7=>
 if r7=false then
 (bU.F n p5 ⟨#[45]⟩).bind λr8=>
 if r8=true then
 j1 n self5800284 self5900285 self6000293 self6100299 a4 p5 r6 (λa25 p26 r27=>
 l0 n self5800284 self5900285 self6000293 self6100299 K0 k a25 p26 r27)
 else
 K0 a4 p5 r6
 else
 j1 n self5800284 self5900285 self6000293 self6100299 a4 p5 r6 (λa28 p29 r30=>
 l0 n self5800284 self5900285 self6000293 self6100299 K0 k a28 p29 r30)
def G (n:Nat)(self5800284:Wt->WD->Option Wi)(self5900285:Wd)(self6000293:Wd)(self6100299:Wd)(p1:Wt)(r2:WD):Option Wl:=
 (self6000293 p1 r2).bind λr3=>
 l0 n self5800284 self5900285 self6000293 self6100299 (λa31 p32 r33=>
 some (a31,p32,r33)) n r3.1 r3.2.1 r3.2.2
end aa
namespace ai
def l0 (n:Nat)(self5800284:Wt->WD->Option Wi)(self5900285:Wd)(self6000293:Wd)(self6100299:Wd)(K0:Int->Wt->WD->Option Wl):Nat->Int->Wt->WD->Option Wl
 |0,_,_,_=>none
 |k+1,a4,p5,r6=>
 (aD.F n p5 ⟨#[42]⟩).bind λr7=>
 if r7.1=true then
 (self6100299 r7.2 r6).bind λr8=>
 (bw.F n r8.2.2 (7,(Jd,[a4,r8.1]))).bind λr9=>
 l0 n self5800284 self5900285 self6000293 self6100299 K0 k r9.1 r8.2.1 r9.2
 else
 K0 a4 r7.2 r6
def G (n:Nat)(self5800284:Wt->WD->Option Wi)(self5900285:Wd)(self6000293:Wd)(self6100299:Wd)(p1:Wt)(r2:WD):Option Wl:=
 (self6100299 p1 r2).bind λr3=>
 l0 n self5800284 self5900285 self6000293 self6100299 (λa10 p11 r12=>
 some (a10,p11,r12)) n r3.1 r3.2.1 r3.2.2
end ai
namespace ag
def j0 (n:Nat)(self5800284:Wt->WD->Option Wi)(self5900285:Wd)(self6000293:Wd)(self6100299:Wd)(t4:Bool)(t5:Wt)(t6:WD)(t7:WJ)(Kn:Wt->Option Wl):Option Wl:=
 if t4=true then
 (bw.F n t6 (3,(t7.2.1,[]))).bind λr8=>
 some (r8.1,(t5.1,(Jh.wrap (t5.2.1+1),t5.2.2)),r8.2)
 else
 if decide (t7.1=1)=true then
 (bw.F n t6 (1,(t7.2.1,[]))).bind λr9=>
 some (r9.1,(t5.1,(Jh.wrap (t5.2.1+1),t5.2.2)),r9.2)
 else
 (aD.F n t5 ⟨#[95]⟩).bind λr10=>
 if r10.1=true then
 (bw.F n t6 (2,(Jd,[]))).bind λr11=>
 some (r11.1,r10.2,r11.2)
 else
 (aD.F n r10.2 ⟨#[45]⟩).bind λr12=>
 if r12.1=true then
 (bO.F n r12.2 3).bind λr13=>
 (iB.F n r13.1).bind λr14=>
 (de.F n (Jh.wrap (0 - r14))).bind λr15=>
 (bw.F n t6 (3,(r15,[]))).bind λr16=>
 some (r16.1,r13.2,r16.2)
 else
 if decide (t7.1=2)=true then
 (aD.F n (r12.2.1,(Jh.wrap (r12.2.2.1+1),r12.2.2.2)) ⟨#[40]⟩).bind λr17=>
 if r17.1=true then
 (self5800284 r17.2 t6).bind λr18=>
 (aA.F n r18.2.1 ⟨#[41]⟩).bind λr19=>
 (bw.F n r18.2.2 (4,(t7.2.1,r18.1))).bind λr20=>
 some (r20.1,r19,r20.2)
 else
 (bw.F n t6 (4,(t7.2.1,[]))).bind λr21=>
 some (r21.1,r17.2,r21.2)
 else
 (aD.F n r12.2 ⟨#[40]⟩).bind λr22=>
 if r22.1=true then
 (self5900285 r22.2 t6).bind λr23=>
 (aA.F n r23.2.1 ⟨#[41]⟩).bind λr24=>
 some (r23.1,r24,r23.2.2)
 else
 Kn r22.2
def G (n:Nat)(self5800284:Wt->WD->Option Wi)(self5900285:Wd)(self6000293:Wd)(self6100299:Wd)(t1:Wt)(t2:WD):Option Wl:=
 (aY.F n t1 0).bind λr3=>
 if(decide (r3.1=3))=false then
 j0 n self5800284 self5900285 self6000293 self6100299 (decide (r3.1=4)) t1 t2 r3 (λt25=>
 (aZ.F n t25).bind λr26=>
 some (0,r26,t2))
 else
 j0 n self5800284 self5900285 self6000293 self6100299 true t1 t2 r3 (λt27=>
 (aZ.F n t27).bind λr28=>
 some (0,r28,t2))
end ag
def dg:Nat->(Wt->WD->Option Wi)×Wd×Wd×Wd
 |0=>(λ_ _=>none,λ_ _=>none,λ_ _=>none,λ_ _=>none)
 |n+1=>(ac.G n (dg n).1 (dg n).2.1 (dg n).2.2.1 (dg n).2.2.2,aa.G n (dg n).1 (dg n).2.1 (dg n).2.2.1 (dg n).2.2.2,ai.G n (dg n).1 (dg n).2.1 (dg n).2.2.1 (dg n).2.2.2,ag.G n (dg n).1 (dg n).2.1 (dg n).2.2.1 (dg n).2.2.2)
namespace ac
def code:Code:=Tryz.f284.body.getD .skip
def F (n:Nat):Wt->WD->Option Wi:=(dg n).1
abbrev ash:List ASh:=[.mp Qh .ro,.mp Qk QQ]
abbrev rsh:List RSh:=[.own Qy QZ,.out Qh,.out Qk]
def ent (n:Nat):ij:=⟨ash,rsh,λv=>F n v.1 v.2.1⟩
end ac
namespace aa
def code:Code:=Tryz.f285.body.getD .skip
def F (n:Nat):Wt->WD->Option Wl:=(dg n).2.1
abbrev ash:List ASh:=[.mp Qh .ro,.mp Qk QQ]
abbrev rsh:List RSh:=[.ro QA,.out Qh,.out Qk]
def ent (n:Nat):ij:=⟨ash,rsh,λv=>F n v.1 v.2.1⟩
end aa
namespace ai
def code:Code:=Tryz.f293.body.getD .skip
def F (n:Nat):Wt->WD->Option Wl:=(dg n).2.2.1
abbrev ash:List ASh:=[.mp Qh .ro,.mp Qk QQ]
abbrev rsh:List RSh:=[.ro QA,.out Qh,.out Qk]
def ent (n:Nat):ij:=⟨ash,rsh,λv=>F n v.1 v.2.1⟩
end ai
namespace ag
def code:Code:=Tryz.f299.body.getD .skip
def F (n:Nat):Wt->WD->Option Wl:=(dg n).2.2.2
abbrev ash:List ASh:=[.mp Qh .ro,.mp Qk QQ]
abbrev rsh:List RSh:=[.ro QA,.out Qh,.out Qk]
def ent (n:Nat):ij:=⟨ash,rsh,λv=>F n v.1 v.2.1⟩
end ag
namespace ac
def cx (n:Nat):fS:=jD Jp TYS [(229,aD.E.e n),(284,ac.ent n),(285,aa.ent n),(293,ai.ent n),(299,ag.ent n)]
def d:rx:=⟨code,31,.nil,[(.tmp 4,.sl QA,.own .ro)]⟩
def kr (n:Nat)(v:jB ash):KN rsh:=jK (cx n) d (eG ash v) (ip rsh)
def b0:Code:=Jn (Jn (Jn (Jl (Jl code))))
def an:An:=.seq .nil (.seq (.reg [(9,.own .ro)]) (.seq (.block (some [0,1,5]) (.cut 0 [0,1,5])) Vk))
def an0:An:=.seq Vi (.block (some [0,1,5]) .nil)
abbrev sh0:ES:=⟨[(0,.pt 0 []),(1,.pt 1 []),(5,.al 5 [])],[⟨0,.st Qi,.ro,true,true,none⟩,⟨1,.sl Qn,.own QT,true,true,none⟩,⟨5,.sl QA,.own .ro,false,false,none⟩]⟩
abbrev sh0_0:ES:=⟨[(0,.pt 0 []),(1,.pt 1 []),(5,.al 5 [])],[⟨0,.st Qi,.ro,true,true,none⟩,⟨1,.sl Qn,.own QT,true,true,none⟩,⟨5,.sl QA,.own .ro,false,false,none⟩]⟩
def g0 (n m:Nat)(x:sh0.V)(kn:KN rsh)(kx:KX rsh):Option (jL rsh):=l0 n (ac.F n) (aa.F n) (ai.F n) (ag.F n) (λy0 y1 y2=>kx 0 (sh0_0.enc (((()),(()),(()),()),(y0,y1,y2,())))) m x.2.1 x.2.2.1 x.2.2.2.1
def T (n:Nat):sO (jL rsh):=λj e kn kx=>match j with
 |0=>L7 sh0 e λx=>g0 n n x kn kx
 |_=>none
theorem mk (n:Nat)(ih5800284:aq Jp 284 (ac.ent n))(ih5900285:aq Jp 285 (aa.ent n))(ih6000293:aq Jp 293 (ai.ent n))(ih6100299:aq Jp 299 (ag.ent n)):lS (cx n):=fJ (mem_cons (aD.E.ok n) (mem_cons ih5800284 (mem_cons ih5900285 (mem_cons ih6000293 (mem_cons ih6100299 bD)))))
theorem u0 (n:Nat)(v:jB ash)(ih5800284:aq Jp 284 (ac.ent n))(ih5900285:aq Jp 285 (aa.ent n))(ih6000293:aq Jp 293 (ai.ent n))(ih6100299:aq Jp 299 (ag.ent n)):cQ (cx n) 31 (T n) (kr n v) 0 (.loop b0):=
 kq (n:=n) (CO _) (mk n ih5800284 ih5900285 ih6000293 ih6100299) (MX _) an0 [(0,[0,1,5])] [0,1,5] sh0 (g0 n) (λ_ _ _=>rfl) (λ_ _ _=>rfl) (λm x kn kx=>by kernel_rfl) (l:=[]) (by kernel_rfl) (bD)
theorem ok0:aq Jp 284 (ent 0):=gq Tryz.f284 (by kernel_rfl) (by kernel_rfl) (by kernel_rfl) (λ_=>rfl)
theorem okS (n:Nat)(ih5800284:aq Jp 284 (ac.ent n))(ih5900285:aq Jp 285 (aa.ent n))(ih6000293:aq Jp 293 (ai.ent n))(ih6100299:aq Jp 299 (ag.ent n)):aq Jp 284 (ent (n+1)):=
 iq (c:=cx n) (e:=ent (n+1)) (d:=d) (CO _) (mk n ih5800284 ih5900285 ih6000293 ih6100299) (MX _) an Tryz.func284 (by kernel_rfl) (T n) (l:=[(0,.loop b0)]) (by kernel_rfl) (λv=>mem_cons (u0 n v ih5800284 ih5900285 ih6000293 ih6100299) bD) (λv=>by kernel_rfl)
end ac
namespace aa
def cx (n:Nat):fS:=jD Jp TYS [(230,bU.E.e n),(294,bw.E.e n),(284,ac.ent n),(285,aa.ent n),(293,ai.ent n),(299,ag.ent n)]
def d:rx:=⟨code,37,.nil,[(.tmp 4,.int .i64,.ro)]⟩
def kr (n:Nat)(v:jB ash):KN rsh:=jK (cx n) d (eG ash v) (ip rsh)
def c2:Code:=(Jl (Jl (Jn (Jl (Jn (Jn (Jn (Jl (Jl code)))))))))
def c1:Code:=(Jl (Jn (Jn (Jn (Jl (Jl code))))))
def b0:Code:=Jn (Jn (Jn (Jl (Jl code))))
def an:An:=.seq .nil (.seq .nil (.seq (.block (some [0,1,5]) (.cut 0 [0,1,5])) Vm))
def an2:An:=.seq .nil (.seq .nil (.reg [(33,.own .ro),(34,.pr .ro QX)]))
abbrev sh2:ES:=⟨[(0,.pt 0 []),(1,.pt 1 []),(5,.v QA),(6,.v QA)],[⟨0,.st Qi,.ro,true,true,none⟩,⟨1,.sl Qn,.own QT,true,true,none⟩]⟩
abbrev sh2_n:ES:=⟨[(0,.pt 0 []),(1,.pt 1 []),(5,.v QA)],[⟨0,.st Qi,.ro,true,true,none⟩,⟨1,.sl Qn,.own QT,true,true,none⟩]⟩
def an1:An:=.block (some [0,1,5]) (.seq .nil (.seq Vi (.cut 2 [0,1,5,6])))
abbrev sh1:ES:=⟨[(0,.pt 0 []),(1,.pt 1 []),(5,.v QA)],[⟨0,.st Qi,.ro,true,true,none⟩,⟨1,.sl Qn,.own QT,true,true,none⟩]⟩
abbrev sh1_n:ES:=⟨[(0,.pt 0 []),(1,.pt 1 []),(5,.v QA)],[⟨0,.st Qi,.ro,true,true,none⟩,⟨1,.sl Qn,.own QT,true,true,none⟩]⟩
def an0:An:=.seq Vi (.cut 1 [0,1,5])
abbrev sh0:ES:=⟨[(0,.pt 0 []),(1,.pt 1 []),(5,.v QA)],[⟨0,.st Qi,.ro,true,true,none⟩,⟨1,.sl Qn,.own QT,true,true,none⟩]⟩
abbrev sh0_0:ES:=⟨[(0,.pt 0 []),(1,.pt 1 []),(5,.v QA)],[⟨0,.st Qi,.ro,true,true,none⟩,⟨1,.sl Qn,.own QT,true,true,none⟩]⟩
def g2 (n m:Nat)(x:sh2.V)(kn:KN rsh)(kx:KX rsh):Option (jL rsh):=j2 n (ac.F n) (aa.F n) (ai.F n) (ag.F n) x.1.2.2.1 x.1.2.2.2.1 x.2.1 x.2.2.1 (λy0 y1 y2=>kn (sh2_n.enc (((()),(()),y0,()),(y1,y2,()))))
def g1 (n m:Nat)(x:sh1.V)(kn:KN rsh)(kx:KX rsh):Option (jL rsh):=j1 n (ac.F n) (aa.F n) (ai.F n) (ag.F n) x.1.2.2.1 x.2.1 x.2.2.1 (λy0 y1 y2=>kn (sh1_n.enc (((()),(()),y0,()),(y1,y2,()))))
def g0 (n m:Nat)(x:sh0.V)(kn:KN rsh)(kx:KX rsh):Option (jL rsh):=l0 n (ac.F n) (aa.F n) (ai.F n) (ag.F n) (λy0 y1 y2=>kx 0 (sh0_0.enc (((()),(()),y0,()),(y1,y2,())))) m x.1.2.2.1 x.2.1 x.2.2.1
def T (n:Nat):sO (jL rsh):=λj e kn kx=>match j with
 |2=>L7 sh2 e λx=>g2 n n x kn kx
 |1=>L7 sh1 e λx=>g1 n n x kn kx
 |0=>L7 sh0 e λx=>g0 n n x kn kx
 |_=>none
theorem mk (n:Nat)(ih5800284:aq Jp 284 (ac.ent n))(ih5900285:aq Jp 285 (aa.ent n))(ih6000293:aq Jp 293 (ai.ent n))(ih6100299:aq Jp 299 (ag.ent n)):lS (cx n):=fJ (mem_cons (bU.E.ok n) (mem_cons (bw.E.ok n) (mem_cons ih5800284 (mem_cons ih5900285 (mem_cons ih6000293 (mem_cons ih6100299 bD))))))
theorem u2 (n:Nat)(v:jB ash)(ih5800284:aq Jp 284 (ac.ent n))(ih5900285:aq Jp 285 (aa.ent n))(ih6000293:aq Jp 293 (ai.ent n))(ih6100299:aq Jp 299 (ag.ent n)):cQ (cx n) 37 (T n) (kr n v) 2 (c2):=
 jr (CO _) (mk n ih5800284 ih5900285 ih6000293 ih6100299) (MX _) an2 [(0,[0,1,5]),(1,[0,1,5])] [0,1,5] sh2 (g2 n n) (λ_ _ _=>rfl) (λx kn kx=>by kernel_rfl) (l:=[]) (by kernel_rfl) (bD)
theorem u1 (n:Nat)(v:jB ash)(ih5800284:aq Jp 284 (ac.ent n))(ih5900285:aq Jp 285 (aa.ent n))(ih6000293:aq Jp 293 (ai.ent n))(ih6100299:aq Jp 299 (ag.ent n)):cQ (cx n) 37 (T n) (kr n v) 1 (c1):=
 jr (CO _) (mk n ih5800284 ih5900285 ih6000293 ih6100299) (MX _) an1 [(0,[0,1,5])] [0,1,5] sh1 (g1 n n) (λ_ _ _=>rfl) (λx kn kx=>by kernel_rfl) (l:=[(2,c2)]) (by kernel_rfl) (mem_cons (u2 n v ih5800284 ih5900285 ih6000293 ih6100299) bD)
theorem u0 (n:Nat)(v:jB ash)(ih5800284:aq Jp 284 (ac.ent n))(ih5900285:aq Jp 285 (aa.ent n))(ih6000293:aq Jp 293 (ai.ent n))(ih6100299:aq Jp 299 (ag.ent n)):cQ (cx n) 37 (T n) (kr n v) 0 (.loop b0):=
 kq (n:=n) (CO _) (mk n ih5800284 ih5900285 ih6000293 ih6100299) (MX _) an0 [(0,[0,1,5])] [0,1,5] sh0 (g0 n) (λ_ _ _=>rfl) (λ_ _ _=>rfl) (λm x kn kx=>by kernel_rfl) (l:=[(1,c1)]) (by kernel_rfl) (mem_cons (u1 n v ih5800284 ih5900285 ih6000293 ih6100299) bD)
theorem ok0:aq Jp 285 (ent 0):=gq Tryz.f285 (by kernel_rfl) (by kernel_rfl) (by kernel_rfl) (λ_=>rfl)
theorem okS (n:Nat)(ih5800284:aq Jp 284 (ac.ent n))(ih5900285:aq Jp 285 (aa.ent n))(ih6000293:aq Jp 293 (ai.ent n))(ih6100299:aq Jp 299 (ag.ent n)):aq Jp 285 (ent (n+1)):=
 iq (c:=cx n) (e:=ent (n+1)) (d:=d) (CO _) (mk n ih5800284 ih5900285 ih6000293 ih6100299) (MX _) an Tryz.func285 (by kernel_rfl) (T n) (l:=[(0,.loop b0)]) (by kernel_rfl) (λv=>mem_cons (u0 n v ih5800284 ih5900285 ih6000293 ih6100299) bD) (λv=>by kernel_rfl)
end aa
namespace ai
def cx (n:Nat):fS:=jD Jp TYS [(229,aD.E.e n),(294,bw.E.e n),(284,ac.ent n),(285,aa.ent n),(293,ai.ent n),(299,ag.ent n)]
def d:rx:=⟨code,22,.nil,[(.tmp 4,.int .i64,.ro)]⟩
def kr (n:Nat)(v:jB ash):KN rsh:=jK (cx n) d (eG ash v) (ip rsh)
def b0:Code:=Jn (Jn (Jn (Jl (Jl code))))
def an:An:=.seq .nil (.seq .nil (.seq (.block (some [0,1,5]) (.cut 0 [0,1,5])) Vm))
def an0:An:=.seq Vi (.block (some [0,1,5]) (.seq .nil (.reg [(18,.own .ro),(19,.pr .ro QX)])))
abbrev sh0:ES:=⟨[(0,.pt 0 []),(1,.pt 1 []),(5,.v QA)],[⟨0,.st Qi,.ro,true,true,none⟩,⟨1,.sl Qn,.own QT,true,true,none⟩]⟩
abbrev sh0_0:ES:=⟨[(0,.pt 0 []),(1,.pt 1 []),(5,.v QA)],[⟨0,.st Qi,.ro,true,true,none⟩,⟨1,.sl Qn,.own QT,true,true,none⟩]⟩
def g0 (n m:Nat)(x:sh0.V)(kn:KN rsh)(kx:KX rsh):Option (jL rsh):=l0 n (ac.F n) (aa.F n) (ai.F n) (ag.F n) (λy0 y1 y2=>kx 0 (sh0_0.enc (((()),(()),y0,()),(y1,y2,())))) m x.1.2.2.1 x.2.1 x.2.2.1
def T (n:Nat):sO (jL rsh):=λj e kn kx=>match j with
 |0=>L7 sh0 e λx=>g0 n n x kn kx
 |_=>none
theorem mk (n:Nat)(ih5800284:aq Jp 284 (ac.ent n))(ih5900285:aq Jp 285 (aa.ent n))(ih6000293:aq Jp 293 (ai.ent n))(ih6100299:aq Jp 299 (ag.ent n)):lS (cx n):=fJ (mem_cons (aD.E.ok n) (mem_cons (bw.E.ok n) (mem_cons ih5800284 (mem_cons ih5900285 (mem_cons ih6000293 (mem_cons ih6100299 bD))))))
theorem u0 (n:Nat)(v:jB ash)(ih5800284:aq Jp 284 (ac.ent n))(ih5900285:aq Jp 285 (aa.ent n))(ih6000293:aq Jp 293 (ai.ent n))(ih6100299:aq Jp 299 (ag.ent n)):cQ (cx n) 22 (T n) (kr n v) 0 (.loop b0):=
 kq (n:=n) (CO _) (mk n ih5800284 ih5900285 ih6000293 ih6100299) (MX _) an0 [(0,[0,1,5])] [0,1,5] sh0 (g0 n) (λ_ _ _=>rfl) (λ_ _ _=>rfl) (λm x kn kx=>by kernel_rfl) (l:=[]) (by kernel_rfl) (bD)
theorem ok0:aq Jp 293 (ent 0):=gq Tryz.f293 (by kernel_rfl) (by kernel_rfl) (by kernel_rfl) (λ_=>rfl)
theorem okS (n:Nat)(ih5800284:aq Jp 284 (ac.ent n))(ih5900285:aq Jp 285 (aa.ent n))(ih6000293:aq Jp 293 (ai.ent n))(ih6100299:aq Jp 299 (ag.ent n)):aq Jp 293 (ent (n+1)):=
 iq (c:=cx n) (e:=ent (n+1)) (d:=d) (CO _) (mk n ih5800284 ih5900285 ih6000293 ih6100299) (MX _) an Tryz.func293 (by kernel_rfl) (T n) (l:=[(0,.loop b0)]) (by kernel_rfl) (λv=>mem_cons (u0 n v ih5800284 ih5900285 ih6000293 ih6100299) bD) (λv=>by kernel_rfl)
end ai
namespace ag
def cx (n:Nat):fS:=jD Jp TYS [(128,de.E.e n),(226,bO.E.e n),(227,aA.E.e n),(229,aD.E.e n),(263,aY.E.e n),(264,aZ.E.e n),(305,iB.E.e n),(294,bw.E.e n),(284,ac.ent n),(285,aa.ent n),(293,ai.ent n),(299,ag.ent n)]
def d:rx:=⟨code,100,.nil,[(.tmp 4,.int .i64,.ro)]⟩
def kr (n:Nat)(v:jB ash):KN rsh:=jK (cx n) d (eG ash v) (ip rsh)
def c0:Code:=(Jl (Jn (Jn (Jl (Jl code)))))
def an:An:=.seq .nil (.seq .nil (.seq (.block (some [0,1]) (.seq .nil (.cut 0 [0,1,5,10]))) Vk))
def an0:An:=.cond (.seq .nil (.seq (.reg [(29,.pr .ro QX)]) .nil)) (.seq .nil (.cond (.seq .nil (.seq (.reg [(45,.pr .ro QX)]) .nil)) (.seq .nil (.cond (.seq (.reg [(51,.pr .ro QX)]) .nil) (.seq .nil (.cond (.seq (.reg [(62,.pr .ro QX)]) .nil) (.seq .nil (.cond (.seq .nil (.seq (.reg [(77,.pr .ro QX),(6,.pr .ro QX)]) (.seq (.seq .nil (.cond (.seq (.reg [(82,.own .ro)]) .nil) .nil)) Vm))) W6))))))))
abbrev sh0:ES:=⟨[(0,.pt 0 []),(1,.pt 1 []),(5,.pt 5 []),(10,.v .bool)],[⟨0,.st Qi,.ro,true,true,none⟩,⟨1,.sl Qn,.own QT,true,true,none⟩,⟨5,.st Qu,.ro,true,false,none⟩]⟩
abbrev sh0_n:ES:=⟨[(0,.pt 0 []),(1,.pt 1 [])],[⟨0,.st Qi,.ro,true,true,none⟩,⟨1,.sl Qn,.own QT,true,true,none⟩]⟩
def g0 (n m:Nat)(x:sh0.V)(kn:KN rsh)(kx:KX rsh):Option (jL rsh):=j0 n (ac.F n) (aa.F n) (ai.F n) (ag.F n) x.1.2.2.2.1 x.2.1 x.2.2.1 x.2.2.2.1 (λy0=>kn (sh0_n.enc (((()),(()),()),(y0,x.2.2.1,()))))
def T (n:Nat):sO (jL rsh):=λj e kn kx=>match j with
 |0=>L7 sh0 e λx=>g0 n n x kn kx
 |_=>none
theorem mk (n:Nat)(ih5800284:aq Jp 284 (ac.ent n))(ih5900285:aq Jp 285 (aa.ent n))(ih6000293:aq Jp 293 (ai.ent n))(ih6100299:aq Jp 299 (ag.ent n)):lS (cx n):=fJ (mem_cons (de.E.ok n) (mem_cons (bO.E.ok n) (mem_cons (aA.E.ok n) (mem_cons (aD.E.ok n) (mem_cons (aY.E.ok n) (mem_cons (aZ.E.ok n) (mem_cons (iB.E.ok n) (mem_cons (bw.E.ok n) (mem_cons ih5800284 (mem_cons ih5900285 (mem_cons ih6000293 (mem_cons ih6100299 bD))))))))))))
theorem u0 (n:Nat)(v:jB ash)(ih5800284:aq Jp 284 (ac.ent n))(ih5900285:aq Jp 285 (aa.ent n))(ih6000293:aq Jp 293 (ai.ent n))(ih6100299:aq Jp 299 (ag.ent n)):cQ (cx n) 100 (T n) (kr n v) 0 (c0):=
 jr (CO _) (mk n ih5800284 ih5900285 ih6000293 ih6100299) (MX _) an0 [(0,[0,1])] [0,1] sh0 (g0 n n) (λ_ _ _=>rfl) (λx kn kx=>by kernel_rfl) (l:=[]) (by kernel_rfl) (bD)
theorem ok0:aq Jp 299 (ent 0):=gq Tryz.f299 (by kernel_rfl) (by kernel_rfl) (by kernel_rfl) (λ_=>rfl)
theorem okS (n:Nat)(ih5800284:aq Jp 284 (ac.ent n))(ih5900285:aq Jp 285 (aa.ent n))(ih6000293:aq Jp 293 (ai.ent n))(ih6100299:aq Jp 299 (ag.ent n)):aq Jp 299 (ent (n+1)):=
 iq (c:=cx n) (e:=ent (n+1)) (d:=d) (CO _) (mk n ih5800284 ih5900285 ih6000293 ih6100299) (MX _) an Tryz.func299 (by kernel_rfl) (T n) (l:=[(0,c0)]) (by kernel_rfl) (λv=>mem_cons (u0 n v ih5800284 ih5900285 ih6000293 ih6100299) bD) (λv=>by kernel_rfl)
end ag
theorem nM:(n:Nat)->aq Jp 284 (ac.ent n)/\aq Jp 285 (aa.ent n)/\aq Jp 293 (ai.ent n)/\aq Jp 299 (ag.ent n)
 |0=>⟨ac.ok0,aa.ok0,ai.ok0,ag.ok0⟩
 |n+1=>have ih:=nM n;⟨ac.okS n ih.1 ih.2.1 ih.2.2.1 ih.2.2.2,aa.okS n ih.1 ih.2.1 ih.2.2.1 ih.2.2.2,ai.okS n ih.1 ih.2.1 ih.2.2.1 ih.2.2.2,ag.okS n ih.1 ih.2.1 ih.2.2.1 ih.2.2.2⟩
theorem ac.ok (n:Nat):aq Jp 284 (ac.ent n):=(nM n).1
def ac.E:En:=⟨284,ac.ent,ac.ok⟩
theorem aa.ok (n:Nat):aq Jp 285 (aa.ent n):=(nM n).2.1
def aa.E:En:=⟨285,aa.ent,aa.ok⟩
namespace cT
def F (n:Nat)(p1:Wt)(r2:WD):Option Wf:=
 (bO.F n p1 1).bind λr3=>
 (aA.F n r3.2 ⟨#[40]⟩).bind λr4=>
 (bU.F n r4 ⟨#[41]⟩).bind λr5=>
 if(!r5)=true then
 (ac.F n r4 r2).bind λr6=>
 (aA.F n r6.2.1 ⟨#[41]⟩).bind λr7=>
 some ((1,(r3.1,r6.1)),r7,r6.2.2)
 else
 (aA.F n r4 ⟨#[41]⟩).bind λr8=>
 some ((1,(r3.1,[])),r8,r2)
def code:=Tryz.f266.body.getD .skip
abbrev ash:List ASh:=[.mp Qh .ro,.mp Qk QQ]
abbrev rsh:List RSh:=[.own Qn QT,.out Qh,.out Qk]
def B:Bd:=⟨ash,rsh,[bO.E,aA.E,bU.E,ac.E],⟨code,21,.nil,[(.cell 4 31,.st Qr,.pr .ro QX)]⟩,[]⟩
def E:En:=⟨266,λn=>⟨B.a,B.r,λv=>F n v.1 v.2.1⟩,cG B (.seq (.reg [(4,.pr .ro QX)]) (.seq (.reg [(8,.pr .ro QX),(5,.pr .ro QX)]) (.seq .nil (.seq (.seq .nil (.cond (.reg [(16,.own .ro)]) .nil)) Vk)))) Tryz.func266 mn⟩
end cT
namespace aI
def j0 (n:Nat)(t7:Bool)(p8:Wt)(r9:WD)(t10:WG)(Kn:Unit->Option Wf):Option Wf:=
 if t7=true then
 (cT.F n p8 r9).bind λr11=>
 some (r11.1,r11.2.1,r11.2.2)
 else
 Kn ()
def l2 (n:Nat)(a16:Int)(t17:WL)(t18:Int)(r21:WD)(t22:WG)(K0:Wt->Option Wf):Nat->Int->Wt->Option Wf
 |0,_,_=>none
 |k+1,t19,p20=>
 if decide (t19<t18)=true then
 if(0:Int)<=t19/\t19<(Je t17:Int)then
 (aD.F n p20 (Ji t17 (Jg t19) Jd)).bind λr23=>
 if r23.1=true then
 (aa.F n r23.2 r21).bind λr24=>
 some ((3,(Ji t17 (Jg t19) Jd,[a16,r24.1])),r24.2.1,r24.2.2)
 else
 l2 n a16 t17 t18 r21 t22 K0 k (Jh.wrap (t19+1)) r23.2
 else
 none
 else
 K0 p20
def j1 (n:Nat)(p12:Wt)(r13:WD)(t14:WG):Option Wf:=
 (aa.F n p12 r13).bind λr15=>
 l2 n r15.1 ([⟨#[61]⟩,⟨#[33,61]⟩,⟨#[60]⟩,⟨#[60,61]⟩]:WL) (Je ([⟨#[61]⟩,⟨#[33,61]⟩,⟨#[60]⟩,⟨#[60,61]⟩]:WL):Int) r15.2.2 t14 (λp25=>
 (aZ.F n p25).bind λr26=>
 some ((0,(Jd,[])),r26,r15.2.2)) n 0 r15.2.1
def F (n:Nat)(p1:Wt)(r2:WD):Option Wf:=
 (aD.F n p1 ⟨#[33]⟩).bind λr3=>
 if r3.1=true then
 (cT.F n r3.2 r2).bind λr4=>
 some ((2,r4.1.2),r4.2.1,r4.2.2)
 else
 (aY.F n r3.2 1).bind λr5=>
 (aY.F n r3.2 0).bind λr6=>
 if(decide (r6.1=1))=true then
 if(decide (r5.1=5))=true then
 j0 n (JL r5.2.1 ⟨#[40]⟩) r3.2 r2 (0,(Jd,[])) (λ_=>
 j1 n r3.2 r2 (0,(Jd,[])))
 else
 j0 n false r3.2 r2 (0,(Jd,[])) (λ_=>
 j1 n r3.2 r2 (0,(Jd,[])))
 else
 j0 n false r3.2 r2 (0,(Jd,[])) (λ_=>
 j1 n r3.2 r2 (0,(Jd,[])))
def code:=Tryz.f267.body.getD .skip
abbrev ash:List ASh:=[.mp Qh .ro,.mp Qk QQ]
abbrev rsh:List RSh:=[.own Qn QT,.out Qh,.out Qk]
def c1:=Jl (Jl (Jl (Jl code)))
def c0:=Jl (Jn (Jl (Jl (Jl code))))
def b2:=Jn (Jn (Jl (Jn (Jl c1))))
abbrev sh0:ES:=⟨[(0,.pt 0 []),(1,.pt 1 []),(4,.pt 4 []),(32,.v .bool)],[⟨0,.st Qi,.ro,true,true,none⟩,⟨1,.sl Qn,.own QT,true,true,none⟩,⟨4,.st Qr,.pr .ro QX,true,false,none⟩]⟩
abbrev sh0_n:ES:=⟨[(0,.pt 0 []),(1,.pt 1 []),(4,.pt 4 [])],[⟨0,.st Qi,.ro,true,true,none⟩,⟨1,.sl Qn,.own QT,true,true,none⟩,⟨4,.st Qr,.pr .ro QX,true,false,none⟩]⟩
abbrev sh2:ES:=⟨[(0,.pt 0 []),(1,.pt 1 []),(4,.pt 4 []),(7,.v QA),(39,.v Qz),(40,.v QA),(41,.v QA)],[⟨0,.st Qi,.ro,true,true,none⟩,⟨1,.sl Qn,.own QT,true,true,none⟩,⟨4,.st Qr,.pr .ro QX,true,false,none⟩]⟩
def g0:GL rsh sh0:=λn m x kn kx=>j0 n x.1.2.2.2.1 x.2.1 x.2.2.1 x.2.2.2.1 (λ_=>kn (sh0_n.enc (((()),(()),(()),()),(x.2.1,x.2.2.1,x.2.2.2.1,()))))
def g2:GL rsh sh2:=λn m x kn kx=>l2 n x.1.2.2.2.1 x.1.2.2.2.2.1 x.1.2.2.2.2.2.1 x.2.2.1 x.2.2.2.1 (λy0=>kx 0 (sh0_n.enc (((()),(()),(()),()),(y0,x.2.2.1,x.2.2.2.1,())))) m x.1.2.2.2.2.2.2.1 x.2.1
def g1:GL rsh sh0_n:=λn m x kn kx=>j1 n x.2.1 x.2.2.1 x.2.2.2.1
def B:Bd:=⟨ash,rsh,[aD.E,aY.E,aZ.E,cT.E,aa.E],⟨code,59,.nil,[(.cell 4 31,.st Qr,.pr .ro QX)]⟩,[⟨0,sh0,g0⟩,⟨2,sh2,g2⟩,⟨1,sh0_n,g1⟩]⟩
theorem u0:UO B 0 c0:=
 ju (.cond (.seq (.reg [(35,.pr .ro QX)]) .nil) .nil) [] [0,1,4] sh0 g0 mn
theorem u2:UO B 2 (.loop b2):=
 lu (.seq .nil (.seq Vl (.seq (.block (some [0,1,4,7,39,40,41]) (.seq .nil (.seq .nil (.cond (.seq (.reg [(53,.own .ro),(54,.pr .ro QX)]) .nil) .nil)))) .nil))) [(0,[0,1,4])] [0,1,4,7,39,40,41] sh2 g2 mn
theorem u1:UO B 1 c1:=
 ju (.seq .nil (.seq (.seq .nil (.block (some [0,1,4]) (.cut 2 [0,1,4,7,39,40,41]))) (.seq .nil (.seq (.reg [(58,.pr .ro QX)]) .nil)))) [] [0,1,4] sh0_n g1 (mc u2 mn)
def E:En:=⟨267,λn=>⟨B.a,B.r,λv=>F n v.1 v.2.1⟩,cG B (.seq (.reg [(4,.pr .ro QX)]) (.seq (.seq .nil (.cond (.seq (.reg [(14,.pr .ro QX),(5,.pr .ro QX)]) Vk) .nil)) (.seq .nil (.seq (.seq .nil (.cut 0 [0,1,4,32])) (.cut 1 [0,1,4]))))) Tryz.func267 (mc u0 (mc u1 mn))⟩
end aI
namespace bY
def l0 (n:Nat)(t6:Wk)(K0:Wt->Wk->Option We):Nat->Wt->Wk->Option We
 |0,_,_=>none
 |k+1,p5,r7=>
 (aD.F n p5 ⟨#[44]⟩).bind λr8=>
 if r8.1=true then
 (aI.F n r8.2 r7.1).bind λr9=>
 if Je r7.2.2+Je [r9.1]<=aU then
 l0 n t6 K0 k r9.2.1 (r9.2.2,(r7.2.1,r7.2.2++[r9.1]))
 else
 none
 else
 K0 r8.2 r7
def j1 (n:Nat)(p12:Wt)(t13:Wk)(r14:Wk):Option We:=
 (aA.F n p12 ⟨#[46]⟩).bind λr15=>
 if r15.2.2.2.2=false then
 if(decide ((Je r14.2.2:Int)>12))=false then
 some (r14,(r15.1,(r15.2.1,(r15.2.2.1,(r15.2.2.2.1,decide ((Je r14.1:Int)>60))))))
 else
 some (r14,(r15.1,(r15.2.1,(r15.2.2.1,(r15.2.2.2.1,true)))))
 else
 some (r14,(r15.1,(r15.2.1,(r15.2.2.1,(r15.2.2.2.1,true)))))
def F (n:Nat)(p1:Wt):Option We:=
 (cT.F n p1 []).bind λr2=>
 (aD.F n r2.2.1 ⟨#[58,45]⟩).bind λr3=>
 if r3.1=true then
 (aI.F n r3.2 r2.2.2).bind λr4=>
 if Je ([]:WD)+Je [r4.1]<=aU then
 l0 n ([],((0,(Jd,[])),[])) (λp10 r11=>
 j1 n p10 ([],((0,(Jd,[])),[])) r11) n r4.2.1 (r4.2.2,(r2.1,[]++[r4.1]))
 else
 none
 else
 j1 n r3.2 ([],((0,(Jd,[])),[])) (r2.2.2,(r2.1,[]))
def code:=Tryz.f232.body.getD .skip
abbrev ash:List ASh:=[.mp Qh .ro]
abbrev rsh:List RSh:=[.own Qf QJ,.out Qh]
def c1:=Jl (Jl (Jl (Jl code)))
def b0:=Jn (Jn (Jl (Jn (Jl (Jn (Jl (Jl (Jl code))))))))
abbrev sh0:ES:=⟨[(0,.pt 0 []),(2,.pt 2 []),(3,.pt 3 [])],[⟨0,.st Qi,.ro,true,true,none⟩,⟨2,.st Qg,.pr QQ QN,true,false,none⟩,⟨3,.st Qg,.pr QQ QN,true,false,none⟩]⟩
def g0:GL rsh sh0:=λn m x kn kx=>l0 n x.2.2.1 (λy0 y1=>kx 0 (sh0.enc (((()),(()),(()),()),(y0,x.2.2.1,y1,())))) m x.2.1 x.2.2.2.1
def g1:GL rsh sh0:=λn m x kn kx=>j1 n x.2.1 x.2.2.1 x.2.2.2.1
def B:Bd:=⟨ash,rsh,[aA.E,aD.E,cT.E,aI.E],⟨code,48,.nil,[(.cell 2 34,.st Qg,.pr QQ QN)]⟩,[⟨0,sh0,g0⟩,⟨1,sh0,g1⟩]⟩
theorem u0:UO B 0 (.loop b0):=
 lu (.seq Vi (.block (some [0,2,3]) (.reg [(19,.own .ro),(20,.own .ro),(22,.pr .ro QX),(23,.own QT),(500003,.ro)]))) [(0,[0,2,3])] [0,2,3] sh0 g0 mn
theorem u1:UO B 1 c1:=
 ju Vh [] [0,2] sh0 g1 mn
def E:En:=⟨232,λn=>⟨B.a,B.r,λv=>F n v.1⟩,cG B (.seq (.reg [(2,.pr QQ QN)]) (.seq (.reg [(4,.pr QQ QN),(3,.pr QQ QN)]) (.seq (.reg [(6,.pr .ro QX),(500003,.ro)]) (.seq (.seq .nil (.cond (.seq (.reg [(10,.own .ro),(11,.own .ro),(13,.pr .ro QX),(14,.own QT),(500003,.ro)]) (.block (some [0,2,3]) (.cut 0 [0,2,3]))) .nil)) (.cut 1 [0,2,3]))))) Tryz.func232 (mc u0 (mc u1 mn))⟩
end bY
namespace aE
def l0 (n:Nat)(t8:Wc)(K1:Wt->Ww->Option Q8):Nat->Wt->Ww->Option Q8
 |0,_,_=>none
 |k+1,t7,t9=>
 (aD.F n t7 ⟨#[124]⟩).bind λr10=>
 if r10.1=true then
 (ea.F n r10.2).bind λr11=>
 if Je t9.2+Je [r11.1]<=aU then
 l0 n t8 K1 k r11.2 (t9.1,t9.2++[r11.1])
 else
 none
 else
 K1 r10.2 t9
def l2 (n:Nat)(t25:WL)(t26:Int)(t28:Wt)(t29:Wc)(t30:WC)(K3:Wt->WC->Option Q8):Nat->Int->Option Q8
 |0,_=>none
 |k+1,t27=>
 if decide (t27<t26)=true then
 if(0:Int)<=t27/\t27<(Je t25:Int)then
 if(!decide (t27=0))=true then
 (bL.F n t28 (Ji t25 (Jg t27) Jd)).bind λr31=>
 if r31=true then
 K3 (t28.1,(Jh.wrap (t28.2.1+1),t28.2.2)) (t30.1,(t30.2.1,t27))
 else
 l2 n t25 t26 t28 t29 t30 K3 k (Jh.wrap (t27+1))
 else
 l2 n t25 t26 t28 t29 t30 K3 k (Jh.wrap (t27+1))
 else
 none
 else
 K3 t28 t30
def j1 (n:Nat)(t20:Wt)(t21:Wc)(t22:WC)(Kn:Wt->Wc->Option Q8):Option Q8:=
 (aA.F n t20 ⟨#[41]⟩).bind λr23=>
 (fk.F n).bind λr24=>
 l2 n r24 (Je r24:Int) r23 t21 t22 (λt32 t33=>
 (aA.F n t32 ⟨#[46]⟩).bind λr34=>
 if Je t21.2.1+Je [t33]<=aU then
 Kn r34 (t21.1,(t21.2.1++[t33],t21.2.2))
 else
 none) n 0
def F (n:Nat)(t1:Wt)(t2:Wc):Option Q8:=
 (bL.F n t1 ⟨#[116,121,112,101]⟩).bind λr3=>
 if r3=true then
 (bO.F n (t1.1,(Jh.wrap (t1.2.1+1),t1.2.2)) 2).bind λr4=>
 (aA.F n r4.2 ⟨#[61]⟩).bind λr5=>
 (ea.F n r5).bind λr6=>
 if Je ([]:WE)+Je [r6.1]<=aU then
 l0 n t2 (λt12 t13=>
 (aA.F n t12 ⟨#[46]⟩).bind λr14=>
 if r14.2.2.2.2=false then
 if Je t2.1+Je [t13]<=aU then
 some ((r14.1,(r14.2.1,(r14.2.2.1,(r14.2.2.2.1,decide ((Je t13.2:Int)>12))))),(t2.1++[t13],t2.2))
 else
 none
 else
 if Je t2.1+Je [t13]<=aU then
 some ((r14.1,(r14.2.1,(r14.2.2.1,(r14.2.2.2.1,true)))),(t2.1++[t13],t2.2))
 else
 none) n r6.2 (r4.1,[]++[r6.1])
 else
 none
 else
 (bL.F n t1 ⟨#[114,101,108]⟩).bind λr15=>
 if r15=true then
 (bO.F n (t1.1,(Jh.wrap (t1.2.1+1),t1.2.2)) 1).bind λr16=>
 (aA.F n r16.2 ⟨#[40]⟩).bind λr17=>
 (bU.F n r17 ⟨#[41]⟩).bind λr18=>
 if(!r18)=true then
 (bN.F n r17).bind λr19=>
 j1 n r19.2 t2 (r16.1,(r19.1,0)) (λt35 t36=>
 some (t35,t36))
 else
 j1 n r17 t2 (r16.1,([],0)) (λt37 t38=>
 some (t37,t38))
 else
 (bY.F n t1).bind λr39=>
 if Je t2.2.2+Je [r39.1]<=aU then
 some (r39.2,(t2.1,(t2.2.1,t2.2.2++[r39.1])))
 else
 none
def code:=Tryz.f176.body.getD .skip
abbrev ash:List ASh:=[.mp Qh .ro,.mp Qc QF]
abbrev rsh:List RSh:=[.out Qh,.out Qc]
def c1:=Jl (Jl (Jl (Jl (Jn (Jl (Jl (Jl (Jn code))))))))
def b0:=Jn (Jn (Jn (Jl (Jl (Jl (Jl (Jn (Jl (Jn code)))))))))
def b2:=Jn (Jn (Jl (Jn (Jl c1))))
abbrev sh0:ES:=⟨[(0,.pt 0 []),(1,.pt 1 []),(4,.pt 4 [])],[⟨0,.st Qi,.ro,true,true,none⟩,⟨1,.st Qd,.pr QZ QG,true,true,none⟩,⟨4,.st Qp,.pr .ro QZ,true,false,none⟩]⟩
abbrev sh2:ES:=⟨[(0,.pt 0 []),(1,.pt 1 []),(5,.pt 5 []),(98,.v Qz),(99,.v QA),(100,.v QA)],[⟨0,.st Qi,.ro,true,true,none⟩,⟨1,.st Qd,.pr QZ QG,true,true,none⟩,⟨5,.st Qt,.ro,true,false,none⟩]⟩
abbrev sh2_3:ES:=⟨[(0,.pt 0 []),(1,.pt 1 []),(5,.pt 5 [])],[⟨0,.st Qi,.ro,true,true,none⟩,⟨1,.st Qd,.pr QZ QG,true,true,none⟩,⟨5,.st Qt,.ro,true,false,none⟩]⟩
abbrev sh1_n:ES:=⟨[(0,.pt 0 []),(1,.pt 1 [])],[⟨0,.st Qi,.ro,true,true,none⟩,⟨1,.st Qd,.pr QZ QG,true,true,none⟩]⟩
def g0:GL rsh sh0:=λn m x kn kx=>l0 n x.2.2.1 (λy0 y1=>kx 1 (sh0.enc (((()),(()),(()),()),(y0,x.2.2.1,y1,())))) m x.2.1 x.2.2.2.1
def g2:GL rsh sh2:=λn m x kn kx=>l2 n x.1.2.2.2.1 x.1.2.2.2.2.1 x.2.1 x.2.2.1 x.2.2.2.1 (λy0 y1=>kx 3 (sh2_3.enc (((()),(()),(()),()),(y0,x.2.2.1,y1,())))) m x.1.2.2.2.2.2.1
def g1:GL rsh sh2_3:=λn m x kn kx=>j1 n x.2.1 x.2.2.1 x.2.2.2.1 (λy0 y1=>kn (sh1_n.enc (((()),(()),()),(y0,y1,()))))
def B:Bd:=⟨ash,rsh,[fk.E,bL.E,bO.E,aA.E,ea.E,aD.E,bU.E,bN.E,bY.E],⟨code,134,.nil,[]⟩,[⟨0,sh0,g0⟩,⟨2,sh2,g2⟩,⟨1,sh2_3,g1⟩]⟩
theorem u0:UO B 0 (.loop b0):=
 lu (.seq Vi (.block (some [0,1,4]) .nil)) [(0,[0,1]),(1,[0,1,4])] [0,1,4] sh0 g0 mn
theorem u2:UO B 2 (.loop b2):=
 lu (.seq .nil (.seq Vl (.seq (.block (some [0,1,5,98,99,100]) (.seq .nil Va)) .nil))) [(0,[0,1]),(3,[0,1,5])] [0,1,5,98,99,100] sh2 g2 mn
theorem u1:UO B 1 c1:=
 ju (.seq .nil (.seq (.seq .nil (.block (some [0,1,5]) (.cut 2 [0,1,5,98,99,100]))) Vm)) [(0,[0,1])] [0,1] sh2_3 g1 (mc u2 mn)
def E:En:=⟨176,λn=>⟨B.a,B.r,λv=>F n v.1 v.2.1⟩,cG B (.block (some [0,1]) (.seq .nil (.cond (.seq .nil (.seq (.reg [(31,.pr .ro QZ),(4,.pr .ro QZ)]) (.seq .nil (.seq .nil (.seq (.block (some [0,1,4]) (.cut 0 [0,1,4])) (.seq .nil (.seq .nil (.reg [(70,.ro)])))))))) (.seq .nil (.cond (.seq .nil (.seq .nil (.seq .nil (.seq Vi (.cut 1 [0,1,5]))))) (.reg [(14,.pr QQ QN),(15,.own QJ)])))))) Tryz.func176 (mc u0 (mc u1 mn))⟩
end aE
namespace dv
def l0 (n:Nat)(t3:WF)(t4:Wc)(K0:Wt->Wc->Option Q9):Nat->Wt->Wc->Option Q9
 |0,_,_=>none
 |k+1,t5,t6=>
 if(decide (t5.2.2.2.1<0))=true then
 if decide (t5.2.1<(Je t3:Int))=true then
 (aE.F n t5 t6).bind λr7=>
 l0 n t3 t4 K0 k r7.1 r7.2
 else
 K0 t5 t6
 else
 K0 t5 t6
def j1 (n:Nat)(t10:Bool)(t11:Wc)(t12:Wc)(Kn:Unit->Option Q9):Option Q9:=
 if t10=true then
 some (([],([],[])),0,6)
 else
 Kn ()
def F (n:Nat)(t1:ByteArray):Option Q9:=
 (cZ.F n t1).bind λr2=>
 if(!decide (r2.2.2=0))=true then
 some (([],([],[])),r2.2.1,r2.2.2)
 else
 l0 n r2.1 ([],([],[])) (λt8 t9=>
 if decide (t8.2.2.2.1>=0)=true then
 some (([],([],[])),t8.2.2.2.1,5)
 else
 if t8.2.2.2.2=false then
 if(decide ((Je t9.1:Int)>20))=false then
 if(decide ((Je t9.2.1:Int)>20))=false then
 j1 n (decide ((Je t9.2.2:Int)>40)) ([],([],[])) t9 (λ_=>
 some (t9,0,0))
 else
 j1 n true ([],([],[])) t9 (λ_=>
 some (t9,0,0))
 else
 j1 n true ([],([],[])) t9 (λ_=>
 some (t9,0,0))
 else
 j1 n true ([],([],[])) t9 (λ_=>
 some (t9,0,0))) n (r2.1,(0,((Jf t1:Int),((-1),false)))) ([],([],[]))
def code:=Tryz.f104.body.getD .skip
abbrev ash:List ASh:=[.ro .str]
abbrev rsh:List RSh:=[.own Qc QF,.ro QA,.ro QA]
def b0:=Jn (Jn (Jn (Jl (Jl (Jl (Jl (Jl code)))))))
def c1:=Jl (Jl (Jl (Jn (Jn (Jl (Jl (Jl (Jl (Jl (Jl code))))))))))
abbrev sh0:ES:=⟨[(2,.pt 2 []),(5,.v Qo),(8,.pt 8 []),(9,.pt 9 [])],[⟨2,.st Qd,.pr QZ QG,true,false,none⟩,⟨8,.st Qi,.ro,true,false,none⟩,⟨9,.st Qd,.pr QZ QG,true,false,none⟩]⟩
abbrev sh0_0:ES:=⟨[(2,.pt 2 []),(8,.pt 8 []),(9,.pt 9 [])],[⟨2,.st Qd,.pr QZ QG,true,false,none⟩,⟨8,.st Qi,.ro,true,false,none⟩,⟨9,.st Qd,.pr QZ QG,true,false,none⟩]⟩
abbrev sh1:ES:=⟨[(2,.pt 2 []),(9,.pt 9 []),(54,.v .bool)],[⟨2,.st Qd,.pr QZ QG,true,false,none⟩,⟨9,.st Qd,.pr QZ QG,true,false,none⟩]⟩
abbrev sh1_n:ES:=⟨[(2,.pt 2 []),(9,.pt 9 [])],[⟨2,.st Qd,.pr QZ QG,true,false,none⟩,⟨9,.st Qd,.pr QZ QG,true,false,none⟩]⟩
def g0:GL rsh sh0:=λn m x kn kx=>l0 n x.1.2.1 x.2.1 (λy0 y1=>kx 0 (sh0_0.enc (((()),(()),(()),()),(x.2.1,y0,y1,())))) m x.2.2.1 x.2.2.2.1
def g1:GL rsh sh1:=λn m x kn kx=>j1 n x.1.2.2.1 x.2.1 x.2.2.1 (λ_=>kn (sh1_n.enc (((()),(()),()),(x.2.1,x.2.2.1,()))))
def B:Bd:=⟨ash,rsh,[cZ.E,aE.E],⟨code,79,.nil,[(.cell 2 53,.st Qd,.pr QZ QG),(.tmp 3,.int .i64,.ro),(.tmp 4,.int .i64,.ro)]⟩,[⟨0,sh0,g0⟩,⟨1,sh1,g1⟩]⟩
theorem u0:UO B 0 (.loop b0):=
 lu (.seq Vi (.block (some [2,5,8,9]) .nil)) [(0,[2,8,9])] [2,5,8,9] sh0 g0 mn
theorem u1:UO B 1 c1:=
 ju (.cond (.seq (.reg [(77,.pr QZ QG)]) .nil) .nil) [(2,[2,9])] [2,9] sh1 g1 mn
def E:En:=⟨104,λn=>⟨B.a,B.r,λv=>F n v.1⟩,cG B (.seq (.reg [(2,.pr QZ QG)]) (.seq .nil (.seq (.seq .nil (.cond (.seq (.reg [(18,.pr QZ QG)]) .nil) .nil)) (.seq .nil (.seq (.reg [(26,.pr QZ QG),(9,.pr QZ QG)]) (.seq (.block (some [2,8,9]) (.cut 0 [2,5,8,9])) (.seq (.block (some [2,9]) (.seq .nil (.cond (.seq (.reg [(49,.pr QZ QG)]) .nil) (.seq .nil (.cut 1 [2,9,54]))))) Vm))))))) Tryz.func104 (mc u0 (mc u1 mn))⟩
end dv
namespace bT
def l0 (n:Nat)(s3:WL)(v4:ByteArray)(t5:Int)(K0:Unit->Option Int):Nat->Int->Option Int
 |0,_=>none
 |k+1,t6=>
 if decide (t6<t5)=true then
 if(0:Int)<=t6/\t6<(Je s3:Int)then
 if(JL v4 (Ji s3 (Jg t6) Jd))=true then
 some t6
 else
 l0 n s3 v4 t5 K0 k (Jh.wrap (t6+1))
 else
 none
 else
 K0 ()
def F (n:Nat)(s1:WL)(v2:ByteArray):Option Int:=
 l0 n s1 v2 (Je s1:Int) (λ_=>
 some (-1)) n 0
def code:=Tryz.f137.body.getD .skip
abbrev ash:List ASh:=[.ro Qz,.ro .str]
abbrev rsh:List RSh:=[.ro QA]
def b0:=Jn (Jn (Jl (Jn (Jl code))))
abbrev sh0:ES:=⟨[(0,.v Qz),(1,.v .str),(7,.v QA),(8,.v QA)],[]⟩
abbrev sh0_0:ES:=⟨[],[]⟩
def g0:GL rsh sh0:=λn m x kn kx=>l0 n x.1.1 x.1.2.1 x.1.2.2.1 (λ_=>kx 0 (sh0_0.enc ((()),(())))) m x.1.2.2.2.1
def B:Bd:=⟨ash,rsh,[],⟨code,19,.nil,[(.tmp 4,.int .i64,.ro)]⟩,[⟨0,sh0,g0⟩]⟩
theorem u0:UO B 0 (.loop b0):=
 lu (.seq .nil (.seq Vl (.seq (.block (some [0,1,7,8]) Vb) .nil))) [(0,[])] [0,1,7,8] sh0 g0 mn
def E:En:=⟨137,λn=>⟨B.a,B.r,λv=>F n v.1 v.2.1⟩,cG B (.seq .nil (.seq (.seq .nil (.block (some []) (.cut 0 [0,1,7,8]))) Vm)) Tryz.func137 (mc u0 mn)⟩
end bT
namespace cU
def F (n:Nat)(s1:WL)(v2:ByteArray):Option Bool:=
 (bT.F n s1 v2).bind λr3=>
 some (decide (r3>=0))
def code:=Tryz.f73.body.getD .skip
abbrev ash:List ASh:=[.ro Qz,.ro .str]
abbrev rsh:List RSh:=[.ro .bool]
def B:Bd:=⟨ash,rsh,[bT.E],⟨code,9,.nil,[(.tmp 4,.bool,.ro)]⟩,[]⟩
def E:En:=⟨73,λn=>⟨B.a,B.r,λv=>F n v.1 v.2.1⟩,cG B Vk Tryz.func73 mn⟩
end cU
namespace eY
def l0 (n:Nat)(a3:WN)(b4:WN)(K0:Unit->Option Bool):Nat->Int->Option Bool
 |0,_=>none
 |k+1,i5=>
 if decide (i5<(Je a3:Int))=true then
 if(0:Int)<=i5/\i5<(Je a3:Int)then
 if(0:Int)<=i5/\i5<(Je b4:Int)then
 if(!decide ((Ji a3 (Jg i5) 0)=(Ji b4 (Jg i5) 0)))=true then
 some false
 else
 l0 n a3 b4 K0 k (Jh.wrap (i5+1))
 else
 none
 else
 none
 else
 K0 ()
def F (n:Nat)(a1:WN)(b2:WN):Option Bool:=
 if(!decide ((Je a1:Int)=(Je b2:Int)))=true then
 some false
 else
 l0 n a1 b2 (λ_=>
 some true) n 0
def code:=Tryz.f115.body.getD .skip
abbrev ash:List ASh:=[.ro Qy,.ro Qy]
abbrev rsh:List RSh:=[.ro .bool]
def b0:=Jn (Jn (Jl (Jn (Jl (Jl code)))))
abbrev sh0:ES:=⟨[(0,.v Qy),(1,.v Qy),(5,.v QA)],[]⟩
abbrev sh0_0:ES:=⟨[],[]⟩
def g0:GL rsh sh0:=λn m x kn kx=>l0 n x.1.1 x.1.2.1 (λ_=>kx 0 (sh0_0.enc ((()),(())))) m x.1.2.2.1
def B:Bd:=⟨ash,rsh,[],⟨code,26,.nil,[(.tmp 4,.bool,.ro)]⟩,[⟨0,sh0,g0⟩]⟩
theorem u0:UO B 0 (.loop b0):=
 lu (.seq Vi (.seq (.block (some [0,1,5]) Vf) .nil)) [(0,[])] [0,1,5] sh0 g0 mn
def E:En:=⟨115,λn=>⟨B.a,B.r,λv=>F n v.1 v.2.1⟩,cG B (.seq .nil (.seq Vf (.seq (.seq .nil (.block (some []) (.cut 0 [0,1,5]))) Vm))) Tryz.func115 (mc u0 mn)⟩
end eY
namespace kS
def F (n:Nat)(a1:WG)(b2:WG):Option Bool:=
 if(!decide (a1.1=b2.1))=true then
 some false
 else
 if(!(JL a1.2.1 b2.2.1))=true then
 some false
 else
 (eY.F n a1.2.2 b2.2.2).bind λr3=>
 if(!r3)=true then
 some false
 else
 some true
def code:=Tryz.f114.body.getD .skip
abbrev ash:List ASh:=[.ro Qn,.ro Qn]
abbrev rsh:List RSh:=[.ro .bool]
def B:Bd:=⟨ash,rsh,[eY.E],⟨code,21,.nil,[(.tmp 4,.bool,.ro)]⟩,[]⟩
def E:En:=⟨114,λn=>⟨B.a,B.r,λv=>F n v.1 v.2.1⟩,cG B WP Tryz.func114 mn⟩
end kS
namespace gB
def l0 (n:Nat)(a3:WD)(b4:WD)(K0:Unit->Option Bool):Nat->Int->Option Bool
 |0,_=>none
 |k+1,i5=>
 if decide (i5<(Je a3:Int))=true then
 if(0:Int)<=i5/\i5<(Je a3:Int)then
 if(0:Int)<=i5/\i5<(Je b4:Int)then
 (kS.F n (Ji a3 (Jg i5) (0,(Jd,[]))) (Ji b4 (Jg i5) (0,(Jd,[])))).bind λr6=>
 if(!r6)=true then
 some false
 else
 l0 n a3 b4 K0 k (Jh.wrap (i5+1))
 else
 none
 else
 none
 else
 K0 ()
def F (n:Nat)(a1:WD)(b2:WD):Option Bool:=
 if(!decide ((Je a1:Int)=(Je b2:Int)))=true then
 some false
 else
 l0 n a1 b2 (λ_=>
 some true) n 0
def code:=Tryz.f40.body.getD .skip
abbrev ash:List ASh:=[.ro Qk,.ro Qk]
abbrev rsh:List RSh:=[.ro .bool]
def b0:=Jn (Jn (Jl (Jn (Jl (Jl code)))))
abbrev sh0:ES:=⟨[(0,.v Qk),(1,.v Qk),(5,.v QA)],[]⟩
abbrev sh0_0:ES:=⟨[],[]⟩
def g0:GL rsh sh0:=λn m x kn kx=>l0 n x.1.1 x.1.2.1 (λ_=>kx 0 (sh0_0.enc ((()),(())))) m x.1.2.2.1
def B:Bd:=⟨ash,rsh,[kS.E],⟨code,27,.nil,[(.tmp 4,.bool,.ro)]⟩,[⟨0,sh0,g0⟩]⟩
theorem u0:UO B 0 (.loop b0):=
 lu (.seq Vi (.seq (.block (some [0,1,5]) Vf) .nil)) [(0,[])] [0,1,5] sh0 g0 mn
def E:En:=⟨40,λn=>⟨B.a,B.r,λv=>F n v.1 v.2.1⟩,cG B (.seq .nil (.seq Vf (.seq (.seq .nil (.block (some []) (.cut 0 [0,1,5]))) Vm))) Tryz.func40 (mc u0 mn)⟩
end gB
namespace jc
def F (n:Nat)(a1:WG)(b2:WG):Option Bool:=
 if(!decide (a1.1=b2.1))=true then
 some false
 else
 if(!(JL a1.2.1 b2.2.1))=true then
 some false
 else
 (eY.F n a1.2.2 b2.2.2).bind λr3=>
 if(!r3)=true then
 some false
 else
 some true
def code:=Tryz.f41.body.getD .skip
abbrev ash:List ASh:=[.ro Qn,.ro Qn]
abbrev rsh:List RSh:=[.ro .bool]
def B:Bd:=⟨ash,rsh,[eY.E],⟨code,21,.nil,[(.tmp 4,.bool,.ro)]⟩,[]⟩
def E:En:=⟨41,λn=>⟨B.a,B.r,λv=>F n v.1 v.2.1⟩,cG B WP Tryz.func41 mn⟩
end jc
namespace gG
def l0 (n:Nat)(a3:WD)(b4:WD)(K0:Unit->Option Bool):Nat->Int->Option Bool
 |0,_=>none
 |k+1,i5=>
 if decide (i5<(Je a3:Int))=true then
 if(0:Int)<=i5/\i5<(Je a3:Int)then
 if(0:Int)<=i5/\i5<(Je b4:Int)then
 (jc.F n (Ji a3 (Jg i5) (0,(Jd,[]))) (Ji b4 (Jg i5) (0,(Jd,[])))).bind λr6=>
 if(!r6)=true then
 some false
 else
 l0 n a3 b4 K0 k (Jh.wrap (i5+1))
 else
 none
 else
 none
 else
 K0 ()
def F (n:Nat)(a1:WD)(b2:WD):Option Bool:=
 if(!decide ((Je a1:Int)=(Je b2:Int)))=true then
 some false
 else
 l0 n a1 b2 (λ_=>
 some true) n 0
def code:=Tryz.f42.body.getD .skip
abbrev ash:List ASh:=[.ro Qk,.ro Qk]
abbrev rsh:List RSh:=[.ro .bool]
def b0:=Jn (Jn (Jl (Jn (Jl (Jl code)))))
abbrev sh0:ES:=⟨[(0,.v Qk),(1,.v Qk),(5,.v QA)],[]⟩
abbrev sh0_0:ES:=⟨[],[]⟩
def g0:GL rsh sh0:=λn m x kn kx=>l0 n x.1.1 x.1.2.1 (λ_=>kx 0 (sh0_0.enc ((()),(())))) m x.1.2.2.1
def B:Bd:=⟨ash,rsh,[jc.E],⟨code,27,.nil,[(.tmp 4,.bool,.ro)]⟩,[⟨0,sh0,g0⟩]⟩
theorem u0:UO B 0 (.loop b0):=
 lu (.seq Vi (.seq (.block (some [0,1,5]) Vf) .nil)) [(0,[])] [0,1,5] sh0 g0 mn
def E:En:=⟨42,λn=>⟨B.a,B.r,λv=>F n v.1 v.2.1⟩,cG B (.seq .nil (.seq Vf (.seq (.seq .nil (.block (some []) (.cut 0 [0,1,5]))) Vm))) Tryz.func42 (mc u0 mn)⟩
end gG
namespace kh
def F (n:Nat)(a1:Wk)(b2:Wk):Option Bool:=
 (gB.F n a1.1 b2.1).bind λr3=>
 if(!r3)=true then
 some false
 else
 (jc.F n a1.2.1 b2.2.1).bind λr4=>
 if(!r4)=true then
 some false
 else
 (gG.F n a1.2.2 b2.2.2).bind λr5=>
 if(!r5)=true then
 some false
 else
 some true
def code:=Tryz.f11.body.getD .skip
abbrev ash:List ASh:=[.ro Qf,.ro Qf]
abbrev rsh:List RSh:=[.ro .bool]
def B:Bd:=⟨ash,rsh,[gB.E,jc.E,gG.E],⟨code,23,.nil,[(.tmp 4,.bool,.ro)]⟩,[]⟩
def E:En:=⟨11,λn=>⟨B.a,B.r,λv=>F n v.1 v.2.1⟩,cG B WP Tryz.func11 mn⟩
end kh
namespace aM
def l0 (n:Nat)(K0:ByteArray->Option ByteArray):Nat->Int->ByteArray->Option ByteArray
 |0,_,_=>none
 |k+1,k2,out3=>
 if decide (k2>0)=true then
 if Jf (qM [L8.wrap (Jh.wrap (48+(Int.tmod k2 10)))])+Jf out3<=aU then
 l0 n K0 k (Jh.wrap (Int.tdiv k2 10)) ((qM [L8.wrap (Jh.wrap (48+(Int.tmod k2 10)))])++out3)
 else
 none
 else
 K0 out3
def F (n:Nat)(k1:Int):Option ByteArray:=
 if decide (k1<=0)=true then
 some ⟨#[109,48]⟩
 else
 l0 n (λout4=>
 if Jf ⟨#[109]⟩+Jf out4<=aU then
 some (⟨#[109]⟩++out4)
 else
 none) n k1 Jd
def code:=Tryz.f116.body.getD .skip
abbrev ash:List ASh:=[.ro QA]
abbrev rsh:List RSh:=[.ro .str]
def b0:=Jn (Jn (Jn (Jl (Jl (Jl code)))))
abbrev sh0:ES:=⟨[(0,.v QA),(3,.v .str)],[]⟩
abbrev sh0_0:ES:=⟨[(3,.v .str)],[]⟩
def g0:GL rsh sh0:=λn m x kn kx=>l0 n (λy0=>kx 0 (sh0_0.enc ((y0,()),(())))) m x.1.1 x.1.2.1
def B:Bd:=⟨ash,rsh,[],⟨code,20,.nil,[(.tmp 2,.str,.ro)]⟩,[⟨0,sh0,g0⟩]⟩
theorem u0:UO B 0 (.loop b0):=
 lu (.seq Vi (.block (some [0,3]) Vm)) [(0,[3])] [0,3] sh0 g0 mn
def E:En:=⟨116,λn=>⟨B.a,B.r,λv=>F n v.1⟩,cG B (.seq .nil (.seq Vf (.seq .nil (.seq (.block (some [3]) (.cut 0 [0,3])) Vm)))) Tryz.func116 (mc u0 mn)⟩
end aM
namespace dC
def l0 (n:Nat)(K0:Int->WN->Option (Int×List Int)):Nat->Int->Int->WN->Option (Int×List Int)
 |0,_,_,_=>none
 |k+1,k3,i4,a5=>
 if decide (i4<(Je a5:Int))=true then
 if(0:Int)<=i4/\i4<(Je a5:Int)then
 l0 n K0 k (Jh.wrap (k3+1)) (Jh.wrap (i4+1)) (Kl a5 (Jg i4) k3)
 else
 none
 else
 K0 k3 a5
def F (n:Nat)(a1:WN)(k2:Int):Option (Int×List Int):=
 l0 n (λk6 a7=>
 some (k6,a7)) n k2 0 a1
def code:=Tryz.f117.body.getD .skip
abbrev ash:List ASh:=[.ms Qy QZ,.ro QA]
abbrev rsh:List RSh:=[.ro QA,.out Qy]
def b0:=Jn (Jn (Jl (Jn (Jl code))))
abbrev sh0:ES:=⟨[(0,.al 0 []),(1,.v QA),(5,.v QA)],[⟨0,.sl QA,.own .ro,false,true,none⟩]⟩
abbrev sh0_0:ES:=⟨[(0,.al 0 []),(1,.v QA)],[⟨0,.sl QA,.own .ro,false,true,none⟩]⟩
def g0:GL rsh sh0:=λn m x kn kx=>l0 n (λy0 y1=>kx 0 (sh0_0.enc (((()),y0,()),(y1,())))) m x.1.2.1 x.1.2.2.1 x.2.1
def B:Bd:=⟨ash,rsh,[],⟨code,19,.nil,[(.tmp 4,.int .i64,.ro)]⟩,[⟨0,sh0,g0⟩]⟩
theorem u0:UO B 0 (.loop b0):=
 lu (.seq Vi (.seq (.block (some [0,1,5]) Vm) .nil)) [(0,[0,1])] [0,1,5] sh0 g0 mn
def E:En:=⟨117,λn=>⟨B.a,B.r,λv=>F n v.1 v.2.1⟩,cG B (.seq .nil (.seq (.seq .nil (.block (some [0,1]) (.cut 0 [0,1,5]))) Vm)) Tryz.func117 (mc u0 mn)⟩
end dC
namespace gf
def l0 (n:Nat)(K0:Int->WD->Option Wz):Nat->Int->Int->WD->Option Wz
 |0,_,_,_=>none
 |k+1,k3,i4,a5=>
 if decide (i4<(Je a5:Int))=true then
 if(0:Int)<=i4/\i4<(Je a5:Int)then
 let w6:List WG:=Kl a5 (Jg i4) (k3,(Ji a5 (Jg i4) (0,(Jd,[]))).2)
 (aM.F n (Jh.wrap (k3+1))).bind λr7=>
 if(0:Int)<=i4/\i4<(Je w6:Int)then
 let w8:List WG:=Kl w6 (Jg i4) ((Ji w6 (Jg i4) (0,(Jd,[]))).1,(r7,((Ji w6 (Jg i4) (0,(Jd,[]))).2).2))
 if(0:Int)<=i4/\i4<(Je w8:Int)then
 (dC.F n (((Ji w8 (Jg i4) (0,(Jd,[]))).2).2) (Jh.wrap ((Jh.wrap (k3+1))+1))).bind λr9=>
 let w10:List WG:=Kl w8 (Jg i4) ((Ji w8 (Jg i4) (0,(Jd,[]))).1,(((Ji w8 (Jg i4) (0,(Jd,[]))).2).1,r9.2))
 l0 n K0 k r9.1 (Jh.wrap (i4+1)) w10
 else
 none
 else
 none
 else
 none
 else
 K0 k3 a5
def F (n:Nat)(a1:WD)(k2:Int):Option Wz:=
 l0 n (λk11 a12=>
 some (k11,a12)) n k2 0 a1
def code:=Tryz.f43.body.getD .skip
abbrev ash:List ASh:=[.ms Qk QQ,.ro QA]
abbrev rsh:List RSh:=[.ro QA,.out Qk]
def b0:=Jn (Jn (Jl (Jn (Jl code))))
abbrev sh0:ES:=⟨[(0,.al 0 []),(1,.v QA),(5,.v QA)],[⟨0,.sl Qn,.own QT,false,true,none⟩]⟩
abbrev sh0_0:ES:=⟨[(0,.al 0 []),(1,.v QA)],[⟨0,.sl Qn,.own QT,false,true,none⟩]⟩
def g0:GL rsh sh0:=λn m x kn kx=>l0 n (λy0 y1=>kx 0 (sh0_0.enc (((()),y0,()),(y1,())))) m x.1.2.1 x.1.2.2.1 x.2.1
def B:Bd:=⟨ash,rsh,[aM.E,dC.E],⟨code,35,.nil,[(.tmp 4,.int .i64,.ro)]⟩,[⟨0,sh0,g0⟩]⟩
theorem u0:UO B 0 (.loop b0):=
 lu (.seq Vi (.seq (.block (some [0,1,5]) Vd) .nil)) [(0,[0,1])] [0,1,5] sh0 g0 mn
def E:En:=⟨43,λn=>⟨B.a,B.r,λv=>F n v.1 v.2.1⟩,cG B (.seq .nil (.seq (.seq .nil (.block (some [0,1]) (.cut 0 [0,1,5]))) Vm)) Tryz.func43 (mc u0 mn)⟩
end gf
namespace fZ
def l0 (n:Nat)(K0:Int->WD->Option Wz):Nat->Int->Int->WD->Option Wz
 |0,_,_,_=>none
 |k+1,k3,i4,a5=>
 if decide (i4<(Je a5:Int))=true then
 if(0:Int)<=i4/\i4<(Je a5:Int)then
 let w6:List WG:=Kl a5 (Jg i4) (k3,(Ji a5 (Jg i4) (0,(Jd,[]))).2)
 (aM.F n (Jh.wrap (k3+1))).bind λr7=>
 if(0:Int)<=i4/\i4<(Je w6:Int)then
 let w8:List WG:=Kl w6 (Jg i4) ((Ji w6 (Jg i4) (0,(Jd,[]))).1,(r7,((Ji w6 (Jg i4) (0,(Jd,[]))).2).2))
 if(0:Int)<=i4/\i4<(Je w8:Int)then
 (dC.F n (((Ji w8 (Jg i4) (0,(Jd,[]))).2).2) (Jh.wrap ((Jh.wrap (k3+1))+1))).bind λr9=>
 let w10:List WG:=Kl w8 (Jg i4) ((Ji w8 (Jg i4) (0,(Jd,[]))).1,(((Ji w8 (Jg i4) (0,(Jd,[]))).2).1,r9.2))
 l0 n K0 k r9.1 (Jh.wrap (i4+1)) w10
 else
 none
 else
 none
 else
 none
 else
 K0 k3 a5
def F (n:Nat)(a1:WD)(k2:Int):Option Wz:=
 l0 n (λk11 a12=>
 some (k11,a12)) n k2 0 a1
def code:=Tryz.f45.body.getD .skip
abbrev ash:List ASh:=[.ms Qk QQ,.ro QA]
abbrev rsh:List RSh:=[.ro QA,.out Qk]
def b0:=Jn (Jn (Jl (Jn (Jl code))))
abbrev sh0:ES:=⟨[(0,.al 0 []),(1,.v QA),(5,.v QA)],[⟨0,.sl Qn,.own QT,false,true,none⟩]⟩
abbrev sh0_0:ES:=⟨[(0,.al 0 []),(1,.v QA)],[⟨0,.sl Qn,.own QT,false,true,none⟩]⟩
def g0:GL rsh sh0:=λn m x kn kx=>l0 n (λy0 y1=>kx 0 (sh0_0.enc (((()),y0,()),(y1,())))) m x.1.2.1 x.1.2.2.1 x.2.1
def B:Bd:=⟨ash,rsh,[aM.E,dC.E],⟨code,35,.nil,[(.tmp 4,.int .i64,.ro)]⟩,[⟨0,sh0,g0⟩]⟩
theorem u0:UO B 0 (.loop b0):=
 lu (.seq Vi (.seq (.block (some [0,1,5]) Vd) .nil)) [(0,[0,1])] [0,1,5] sh0 g0 mn
def E:En:=⟨45,λn=>⟨B.a,B.r,λv=>F n v.1 v.2.1⟩,cG B (.seq .nil (.seq (.seq .nil (.block (some [0,1]) (.cut 0 [0,1,5]))) Vm)) Tryz.func45 (mc u0 mn)⟩
end fZ
namespace dD
def l0 (n:Nat)(a3:WN)(K0:Int->Option Int):Nat->Int->Int->Option Int
 |0,_,_=>none
 |k+1,k4,i5=>
 if decide (i5<(Je a3:Int))=true then
 if(0:Int)<=i5/\i5<(Je a3:Int)then
 if(!decide ((Ji a3 (Jg i5) 0)=k4))=true then
 some (-1)
 else
 l0 n a3 K0 k (Jh.wrap (k4+1)) (Jh.wrap (i5+1))
 else
 none
 else
 K0 k4
def F (n:Nat)(a1:WN)(k2:Int):Option Int:=
 l0 n a1 (λk6=>
 some k6) n k2 0
def code:=Tryz.f118.body.getD .skip
abbrev ash:List ASh:=[.ro Qy,.ro QA]
abbrev rsh:List RSh:=[.ro QA]
def b0:=Jn (Jn (Jl (Jn (Jl code))))
abbrev sh0:ES:=⟨[(0,.v Qy),(1,.v QA),(5,.v QA)],[]⟩
abbrev sh0_0:ES:=⟨[(1,.v QA)],[]⟩
def g0:GL rsh sh0:=λn m x kn kx=>l0 n x.1.1 (λy0=>kx 0 (sh0_0.enc ((y0,()),(())))) m x.1.2.1 x.1.2.2.1
def B:Bd:=⟨ash,rsh,[],⟨code,21,.nil,[(.tmp 4,.int .i64,.ro)]⟩,[⟨0,sh0,g0⟩]⟩
theorem u0:UO B 0 (.loop b0):=
 lu (.seq Vi (.seq (.block (some [0,1,5]) Vc) .nil)) [(0,[1])] [0,1,5] sh0 g0 mn
def E:En:=⟨118,λn=>⟨B.a,B.r,λv=>F n v.1 v.2.1⟩,cG B (.seq .nil (.seq (.seq .nil (.block (some [1]) (.cut 0 [0,1,5]))) Vm)) Tryz.func118 (mc u0 mn)⟩
end dD
namespace fX
def l0 (n:Nat)(a3:WD)(K0:Int->Option Int):Nat->Int->Int->Option Int
 |0,_,_=>none
 |k+1,k4,i5=>
 if decide (i5<(Je a3:Int))=true then
 if(0:Int)<=i5/\i5<(Je a3:Int)then
 if(!decide (((Ji a3 (Jg i5) (0,(Jd,[]))).1)=k4))=true then
 some (-1)
 else
 if(0:Int)<=i5/\i5<(Je a3:Int)then
 (aM.F n (Jh.wrap (k4+1))).bind λr6=>
 if(!(JL (((Ji a3 (Jg i5) (0,(Jd,[]))).2).1) r6))=true then
 some (-1)
 else
 if(0:Int)<=i5/\i5<(Je a3:Int)then
 (dD.F n (((Ji a3 (Jg i5) (0,(Jd,[]))).2).2) (Jh.wrap ((Jh.wrap (k4+1))+1))).bind λr7=>
 if decide (r7<0)=true then
 some (-1)
 else
 l0 n a3 K0 k r7 (Jh.wrap (i5+1))
 else
 none
 else
 none
 else
 none
 else
 K0 k4
def F (n:Nat)(a1:WD)(k2:Int):Option Int:=
 l0 n a1 (λk8=>
 some k8) n k2 0
def code:=Tryz.f46.body.getD .skip
abbrev ash:List ASh:=[.ro Qk,.ro QA]
abbrev rsh:List RSh:=[.ro QA]
def b0:=Jn (Jn (Jl (Jn (Jl code))))
abbrev sh0:ES:=⟨[(0,.v Qk),(1,.v QA),(5,.v QA)],[]⟩
abbrev sh0_0:ES:=⟨[(1,.v QA)],[]⟩
def g0:GL rsh sh0:=λn m x kn kx=>l0 n x.1.1 (λy0=>kx 0 (sh0_0.enc ((y0,()),(())))) m x.1.2.1 x.1.2.2.1
def B:Bd:=⟨ash,rsh,[aM.E,dD.E],⟨code,41,.nil,[(.tmp 4,.int .i64,.ro)]⟩,[⟨0,sh0,g0⟩]⟩
theorem u0:UO B 0 (.loop b0):=
 lu (.seq Vi (.seq (.block (some [0,1,5]) WQ) .nil)) [(0,[1])] [0,1,5] sh0 g0 mn
def E:En:=⟨46,λn=>⟨B.a,B.r,λv=>F n v.1 v.2.1⟩,cG B (.seq .nil (.seq (.seq .nil (.block (some [1]) (.cut 0 [0,1,5]))) Vm)) Tryz.func46 (mc u0 mn)⟩
end fX
namespace gb
def l0 (n:Nat)(a3:WD)(K0:Int->Option Int):Nat->Int->Int->Option Int
 |0,_,_=>none
 |k+1,k4,i5=>
 if decide (i5<(Je a3:Int))=true then
 if(0:Int)<=i5/\i5<(Je a3:Int)then
 if(!decide (((Ji a3 (Jg i5) (0,(Jd,[]))).1)=k4))=true then
 some (-1)
 else
 if(0:Int)<=i5/\i5<(Je a3:Int)then
 (aM.F n (Jh.wrap (k4+1))).bind λr6=>
 if(!(JL (((Ji a3 (Jg i5) (0,(Jd,[]))).2).1) r6))=true then
 some (-1)
 else
 if(0:Int)<=i5/\i5<(Je a3:Int)then
 (dD.F n (((Ji a3 (Jg i5) (0,(Jd,[]))).2).2) (Jh.wrap ((Jh.wrap (k4+1))+1))).bind λr7=>
 if decide (r7<0)=true then
 some (-1)
 else
 l0 n a3 K0 k r7 (Jh.wrap (i5+1))
 else
 none
 else
 none
 else
 none
 else
 K0 k4
def F (n:Nat)(a1:WD)(k2:Int):Option Int:=
 l0 n a1 (λk8=>
 some k8) n k2 0
def code:=Tryz.f48.body.getD .skip
abbrev ash:List ASh:=[.ro Qk,.ro QA]
abbrev rsh:List RSh:=[.ro QA]
def b0:=Jn (Jn (Jl (Jn (Jl code))))
abbrev sh0:ES:=⟨[(0,.v Qk),(1,.v QA),(5,.v QA)],[]⟩
abbrev sh0_0:ES:=⟨[(1,.v QA)],[]⟩
def g0:GL rsh sh0:=λn m x kn kx=>l0 n x.1.1 (λy0=>kx 0 (sh0_0.enc ((y0,()),(())))) m x.1.2.1 x.1.2.2.1
def B:Bd:=⟨ash,rsh,[aM.E,dD.E],⟨code,41,.nil,[(.tmp 4,.int .i64,.ro)]⟩,[⟨0,sh0,g0⟩]⟩
theorem u0:UO B 0 (.loop b0):=
 lu (.seq Vi (.seq (.block (some [0,1,5]) WQ) .nil)) [(0,[1])] [0,1,5] sh0 g0 mn
def E:En:=⟨48,λn=>⟨B.a,B.r,λv=>F n v.1 v.2.1⟩,cG B (.seq .nil (.seq (.seq .nil (.block (some [1]) (.cut 0 [0,1,5]))) Vm)) Tryz.func48 (mc u0 mn)⟩
end gb
namespace dE
def l0 (n:Nat)(a3:WL)(K0:Int->Option Int):Nat->Int->Int->Option Int
 |0,_,_=>none
 |k+1,left4,i5=>
 if decide (i5<(Je a3:Int))=true then
 if(0:Int)<=i5/\i5<(Je a3:Int)then
 if decide ((Jh.wrap (left4 - (Jf (Ji a3 (Jg i5) Jd):Int)))<0)=true then
 some (-1)
 else
 l0 n a3 K0 k (Jh.wrap (left4 - (Jf (Ji a3 (Jg i5) Jd):Int))) (Jh.wrap (i5+1))
 else
 none
 else
 K0 left4
def F (n:Nat)(a1:WL)(left2:Int):Option Int:=
 if decide ((Jh.wrap (left2 - (Je a1:Int)))<0)=true then
 some (-1)
 else
 l0 n a1 (λleft6=>
 some left6) n (Jh.wrap (left2 - (Je a1:Int))) 0
def code:=Tryz.f201.body.getD .skip
abbrev ash:List ASh:=[.ro Qz,.ro QA]
abbrev rsh:List RSh:=[.ro QA]
def b0:=Jn (Jn (Jl (Jn (Jl (Jl (Jl code))))))
abbrev sh0:ES:=⟨[(0,.v Qz),(1,.v QA),(5,.v QA)],[]⟩
abbrev sh0_0:ES:=⟨[(1,.v QA)],[]⟩
def g0:GL rsh sh0:=λn m x kn kx=>l0 n x.1.1 (λy0=>kx 0 (sh0_0.enc ((y0,()),(())))) m x.1.2.1 x.1.2.2.1
def B:Bd:=⟨ash,rsh,[],⟨code,28,.nil,[(.tmp 4,.int .i64,.ro)]⟩,[⟨0,sh0,g0⟩]⟩
theorem u0:UO B 0 (.loop b0):=
 lu (.seq Vi (.seq (.block (some [0,1,5]) Vb) .nil)) [(0,[1])] [0,1,5] sh0 g0 mn
def E:En:=⟨201,λn=>⟨B.a,B.r,λv=>F n v.1 v.2.1⟩,cG B (.seq .nil (.seq .nil (.seq Vf (.seq (.seq .nil (.block (some [1]) (.cut 0 [0,1,5]))) Vm)))) Tryz.func201 (mc u0 mn)⟩
end dE
namespace kV
def F (n:Nat)(a1:WH)(left2:Int):Option Int:=
 if decide ((Jh.wrap (left2 - (Jf a1.1:Int)))<0)=true then
 some (-1)
 else
 (dE.F n a1.2 (Jh.wrap (left2 - (Jf a1.1:Int)))).bind λr3=>
 if decide (r3<0)=true then
 some (-1)
 else
 some r3
def code:=Tryz.f254.body.getD .skip
abbrev ash:List ASh:=[.ro Qw,.ro QA]
abbrev rsh:List RSh:=[.ro QA]
def B:Bd:=⟨ash,rsh,[dE.E],⟨code,19,.nil,[(.tmp 4,.int .i64,.ro)]⟩,[]⟩
def E:En:=⟨254,λn=>⟨B.a,B.r,λv=>F n v.1 v.2.1⟩,cG B WS Tryz.func254 mn⟩
end kV
namespace gJ
def l0 (n:Nat)(a3:WE)(K0:Int->Option Int):Nat->Int->Int->Option Int
 |0,_,_=>none
 |k+1,left4,i5=>
 if decide (i5<(Je a3:Int))=true then
 if(0:Int)<=i5/\i5<(Je a3:Int)then
 (kV.F n (Ji a3 (Jg i5) (Jd,[])) left4).bind λr6=>
 if decide (r6<0)=true then
 some (-1)
 else
 l0 n a3 K0 k r6 (Jh.wrap (i5+1))
 else
 none
 else
 K0 left4
def F (n:Nat)(a1:WE)(left2:Int):Option Int:=
 if decide ((Jh.wrap (left2 - (Je a1:Int)))<0)=true then
 some (-1)
 else
 l0 n a1 (λleft7=>
 some left7) n (Jh.wrap (left2 - (Je a1:Int))) 0
def code:=Tryz.f200.body.getD .skip
abbrev ash:List ASh:=[.ro Qv,.ro QA]
abbrev rsh:List RSh:=[.ro QA]
def b0:=Jn (Jn (Jl (Jn (Jl (Jl (Jl code))))))
abbrev sh0:ES:=⟨[(0,.v Qv),(1,.v QA),(5,.v QA)],[]⟩
abbrev sh0_0:ES:=⟨[(1,.v QA)],[]⟩
def g0:GL rsh sh0:=λn m x kn kx=>l0 n x.1.1 (λy0=>kx 0 (sh0_0.enc ((y0,()),(())))) m x.1.2.1 x.1.2.2.1
def B:Bd:=⟨ash,rsh,[kV.E],⟨code,27,.nil,[(.tmp 4,.int .i64,.ro)]⟩,[⟨0,sh0,g0⟩]⟩
theorem u0:UO B 0 (.loop b0):=
 lu (.seq Vi (.seq (.block (some [0,1,5]) Vb) .nil)) [(0,[1])] [0,1,5] sh0 g0 mn
def E:En:=⟨200,λn=>⟨B.a,B.r,λv=>F n v.1 v.2.1⟩,cG B (.seq .nil (.seq .nil (.seq Vf (.seq (.seq .nil (.block (some [1]) (.cut 0 [0,1,5]))) Vm)))) Tryz.func200 (mc u0 mn)⟩
end gJ
namespace ia
def F (n:Nat)(a1:Ww)(left2:Int):Option Int:=
 if decide ((Jh.wrap (left2 - (Jf a1.1:Int)))<0)=true then
 some (-1)
 else
 (gJ.F n a1.2 (Jh.wrap (left2 - (Jf a1.1:Int)))).bind λr3=>
 if decide (r3<0)=true then
 some (-1)
 else
 some r3
def code:=Tryz.f139.body.getD .skip
abbrev ash:List ASh:=[.ro Ql,.ro QA]
abbrev rsh:List RSh:=[.ro QA]
def B:Bd:=⟨ash,rsh,[gJ.E],⟨code,19,.nil,[(.tmp 4,.int .i64,.ro)]⟩,[]⟩
def E:En:=⟨139,λn=>⟨B.a,B.r,λv=>F n v.1 v.2.1⟩,cG B WS Tryz.func139 mn⟩
end ia
namespace dM
def l0 (n:Nat)(a3:Wu)(K0:Int->Option Int):Nat->Int->Int->Option Int
 |0,_,_=>none
 |k+1,left4,i5=>
 if decide (i5<(Je a3:Int))=true then
 if(0:Int)<=i5/\i5<(Je a3:Int)then
 (ia.F n (Ji a3 (Jg i5) (Jd,[])) left4).bind λr6=>
 if decide (r6<0)=true then
 some (-1)
 else
 l0 n a3 K0 k r6 (Jh.wrap (i5+1))
 else
 none
 else
 K0 left4
def F (n:Nat)(a1:Wu)(left2:Int):Option Int:=
 if decide ((Jh.wrap (left2 - (Je a1:Int)))<0)=true then
 some (-1)
 else
 l0 n a1 (λleft7=>
 some left7) n (Jh.wrap (left2 - (Je a1:Int))) 0
def code:=Tryz.f59.body.getD .skip
abbrev ash:List ASh:=[.ro Qj,.ro QA]
abbrev rsh:List RSh:=[.ro QA]
def b0:=Jn (Jn (Jl (Jn (Jl (Jl (Jl code))))))
abbrev sh0:ES:=⟨[(0,.v Qj),(1,.v QA),(5,.v QA)],[]⟩
abbrev sh0_0:ES:=⟨[(1,.v QA)],[]⟩
def g0:GL rsh sh0:=λn m x kn kx=>l0 n x.1.1 (λy0=>kx 0 (sh0_0.enc ((y0,()),(())))) m x.1.2.1 x.1.2.2.1
def B:Bd:=⟨ash,rsh,[ia.E],⟨code,27,.nil,[(.tmp 4,.int .i64,.ro)]⟩,[⟨0,sh0,g0⟩]⟩
theorem u0:UO B 0 (.loop b0):=
 lu (.seq Vi (.seq (.block (some [0,1,5]) Vb) .nil)) [(0,[1])] [0,1,5] sh0 g0 mn
def E:En:=⟨59,λn=>⟨B.a,B.r,λv=>F n v.1 v.2.1⟩,cG B (.seq .nil (.seq .nil (.seq Vf (.seq (.seq .nil (.block (some [1]) (.cut 0 [0,1,5]))) Vm)))) Tryz.func59 (mc u0 mn)⟩
end dM
namespace iI
def F (n:Nat)(a1:WC)(left2:Int):Option Int:=
 if decide ((Jh.wrap (left2 - (Jf a1.1:Int)))<0)=true then
 some (-1)
 else
 (dE.F n a1.2.1 (Jh.wrap (left2 - (Jf a1.1:Int)))).bind λr3=>
 if decide (r3<0)=true then
 some (-1)
 else
 some r3
def code:=Tryz.f140.body.getD .skip
abbrev ash:List ASh:=[.ro Qq,.ro QA]
abbrev rsh:List RSh:=[.ro QA]
def B:Bd:=⟨ash,rsh,[dE.E],⟨code,19,.nil,[(.tmp 4,.int .i64,.ro)]⟩,[]⟩
def E:En:=⟨140,λn=>⟨B.a,B.r,λv=>F n v.1 v.2.1⟩,cG B WS Tryz.func140 mn⟩
end iI
namespace eb
def l0 (n:Nat)(a3:Wy)(K0:Int->Option Int):Nat->Int->Int->Option Int
 |0,_,_=>none
 |k+1,left4,i5=>
 if decide (i5<(Je a3:Int))=true then
 if(0:Int)<=i5/\i5<(Je a3:Int)then
 (iI.F n (Ji a3 (Jg i5) (Jd,([],0))) left4).bind λr6=>
 if decide (r6<0)=true then
 some (-1)
 else
 l0 n a3 K0 k r6 (Jh.wrap (i5+1))
 else
 none
 else
 K0 left4
def F (n:Nat)(a1:Wy)(left2:Int):Option Int:=
 if decide ((Jh.wrap (left2 - (Je a1:Int)))<0)=true then
 some (-1)
 else
 l0 n a1 (λleft7=>
 some left7) n (Jh.wrap (left2 - (Je a1:Int))) 0
def code:=Tryz.f60.body.getD .skip
abbrev ash:List ASh:=[.ro Qm,.ro QA]
abbrev rsh:List RSh:=[.ro QA]
def b0:=Jn (Jn (Jl (Jn (Jl (Jl (Jl code))))))
abbrev sh0:ES:=⟨[(0,.v Qm),(1,.v QA),(5,.v QA)],[]⟩
abbrev sh0_0:ES:=⟨[(1,.v QA)],[]⟩
def g0:GL rsh sh0:=λn m x kn kx=>l0 n x.1.1 (λy0=>kx 0 (sh0_0.enc ((y0,()),(())))) m x.1.2.1 x.1.2.2.1
def B:Bd:=⟨ash,rsh,[iI.E],⟨code,27,.nil,[(.tmp 4,.int .i64,.ro)]⟩,[⟨0,sh0,g0⟩]⟩
theorem u0:UO B 0 (.loop b0):=
 lu (.seq Vi (.seq (.block (some [0,1,5]) Vb) .nil)) [(0,[1])] [0,1,5] sh0 g0 mn
def E:En:=⟨60,λn=>⟨B.a,B.r,λv=>F n v.1 v.2.1⟩,cG B (.seq .nil (.seq .nil (.seq Vf (.seq (.seq .nil (.block (some [1]) (.cut 0 [0,1,5]))) Vm)))) Tryz.func60 (mc u0 mn)⟩
end eb
namespace fL
def l0 (n:Nat)(a3:Wh)(K0:Int->Option Int):Nat->Int->Int->Option Int
 |0,_,_=>none
 |k+1,left4,i5=>
 if decide (i5<(Je a3:Int))=true then
 if(0:Int)<=i5/\i5<(Je a3:Int)then
 (ki.F n (Ji a3 (Jg i5) ([],((0,(Jd,[])),[]))) left4).bind λr6=>
 if decide (r6<0)=true then
 some (-1)
 else
 l0 n a3 K0 k r6 (Jh.wrap (i5+1))
 else
 none
 else
 K0 left4
def F (n:Nat)(a1:Wh)(left2:Int):Option Int:=
 if decide ((Jh.wrap (left2 - (Je a1:Int)))<0)=true then
 some (-1)
 else
 l0 n a1 (λleft7=>
 some left7) n (Jh.wrap (left2 - (Je a1:Int))) 0
def code:=Tryz.f61.body.getD .skip
abbrev ash:List ASh:=[.ro Qe,.ro QA]
abbrev rsh:List RSh:=[.ro QA]
def b0:=Jn (Jn (Jl (Jn (Jl (Jl (Jl code))))))
abbrev sh0:ES:=⟨[(0,.v Qe),(1,.v QA),(5,.v QA)],[]⟩
abbrev sh0_0:ES:=⟨[(1,.v QA)],[]⟩
def g0:GL rsh sh0:=λn m x kn kx=>l0 n x.1.1 (λy0=>kx 0 (sh0_0.enc ((y0,()),(())))) m x.1.2.1 x.1.2.2.1
def B:Bd:=⟨ash,rsh,[ki.E],⟨code,27,.nil,[(.tmp 4,.int .i64,.ro)]⟩,[⟨0,sh0,g0⟩]⟩
theorem u0:UO B 0 (.loop b0):=
 lu (.seq Vi (.seq (.block (some [0,1,5]) Vb) .nil)) [(0,[1])] [0,1,5] sh0 g0 mn
def E:En:=⟨61,λn=>⟨B.a,B.r,λv=>F n v.1 v.2.1⟩,cG B (.seq .nil (.seq .nil (.seq Vf (.seq (.seq .nil (.block (some [1]) (.cut 0 [0,1,5]))) Vm)))) Tryz.func61 (mc u0 mn)⟩
end fL
namespace kj
def F (n:Nat)(a1:Wc)(left2:Int):Option Int:=
 (dM.F n a1.1 left2).bind λr3=>
 if decide (r3<0)=true then
 some (-1)
 else
 (eb.F n a1.2.1 r3).bind λr4=>
 if decide (r4<0)=true then
 some (-1)
 else
 (fL.F n a1.2.2 r4).bind λr5=>
 if decide (r5<0)=true then
 some (-1)
 else
 some r5
def code:=Tryz.f16.body.getD .skip
abbrev ash:List ASh:=[.ro Qc,.ro QA]
abbrev rsh:List RSh:=[.ro QA]
def B:Bd:=⟨ash,rsh,[dM.E,eb.E,fL.E],⟨code,24,.nil,[(.tmp 4,.int .i64,.ro)]⟩,[]⟩
def E:En:=⟨16,λn=>⟨B.a,B.r,λv=>F n v.1 v.2.1⟩,cG B WO Tryz.func16 mn⟩
end kj
namespace dA
def l0 (n:Nat)(a2:WL)(K0:WL->Option WL):Nat->Int->WL->Option WL
 |0,_,_=>none
 |k+1,i3,out4=>
 if decide (i3<(Je a2:Int))=true then
 if(0:Int)<=i3/\i3<(Je a2:Int)then
 if(0:Int)<=i3/\i3<(Je out4:Int)then
 let w5:List ByteArray:=Kl out4 (Jg i3) (Ji a2 (Jg i3) Jd)
 l0 n a2 K0 k (Jh.wrap (i3+1)) w5
 else
 none
 else
 none
 else
 K0 out4
def F (n:Nat)(a1:WL):Option WL:=
 if(0:Int)<=(Je a1:Int)/\(Je a1:Int)<=(Je a1:Int)/\(Je a1:Int)<=(aU:Int)then
 l0 n a1 (λout6=>
 some out6) n 0 (JZ (Jg (Je a1:Int)) Jd)
 else
 none
def code:=Tryz.f205.body.getD .skip
abbrev ash:List ASh:=[.ro Qz]
abbrev rsh:List RSh:=[.own Qz QZ]
def b0:=Jn (Jn (Jl (Jn (Jl (Jl code)))))
abbrev sh0:ES:=⟨[(0,.v Qz),(3,.al 3 []),(4,.v QA)],[⟨3,.sl QC,.own .ro,false,false,none⟩]⟩
abbrev sh0_0:ES:=⟨[(3,.al 3 [])],[⟨3,.sl QC,.own .ro,false,false,none⟩]⟩
def g0:GL rsh sh0:=λn m x kn kx=>l0 n x.1.1 (λy0=>kx 0 (sh0_0.enc (((()),()),(y0,())))) m x.1.2.2.1 x.2.1
def B:Bd:=⟨ash,rsh,[],⟨code,22,.nil,[(.tmp 2,.sl QC,.own .ro)]⟩,[⟨0,sh0,g0⟩]⟩
theorem u0:UO B 0 (.loop b0):=
 lu (.seq Vi (.seq (.block (some [0,3,4]) .nil) .nil)) [(0,[3])] [0,3,4] sh0 g0 mn
def E:En:=⟨205,λn=>⟨B.a,B.r,λv=>F n v.1⟩,cG B (.seq .nil (.seq (.reg [(7,.own .ro)]) (.seq (.seq .nil (.block (some [3]) (.cut 0 [0,3,4]))) Vm))) Tryz.func205 (mc u0 mn)⟩
end dA
namespace kW
def F (n:Nat)(a1:WH):Option WH:=
 (dA.F n a1.2).bind λr2=>
 some (a1.1,r2)
def code:=Tryz.f256.body.getD .skip
abbrev ash:List ASh:=[.ro Qw]
abbrev rsh:List RSh:=[.own Qw QX]
def B:Bd:=⟨ash,rsh,[dA.E],⟨code,12,.nil,[(.cell 2 177,.st Qx,.pr .ro QZ)]⟩,[]⟩
def E:En:=⟨256,λn=>⟨B.a,B.r,λv=>F n v.1⟩,cG B (.seq (.reg [(2,.pr .ro QZ)]) (.seq (.reg [(3,.pr .ro QZ)]) (.seq .nil (.seq (.reg [(9,.own .ro)]) Vm)))) Tryz.func256 mn⟩
end kW
namespace gA
def l0 (n:Nat)(a2:WE)(K0:WE->Option WE):Nat->Int->WE->Option WE
 |0,_,_=>none
 |k+1,i3,out4=>
 if decide (i3<(Je a2:Int))=true then
 if(0:Int)<=i3/\i3<(Je a2:Int)then
 (kW.F n (Ji a2 (Jg i3) (Jd,[]))).bind λr5=>
 if(0:Int)<=i3/\i3<(Je out4:Int)then
 l0 n a2 K0 k (Jh.wrap (i3+1)) (Kl out4 (Jg i3) r5)
 else
 none
 else
 none
 else
 K0 out4
def F (n:Nat)(a1:WE):Option WE:=
 if(0:Int)<=(Je a1:Int)/\(Je a1:Int)<=(Je a1:Int)/\(Je a1:Int)<=(aU:Int)then
 l0 n a1 (λout6=>
 some out6) n 0 (JZ (Jg (Je a1:Int)) (Jd,[]))
 else
 none
def code:=Tryz.f204.body.getD .skip
abbrev ash:List ASh:=[.ro Qv]
abbrev rsh:List RSh:=[.own Qv QV]
def b0:=Jn (Jn (Jl (Jn (Jl (Jl code)))))
abbrev sh0:ES:=⟨[(0,.v Qv),(3,.al 3 []),(4,.v QA)],[⟨3,.sl Qw,.own QX,false,false,none⟩]⟩
abbrev sh0_0:ES:=⟨[(3,.al 3 [])],[⟨3,.sl Qw,.own QX,false,false,none⟩]⟩
def g0:GL rsh sh0:=λn m x kn kx=>l0 n x.1.1 (λy0=>kx 0 (sh0_0.enc (((()),()),(y0,())))) m x.1.2.2.1 x.2.1
def B:Bd:=⟨ash,rsh,[kW.E],⟨code,23,.nil,[(.tmp 2,.sl Qw,.own QX)]⟩,[⟨0,sh0,g0⟩]⟩
theorem u0:UO B 0 (.loop b0):=
 lu (.seq Vi (.seq (.block (some [0,3,4]) (.reg [(20,.pr .ro QZ)])) .nil)) [(0,[3])] [0,3,4] sh0 g0 mn
def E:En:=⟨204,λn=>⟨B.a,B.r,λv=>F n v.1⟩,cG B (.seq .nil (.seq (.reg [(7,.own QX)]) (.seq (.seq .nil (.block (some [3]) (.cut 0 [0,3,4]))) Vm))) Tryz.func204 (mc u0 mn)⟩
end gA
namespace gY
def F (n:Nat)(a1:Ww):Option Ww:=
 (gA.F n a1.2).bind λr2=>
 some (a1.1,r2)
def code:=Tryz.f146.body.getD .skip
abbrev ash:List ASh:=[.ro Ql]
abbrev rsh:List RSh:=[.own Ql QR]
def B:Bd:=⟨ash,rsh,[gA.E],⟨code,12,.nil,[(.cell 2 175,.st Qp,.pr .ro QV)]⟩,[]⟩
def E:En:=⟨146,λn=>⟨B.a,B.r,λv=>F n v.1⟩,cG B (.seq (.reg [(2,.pr .ro QV)]) (.seq (.reg [(3,.pr .ro QZ)]) (.seq .nil (.seq (.reg [(9,.own QX)]) Vm)))) Tryz.func146 mn⟩
end gY
namespace dN
def l0 (n:Nat)(a2:Wu)(K0:Wu->Option Wu):Nat->Int->Wu->Option Wu
 |0,_,_=>none
 |k+1,i3,out4=>
 if decide (i3<(Je a2:Int))=true then
 if(0:Int)<=i3/\i3<(Je a2:Int)then
 (gY.F n (Ji a2 (Jg i3) (Jd,[]))).bind λr5=>
 if(0:Int)<=i3/\i3<(Je out4:Int)then
 l0 n a2 K0 k (Jh.wrap (i3+1)) (Kl out4 (Jg i3) r5)
 else
 none
 else
 none
 else
 K0 out4
def F (n:Nat)(a1:Wu):Option Wu:=
 if(0:Int)<=(Je a1:Int)/\(Je a1:Int)<=(Je a1:Int)/\(Je a1:Int)<=(aU:Int)then
 l0 n a1 (λout6=>
 some out6) n 0 (JZ (Jg (Je a1:Int)) (Jd,[]))
 else
 none
def code:=Tryz.f67.body.getD .skip
abbrev ash:List ASh:=[.ro Qj]
abbrev rsh:List RSh:=[.own Qj QP]
def b0:=Jn (Jn (Jl (Jn (Jl (Jl code)))))
abbrev sh0:ES:=⟨[(0,.v Qj),(3,.al 3 []),(4,.v QA)],[⟨3,.sl Ql,.own QR,false,false,none⟩]⟩
abbrev sh0_0:ES:=⟨[(3,.al 3 [])],[⟨3,.sl Ql,.own QR,false,false,none⟩]⟩
def g0:GL rsh sh0:=λn m x kn kx=>l0 n x.1.1 (λy0=>kx 0 (sh0_0.enc (((()),()),(y0,())))) m x.1.2.2.1 x.2.1
def B:Bd:=⟨ash,rsh,[gY.E],⟨code,23,.nil,[(.tmp 2,.sl Ql,.own QR)]⟩,[⟨0,sh0,g0⟩]⟩
theorem u0:UO B 0 (.loop b0):=
 lu (.seq Vi (.seq (.block (some [0,3,4]) (.reg [(20,.pr .ro QV)])) .nil)) [(0,[3])] [0,3,4] sh0 g0 mn
def E:En:=⟨67,λn=>⟨B.a,B.r,λv=>F n v.1⟩,cG B (.seq .nil (.seq (.reg [(7,.own QR)]) (.seq (.seq .nil (.block (some [3]) (.cut 0 [0,3,4]))) Vm))) Tryz.func67 (mc u0 mn)⟩
end dN
namespace iG
def F (n:Nat)(a1:WC):Option WC:=
 (dA.F n a1.2.1).bind λr2=>
 some (a1.1,(r2,a1.2.2))
def code:=Tryz.f147.body.getD .skip
abbrev ash:List ASh:=[.ro Qq]
abbrev rsh:List RSh:=[.own Qq QU]
def B:Bd:=⟨ash,rsh,[dA.E],⟨code,15,.nil,[(.cell 2 104,.st Qt,.pr .ro QY)]⟩,[]⟩
def E:En:=⟨147,λn=>⟨B.a,B.r,λv=>F n v.1⟩,cG B (.seq (.reg [(2,.pr .ro QY)]) (.seq (.reg [(3,.pr .ro QY)]) (.seq .nil (.seq (.reg [(9,.own .ro)]) Vk)))) Tryz.func147 mn⟩
end iG
namespace e8
def l0 (n:Nat)(a2:Wy)(K0:Wy->Option Wy):Nat->Int->Wy->Option Wy
 |0,_,_=>none
 |k+1,i3,out4=>
 if decide (i3<(Je a2:Int))=true then
 if(0:Int)<=i3/\i3<(Je a2:Int)then
 (iG.F n (Ji a2 (Jg i3) (Jd,([],0)))).bind λr5=>
 if(0:Int)<=i3/\i3<(Je out4:Int)then
 l0 n a2 K0 k (Jh.wrap (i3+1)) (Kl out4 (Jg i3) r5)
 else
 none
 else
 none
 else
 K0 out4
def F (n:Nat)(a1:Wy):Option Wy:=
 if(0:Int)<=(Je a1:Int)/\(Je a1:Int)<=(Je a1:Int)/\(Je a1:Int)<=(aU:Int)then
 l0 n a1 (λout6=>
 some out6) n 0 (JZ (Jg (Je a1:Int)) (Jd,([],0)))
 else
 none
def code:=Tryz.f68.body.getD .skip
abbrev ash:List ASh:=[.ro Qm]
abbrev rsh:List RSh:=[.own Qm QS]
def b0:=Jn (Jn (Jl (Jn (Jl (Jl code)))))
abbrev sh0:ES:=⟨[(0,.v Qm),(3,.al 3 []),(4,.v QA)],[⟨3,.sl Qq,.own QU,false,false,none⟩]⟩
abbrev sh0_0:ES:=⟨[(3,.al 3 [])],[⟨3,.sl Qq,.own QU,false,false,none⟩]⟩
def g0:GL rsh sh0:=λn m x kn kx=>l0 n x.1.1 (λy0=>kx 0 (sh0_0.enc (((()),()),(y0,())))) m x.1.2.2.1 x.2.1
def B:Bd:=⟨ash,rsh,[iG.E],⟨code,23,.nil,[(.tmp 2,.sl Qq,.own QU)]⟩,[⟨0,sh0,g0⟩]⟩
theorem u0:UO B 0 (.loop b0):=
 lu (.seq Vi (.seq (.block (some [0,3,4]) (.reg [(20,.pr .ro QY)])) .nil)) [(0,[3])] [0,3,4] sh0 g0 mn
def E:En:=⟨68,λn=>⟨B.a,B.r,λv=>F n v.1⟩,cG B (.seq .nil (.seq (.reg [(7,.own QU)]) (.seq (.seq .nil (.block (some [3]) (.cut 0 [0,3,4]))) Vm))) Tryz.func68 (mc u0 mn)⟩
end e8
namespace fM
def l0 (n:Nat)(a2:Wh)(K0:Wh->Option Wh):Nat->Int->Wh->Option Wh
 |0,_,_=>none
 |k+1,i3,out4=>
 if decide (i3<(Je a2:Int))=true then
 if(0:Int)<=i3/\i3<(Je a2:Int)then
 (kg.F n (Ji a2 (Jg i3) ([],((0,(Jd,[])),[])))).bind λr5=>
 if(0:Int)<=i3/\i3<(Je out4:Int)then
 l0 n a2 K0 k (Jh.wrap (i3+1)) (Kl out4 (Jg i3) r5)
 else
 none
 else
 none
 else
 K0 out4
def F (n:Nat)(a1:Wh):Option Wh:=
 if(0:Int)<=(Je a1:Int)/\(Je a1:Int)<=(Je a1:Int)/\(Je a1:Int)<=(aU:Int)then
 l0 n a1 (λout6=>
 some out6) n 0 (JZ (Jg (Je a1:Int)) ([],((0,(Jd,[])),[])))
 else
 none
def code:=Tryz.f69.body.getD .skip
abbrev ash:List ASh:=[.ro Qe]
abbrev rsh:List RSh:=[.own Qe QH]
def b0:=Jn (Jn (Jl (Jn (Jl (Jl code)))))
abbrev sh0:ES:=⟨[(0,.v Qe),(3,.al 3 []),(4,.v QA)],[⟨3,.sl Qf,.own QJ,false,false,none⟩]⟩
abbrev sh0_0:ES:=⟨[(3,.al 3 [])],[⟨3,.sl Qf,.own QJ,false,false,none⟩]⟩
def g0:GL rsh sh0:=λn m x kn kx=>l0 n x.1.1 (λy0=>kx 0 (sh0_0.enc (((()),()),(y0,())))) m x.1.2.2.1 x.2.1
def B:Bd:=⟨ash,rsh,[kg.E],⟨code,23,.nil,[(.tmp 2,.sl Qf,.own QJ)]⟩,[⟨0,sh0,g0⟩]⟩
theorem u0:UO B 0 (.loop b0):=
 lu (.seq Vi (.seq (.block (some [0,3,4]) (.reg [(20,.pr QQ QN)])) .nil)) [(0,[3])] [0,3,4] sh0 g0 mn
def E:En:=⟨69,λn=>⟨B.a,B.r,λv=>F n v.1⟩,cG B (.seq .nil (.seq (.reg [(7,.own QJ)]) (.seq (.seq .nil (.block (some [3]) (.cut 0 [0,3,4]))) Vm))) Tryz.func69 (mc u0 mn)⟩
end fM
open Go.Proofs
namespace gI
def F (n:Nat)(a1:Wc):Option Wc:=
 (dN.F n a1.1).bind λr2=>
 (e8.F n a1.2.1).bind λr3=>
 (fM.F n a1.2.2).bind λr4=>
 some (r2,(r3,r4))
def code:=Tryz.f18.body.getD .skip
abbrev ash:List ASh:=[.ro Qc]
abbrev rsh:List RSh:=[.own Qc QD]
def B:Bd:=⟨ash,rsh,[dN.E,e8.E,fM.E],⟨code,17,.nil,[(.cell 2 53,.st Qd,.pr QP QE)]⟩,[]⟩
def E:En:=⟨18,λn=>⟨B.a,B.r,λv=>F n v.1⟩,cG B (.seq (.reg [(2,.pr QP QE)]) (.seq (.reg [(3,.pr QZ QW)]) (.seq (.reg [(6,.own QR)]) (.seq (.reg [(10,.own QU)]) (.seq (.reg [(14,.own QJ)]) Vm))))) Tryz.func18 mn⟩
end gI
namespace fN
def j1 (n:Nat)(list5:WL)(s6:ByteArray)(i7:Int)(Kn:ByteArray->Int->Option ByteArray):Option ByteArray:=
 if decide (i7>0)=true then
 if Jf s6+Jf ⟨#[44,32]⟩<=aU then
 if(0:Int)<=i7/\i7<(Je list5:Int)then
 if Jf (s6++⟨#[44,32]⟩)+Jf (Ji list5 (Jg i7) Jd)<=aU then
 Kn ((s6++⟨#[44,32]⟩)++(Ji list5 (Jg i7) Jd)) (Jh.wrap (i7+1))
 else
 none
 else
 none
 else
 none
 else
 if(0:Int)<=i7/\i7<(Je list5:Int)then
 if Jf s6+Jf (Ji list5 (Jg i7) Jd)<=aU then
 Kn (s6++(Ji list5 (Jg i7) Jd)) (Jh.wrap (i7+1))
 else
 none
 else
 none
def l0 (n:Nat)(list2:WL)(K0:ByteArray->Option ByteArray):Nat->ByteArray->Int->Option ByteArray
 |0,_,_=>none
 |k+1,s3,i4=>
 if(decide (i4<(Je list2:Int)))=true then
 if decide ((Jf s3:Int)<=3000)=true then
 j1 n list2 s3 i4 (λs8 i9=>
 l0 n list2 K0 k s8 i9)
 else
 K0 s3
 else
 K0 s3
def F (n:Nat)(list1:WL):Option ByteArray:=
 l0 n list1 (λs10=>
 some s10) n Jd 0
def code:=Tryz.f202.body.getD .skip
abbrev ash:List ASh:=[.ro Qz]
abbrev rsh:List RSh:=[.ro .str]
def b0:=Jn (Jn (Jl (Jn (Jl (Jl code)))))
def c1:=Jl b0
abbrev sh1:ES:=⟨[(0,.v Qz),(3,.v .str),(4,.v QA)],[]⟩
abbrev sh0_0:ES:=⟨[(3,.v .str)],[]⟩
def g1:GL rsh sh1:=λn m x kn kx=>j1 n x.1.1 x.1.2.1 x.1.2.2.1 (λy0 y1=>kn (sh1.enc ((x.1.1,y0,y1,()),(()))))
def g0:GL rsh sh1:=λn m x kn kx=>l0 n x.1.1 (λy0=>kx 0 (sh0_0.enc ((y0,()),(())))) m x.1.2.1 x.1.2.2.1
def B:Bd:=⟨ash,rsh,[],⟨code,27,.nil,[(.tmp 2,.str,.ro)]⟩,[⟨1,sh1,g1⟩,⟨0,sh1,g0⟩]⟩
theorem u1:UO B 1 c1:=
 ju (.seq (.block (some [0,3,4]) Vg) .nil) [(0,[3])] [0,3,4] sh1 g1 mn
theorem u0:UO B 0 (.loop b0):=
 lu (.seq Vi (.cut 1 [0,3,4])) [(0,[3])] [0,3,4] sh1 g0 (mc u1 mn)
def E:En:=⟨202,λn=>⟨B.a,B.r,λv=>F n v.1⟩,cG B (.seq .nil (.seq .nil (.seq (.seq .nil (.block (some [3]) (.cut 0 [0,3,4]))) Vm))) Tryz.func202 (mc u0 mn)⟩
end fN
namespace bA
def j4 (n:Nat)(t16:ByteArray)(t17:Int)(t18:Int)(t19:Wc)(t20:WH)(Kn:ByteArray->Option ByteArray):Option ByteArray:=
 if Jf t16+Jf t20.1<=aU then
 if decide ((Je t20.2:Int)>0)=true then
 if Jf (t16++t20.1)+Jf ⟨#[40]⟩<=aU then
 (fN.F n t20.2).bind λr21=>
 if Jf ((t16++t20.1)++⟨#[40]⟩)+Jf r21<=aU then
 if Jf (((t16++t20.1)++⟨#[40]⟩)++r21)+Jf ⟨#[41]⟩<=aU then
 Kn ((((t16++t20.1)++⟨#[40]⟩)++r21)++⟨#[41]⟩)
 else
 none
 else
 none
 else
 none
 else
 Kn (t16++t20.1)
 else
 none
def j3 (n:Nat)(t12:ByteArray)(t13:Int)(t14:Int)(t15:Wc)(Kn:ByteArray->Int->Option ByteArray):Option ByteArray:=
 if(0:Int)<=t13/\t13<(Je t15.1:Int)then
 if(0:Int)<=t14/\t14<(Je ((Ji t15.1 (Jg t13) (Jd,[])).2):Int)then
 if decide (t14>0)=true then
 if Jf t12+Jf ⟨#[32,124,32]⟩<=aU then
 j4 n (t12++⟨#[32,124,32]⟩) t13 t14 t15 (Ji ((Ji t15.1 (Jg t13) (Jd,[])).2) (Jg t14) (Jd,[])) (λt22=>
 Kn t22 (Jh.wrap (t14+1)))
 else
 none
 else
 j4 n t12 t13 t14 t15 (Ji ((Ji t15.1 (Jg t13) (Jd,[])).2) (Jg t14) (Jd,[])) (λt23=>
 Kn t23 (Jh.wrap (t14+1)))
 else
 none
 else
 none
def l2 (n:Nat)(t9:Int)(t11:Wc)(K2:ByteArray->Option ByteArray):Nat->ByteArray->Int->Option ByteArray
 |0,_,_=>none
 |k+1,t8,t10=>
 if(0:Int)<=t9/\t9<(Je t11.1:Int)then
 if(decide (t10<(Je ((Ji t11.1 (Jg t9) (Jd,[])).2):Int)))=true then
 if decide ((Jf t8:Int)<=3000)=true then
 j3 n t8 t9 t10 t11 (λt24 t25=>
 l2 n t9 t11 K2 k t24 t25)
 else
 K2 t8
 else
 K2 t8
 else
 none
def j1 (n:Nat)(t5:ByteArray)(t6:Int)(t7:Wc)(Kn:ByteArray->Int->Option ByteArray):Option ByteArray:=
 if Jf t5+Jf ⟨#[116,121,112,101,32]⟩<=aU then
 if(0:Int)<=t6/\t6<(Je t7.1:Int)then
 if Jf (t5++⟨#[116,121,112,101,32]⟩)+Jf ((Ji t7.1 (Jg t6) (Jd,[])).1)<=aU then
 if Jf ((t5++⟨#[116,121,112,101,32]⟩)++((Ji t7.1 (Jg t6) (Jd,[])).1))+Jf ⟨#[32,61,32]⟩<=aU then
 l2 n t6 t7 (λt26=>
 if Jf t26+Jf ⟨#[46,10]⟩<=aU then
 Kn (t26++⟨#[46,10]⟩) (Jh.wrap (t6+1))
 else
 none) n (((t5++⟨#[116,121,112,101,32]⟩)++((Ji t7.1 (Jg t6) (Jd,[])).1))++⟨#[32,61,32]⟩) 0
 else
 none
 else
 none
 else
 none
 else
 none
def l0 (n:Nat)(t4:Wc)(K0:ByteArray->Option ByteArray):Nat->ByteArray->Int->Option ByteArray
 |0,_,_=>none
 |k+1,t2,t3=>
 if(decide (t3<(Je t4.1:Int)))=true then
 if decide ((Jf t2:Int)<=3000)=true then
 j1 n t2 t3 t4 (λt27 t28=>
 l0 n t4 K0 k t27 t28)
 else
 K0 t2
 else
 K0 t2
def j6 (n:Nat)(t33:ByteArray)(t34:Int)(t35:Wc)(Kn:ByteArray->Int->Option ByteArray):Option ByteArray:=
 if(0:Int)<=t34/\t34<(Je t35.2.1:Int)then
 (bi.F n (((Ji t35.2.1 (Jg t34) (Jd,([],0))).2).2) 0 3).bind λr36=>
 if(!r36)=true then
 some Jd
 else
 if Jf t33+Jf ⟨#[114,101,108,32]⟩<=aU then
 if(0:Int)<=t34/\t34<(Je t35.2.1:Int)then
 if Jf (t33++⟨#[114,101,108,32]⟩)+Jf ((Ji t35.2.1 (Jg t34) (Jd,([],0))).1)<=aU then
 if Jf ((t33++⟨#[114,101,108,32]⟩)++((Ji t35.2.1 (Jg t34) (Jd,([],0))).1))+Jf ⟨#[40]⟩<=aU then
 if(0:Int)<=t34/\t34<(Je t35.2.1:Int)then
 (fN.F n (((Ji t35.2.1 (Jg t34) (Jd,([],0))).2).1)).bind λr37=>
 if Jf (((t33++⟨#[114,101,108,32]⟩)++((Ji t35.2.1 (Jg t34) (Jd,([],0))).1))++⟨#[40]⟩)+Jf r37<=aU then
 if Jf ((((t33++⟨#[114,101,108,32]⟩)++((Ji t35.2.1 (Jg t34) (Jd,([],0))).1))++⟨#[40]⟩)++r37)+Jf ⟨#[41]⟩<=aU then
 if(0:Int)<=t34/\t34<(Je t35.2.1:Int)then
 if(0:Int)<=(((Ji t35.2.1 (Jg t34) (Jd,([],0))).2).2)/\(((Ji t35.2.1 (Jg t34) (Jd,([],0))).2).2)<(Je ([Jd,⟨#[32,105,110,112,117,116]⟩,⟨#[32,111,117,116,112,117,116]⟩,⟨#[32,105,110,108,105,110,101]⟩]:WL):Int)then
 if Jf (((((t33++⟨#[114,101,108,32]⟩)++((Ji t35.2.1 (Jg t34) (Jd,([],0))).1))++⟨#[40]⟩)++r37)++⟨#[41]⟩)+Jf (Ji ([Jd,⟨#[32,105,110,112,117,116]⟩,⟨#[32,111,117,116,112,117,116]⟩,⟨#[32,105,110,108,105,110,101]⟩]:WL) (Jg (((Ji t35.2.1 (Jg t34) (Jd,([],0))).2).2)) Jd)<=aU then
 if Jf ((((((t33++⟨#[114,101,108,32]⟩)++((Ji t35.2.1 (Jg t34) (Jd,([],0))).1))++⟨#[40]⟩)++r37)++⟨#[41]⟩)++(Ji ([Jd,⟨#[32,105,110,112,117,116]⟩,⟨#[32,111,117,116,112,117,116]⟩,⟨#[32,105,110,108,105,110,101]⟩]:WL) (Jg (((Ji t35.2.1 (Jg t34) (Jd,([],0))).2).2)) Jd))+Jf ⟨#[46,10]⟩<=aU then
 Kn (((((((t33++⟨#[114,101,108,32]⟩)++((Ji t35.2.1 (Jg t34) (Jd,([],0))).1))++⟨#[40]⟩)++r37)++⟨#[41]⟩)++(Ji ([Jd,⟨#[32,105,110,112,117,116]⟩,⟨#[32,111,117,116,112,117,116]⟩,⟨#[32,105,110,108,105,110,101]⟩]:WL) (Jg (((Ji t35.2.1 (Jg t34) (Jd,([],0))).2).2)) Jd))++⟨#[46,10]⟩) (Jh.wrap (t34+1))
 else
 none
 else
 none
 else
 none
 else
 none
 else
 none
 else
 none
 else
 none
 else
 none
 else
 none
 else
 none
 else
 none
 else
 none
def l5 (n:Nat)(t32:Wc)(K4:ByteArray->Option ByteArray):Nat->ByteArray->Int->Option ByteArray
 |0,_,_=>none
 |k+1,t30,t31=>
 if(decide (t31<(Je t32.2.1:Int)))=true then
 if decide ((Jf t30:Int)<=3000)=true then
 j6 n t30 t31 t32 (λt38 t39=>
 l5 n t32 K4 k t38 t39)
 else
 K4 t30
 else
 K4 t30
def j8 (n:Nat)(t44:ByteArray)(t45:Int)(t46:Wc)(Kn:ByteArray->Int->Option ByteArray):Option ByteArray:=
 if(0:Int)<=t45/\t45<(Je t46.2.2:Int)then
 (ca.F n (Ji t46.2.2 (Jg t45) ([],((0,(Jd,[])),[])))).bind λr47=>
 if(JL r47 Jd)=true then
 some Jd
 else
 if Jf t44+Jf r47<=aU then
 if Jf (t44++r47)+Jf ⟨#[10]⟩<=aU then
 Kn ((t44++r47)++⟨#[10]⟩) (Jh.wrap (t45+1))
 else
 none
 else
 none
 else
 none
def l7 (n:Nat)(t43:Wc)(K6:ByteArray->Option ByteArray):Nat->ByteArray->Int->Option ByteArray
 |0,_,_=>none
 |k+1,t41,t42=>
 if(decide (t42<(Je t43.2.2:Int)))=true then
 if decide ((Jf t41:Int)<=3000)=true then
 j8 n t41 t42 t43 (λt48 t49=>
 l7 n t43 K6 k t48 t49)
 else
 K6 t41
 else
 K6 t41
def F (n:Nat)(t1:Wc):Option ByteArray:=
 l0 n t1 (λt29=>
 l5 n t1 (λt40=>
 l7 n t1 (λt50=>
 if decide ((Jf t50:Int)>3000)=true then
 some Jd
 else
 some t50) n t40 0) n t29 0) n Jd 0
def code:=Tryz.f141.body.getD .skip
abbrev ash:List ASh:=[.ro Qc]
abbrev rsh:List RSh:=[.ro .str]
def b0:=Jn (Jn (Jl (Jn (Jl (Jl code)))))
def b5:=Jn (Jn (Jl (Jn (Jl (Jl (Jl code))))))
def c1:=Jl b0
def b7:=Jn (Jn (Jl (Jn (Jl (Jl (Jl (Jl code)))))))
def c6:=Jl b5
def c8:=Jl b7
def b2:=Jn (Jn (Jl (Jn (Jl (Jn (Jn c1))))))
def c3:=Jl b2
def c4:=Jl (Jl (Jn (Jn c3)))
abbrev sh4:ES:=⟨[(1,.pt 1 []),(3,.v .str),(4,.v QA),(5,.v QA),(6,.pt 6 [])],[⟨1,.st Qd,.ro,true,false,none⟩,⟨6,.st Qx,.ro,true,false,none⟩]⟩
abbrev sh4_n:ES:=⟨[(1,.pt 1 []),(3,.v .str),(4,.v QA),(5,.v QA)],[⟨1,.st Qd,.ro,true,false,none⟩]⟩
abbrev sh2_2:ES:=⟨[(1,.pt 1 []),(3,.v .str),(4,.v QA)],[⟨1,.st Qd,.ro,true,false,none⟩]⟩
abbrev sh0_0:ES:=⟨[(1,.pt 1 []),(3,.v .str)],[⟨1,.st Qd,.ro,true,false,none⟩]⟩
abbrev sh6:ES:=⟨[(1,.pt 1 []),(3,.v .str),(7,.v QA)],[⟨1,.st Qd,.ro,true,false,none⟩]⟩
abbrev sh8:ES:=⟨[(1,.pt 1 []),(3,.v .str),(8,.v QA)],[⟨1,.st Qd,.ro,true,false,none⟩]⟩
abbrev sh7_6:ES:=⟨[(3,.v .str)],[]⟩
def g4:GL rsh sh4:=λn m x kn kx=>j4 n x.1.2.1 x.1.2.2.1 x.1.2.2.2.1 x.2.1 x.2.2.1 (λy0=>kn (sh4_n.enc (((()),y0,x.1.2.2.1,x.1.2.2.2.1,()),(x.2.1,()))))
def g3:GL rsh sh4_n:=λn m x kn kx=>j3 n x.1.2.1 x.1.2.2.1 x.1.2.2.2.1 x.2.1 (λy0 y1=>kn (sh4_n.enc (((()),y0,x.1.2.2.1,y1,()),(x.2.1,()))))
def g2:GL rsh sh4_n:=λn m x kn kx=>l2 n x.1.2.2.1 x.2.1 (λy0=>kx 2 (sh2_2.enc (((()),y0,x.1.2.2.1,()),(x.2.1,())))) m x.1.2.1 x.1.2.2.2.1
def g1:GL rsh sh2_2:=λn m x kn kx=>j1 n x.1.2.1 x.1.2.2.1 x.2.1 (λy0 y1=>kn (sh2_2.enc (((()),y0,y1,()),(x.2.1,()))))
def g0:GL rsh sh2_2:=λn m x kn kx=>l0 n x.2.1 (λy0=>kx 0 (sh0_0.enc (((()),y0,()),(x.2.1,())))) m x.1.2.1 x.1.2.2.1
def g6:GL rsh sh6:=λn m x kn kx=>j6 n x.1.2.1 x.1.2.2.1 x.2.1 (λy0 y1=>kn (sh6.enc (((()),y0,y1,()),(x.2.1,()))))
def g5:GL rsh sh6:=λn m x kn kx=>l5 n x.2.1 (λy0=>kx 4 (sh0_0.enc (((()),y0,()),(x.2.1,())))) m x.1.2.1 x.1.2.2.1
def g8:GL rsh sh8:=λn m x kn kx=>j8 n x.1.2.1 x.1.2.2.1 x.2.1 (λy0 y1=>kn (sh8.enc (((()),y0,y1,()),(x.2.1,()))))
def g7:GL rsh sh8:=λn m x kn kx=>l7 n x.2.1 (λy0=>kx 6 (sh7_6.enc ((y0,()),(())))) m x.1.2.1 x.1.2.2.1
def B:Bd:=⟨ash,rsh,[ca.E,bi.E,fN.E],⟨code,156,.nil,[(.tmp 2,.str,.ro)]⟩,[⟨4,sh4,g4⟩,⟨3,sh4_n,g3⟩,⟨2,sh4_n,g2⟩,⟨1,sh2_2,g1⟩,⟨0,sh2_2,g0⟩,⟨6,sh6,g6⟩,⟨5,sh6,g5⟩,⟨8,sh8,g8⟩,⟨7,sh8,g7⟩]⟩
theorem u4:UO B 4 c4:=
 ju Ve [(0,[1,3]),(1,[1,3,4]),(2,[1,3,4]),(3,[1,3,4,5])] [1,3,4,5] sh4 g4 mn
theorem u3:UO B 3 c3:=
 ju (.seq (.block (some [1,3,4,5]) (.seq .nil (.seq Vi (.cut 4 [1,3,4,5,6])))) .nil) [(0,[1,3]),(1,[1,3,4]),(2,[1,3,4])] [1,3,4,5] sh4_n g3 (mc u4 mn)
theorem u2:UO B 2 (.loop b2):=
 lu (.seq Vi (.cut 3 [1,3,4,5])) [(0,[1,3]),(1,[1,3,4]),(2,[1,3,4])] [1,3,4,5] sh4_n g2 (mc u3 mn)
theorem u1:UO B 1 c1:=
 ju (.seq (.block (some [1,3,4]) (.seq .nil (.seq (.seq .nil (.block (some [1,3,4]) (.cut 2 [1,3,4,5]))) .nil))) .nil) [(0,[1,3])] [1,3,4] sh2_2 g1 (mc u2 mn)
theorem u0:UO B 0 (.loop b0):=
 lu (.seq Vi (.cut 1 [1,3,4])) [(0,[1,3])] [1,3,4] sh2_2 g0 (mc u1 mn)
theorem u6:UO B 6 c6:=
 ju (.seq (.block (some [1,3,7]) Vc) .nil) [(4,[1,3])] [1,3,7] sh6 g6 mn
theorem u5:UO B 5 (.loop b5):=
 lu (.seq Vi (.cut 6 [1,3,7])) [(4,[1,3])] [1,3,7] sh6 g5 (mc u6 mn)
theorem u8:UO B 8 c8:=
 ju (.seq (.block (some [1,3,8]) W4) .nil) [(6,[3])] [1,3,8] sh8 g8 mn
theorem u7:UO B 7 (.loop b7):=
 lu (.seq Vi (.cut 8 [1,3,8])) [(6,[3])] [1,3,8] sh8 g7 (mc u8 mn)
def E:En:=⟨141,λn=>⟨B.a,B.r,λv=>F n v.1⟩,cG B (.seq .nil (.seq .nil (.seq (.seq .nil (.block (some [1,3]) (.cut 0 [1,3,4]))) (.seq (.seq .nil (.block (some [1,3]) (.cut 5 [1,3,7]))) (.seq (.seq .nil (.block (some [3]) (.cut 7 [1,3,8]))) W5))))) Tryz.func141 (mc u0 (mc u5 (mc u7 mn)))⟩
end bA
namespace fP
def l0 (n:Nat)(a4:WL)(b5:WL)(K0:Unit->Option Bool):Nat->Int->Option Bool
 |0,_=>none
 |k+1,i3=>
 if decide (i3<(Je a4:Int))=true then
 if(0:Int)<=i3/\i3<(Je a4:Int)then
 if(0:Int)<=i3/\i3<(Je b5:Int)then
 if(!(JL (Ji a4 (Jg i3) Jd) (Ji b5 (Jg i3) Jd)))=true then
 some false
 else
 l0 n a4 b5 K0 k (Jh.wrap (i3+1))
 else
 none
 else
 none
 else
 K0 ()
def F (n:Nat)(a1:WL)(b2:WL):Option Bool:=
 if(!decide ((Je a1:Int)=(Je b2:Int)))=true then
 some false
 else
 l0 n a1 b2 (λ_=>
 some true) n 0
def code:=Tryz.f255.body.getD .skip
abbrev ash:List ASh:=[.ro (.st Qz),.ro (.st Qz)]
abbrev rsh:List RSh:=[.ro .bool]
def b0:=Jn (Jn (Jl (Jn (Jl (Jl code)))))
abbrev sh0:ES:=⟨[(2,.pt 2 []),(3,.pt 3 []),(5,.v QA)],[⟨2,.st Qz,.ro,true,false,none⟩,⟨3,.st Qz,.ro,true,false,none⟩]⟩
abbrev sh0_0:ES:=⟨[],[]⟩
def g0:GL rsh sh0:=λn m x kn kx=>l0 n x.2.1 x.2.2.1 (λ_=>kx 0 (sh0_0.enc ((()),(())))) m x.1.2.2.1
def B:Bd:=⟨ash,rsh,[],⟨code,31,.nil,[(.tmp 4,.bool,.ro)]⟩,[⟨0,sh0,g0⟩]⟩
theorem u0:UO B 0 (.loop b0):=
 lu (.seq Vi (.seq (.block (some [2,3,5]) Vf) .nil)) [(0,[])] [2,3,5] sh0 g0 mn
def E:En:=⟨255,λn=>⟨B.a,B.r,λv=>F n v.1 v.2.1⟩,cG B (.seq .nil (.seq Vf (.seq (.seq .nil (.block (some []) (.cut 0 [2,3,5]))) Vm))) Tryz.func255 (mc u0 mn)⟩
end fP
namespace ig
def F (n:Nat)(a1:WL)(b2:WL):Option Bool:=
 (fP.F n a1 b2).bind λr3=>
 some r3
def code:=Tryz.f203.body.getD .skip
abbrev ash:List ASh:=[.ro Qz,.ro Qz]
abbrev rsh:List RSh:=[.ro .bool]
def B:Bd:=⟨ash,rsh,[fP.E],⟨code,10,.nil,[(.tmp 4,.bool,.ro)]⟩,[]⟩
def E:En:=⟨203,λn=>⟨B.a,B.r,λv=>F n v.1 v.2.1⟩,cG B Vk Tryz.func203 mn⟩
end ig
namespace eA
def l0 (n:Nat)(a3:WN)(b4:WN)(K0:Unit->Option Bool):Nat->Int->Option Bool
 |0,_=>none
 |k+1,i5=>
 if decide (i5<(Je a3:Int))=true then
 if(0:Int)<=i5/\i5<(Je a3:Int)then
 if(0:Int)<=i5/\i5<(Je b4:Int)then
 if(!decide ((Ji a3 (Jg i5) 0)=(Ji b4 (Jg i5) 0)))=true then
 some false
 else
 l0 n a3 b4 K0 k (Jh.wrap (i5+1))
 else
 none
 else
 none
 else
 K0 ()
def F (n:Nat)(a1:WN)(b2:WN):Option Bool:=
 if(!decide ((Je a1:Int)=(Je b2:Int)))=true then
 some false
 else
 l0 n a1 b2 (λ_=>
 some true) n 0
def code:=Tryz.f220.body.getD .skip
abbrev ash:List ASh:=[.ro Qy,.ro Qy]
abbrev rsh:List RSh:=[.ro .bool]
def b0:=Jn (Jn (Jl (Jn (Jl (Jl code)))))
abbrev sh0:ES:=⟨[(0,.v Qy),(1,.v Qy),(5,.v QA)],[]⟩
abbrev sh0_0:ES:=⟨[],[]⟩
def g0:GL rsh sh0:=λn m x kn kx=>l0 n x.1.1 x.1.2.1 (λ_=>kx 0 (sh0_0.enc ((()),(())))) m x.1.2.2.1
def B:Bd:=⟨ash,rsh,[],⟨code,26,.nil,[(.tmp 4,.bool,.ro)]⟩,[⟨0,sh0,g0⟩]⟩
theorem u0:UO B 0 (.loop b0):=
 lu (.seq Vi (.seq (.block (some [0,1,5]) Vf) .nil)) [(0,[])] [0,1,5] sh0 g0 mn
def E:En:=⟨220,λn=>⟨B.a,B.r,λv=>F n v.1 v.2.1⟩,cG B (.seq .nil (.seq Vf (.seq (.seq .nil (.block (some []) (.cut 0 [0,1,5]))) Vm))) Tryz.func220 (mc u0 mn)⟩
end eA
namespace fA
def F (n:Nat)(a1:WG)(b2:WG):Option Bool:=
 if(decide (a1.1=b2.1))=true then
 if(JL a1.2.1 b2.2.1)=true then
 (eA.F n a1.2.2 b2.2.2).bind λr3=>
 some r3
 else
 some false
 else
 some false
def code:=Tryz.f219.body.getD .skip
abbrev ash:List ASh:=[.ro Qn,.ro Qn]
abbrev rsh:List RSh:=[.ro .bool]
def B:Bd:=⟨ash,rsh,[eA.E],⟨code,24,.nil,[(.tmp 4,.bool,.ro)]⟩,[]⟩
def E:En:=⟨219,λn=>⟨B.a,B.r,λv=>F n v.1 v.2.1⟩,cG B Vk Tryz.func219 mn⟩
end fA
namespace cD
def l1 (n:Nat)(t7:Wk)(t8:Wk)(K0:Unit->Option Bool):Nat->Int->Option Bool
 |0,_=>none
 |k+1,t6=>
 if decide (t6<(Je t7.1:Int))=true then
 if(0:Int)<=t6/\t6<(Je t7.1:Int)then
 if(0:Int)<=t6/\t6<(Je t8.1:Int)then
 if(!decide (((Ji t7.1 (Jg t6) (0,(Jd,[]))).1)=((Ji t8.1 (Jg t6) (0,(Jd,[]))).1)))=false then
 if(0:Int)<=t6/\t6<(Je t7.1:Int)then
 if(0:Int)<=t6/\t6<(Je t8.1:Int)then
 if(!(JL (((Ji t7.1 (Jg t6) (0,(Jd,[]))).2).1) (((Ji t8.1 (Jg t6) (0,(Jd,[]))).2).1)))=false then
 if(0:Int)<=t6/\t6<(Je t7.1:Int)then
 if(0:Int)<=t6/\t6<(Je t8.1:Int)then
 (eA.F n (((Ji t7.1 (Jg t6) (0,(Jd,[]))).2).2) (((Ji t8.1 (Jg t6) (0,(Jd,[]))).2).2)).bind λr9=>
 if(!r9)=true then
 some false
 else
 l1 n t7 t8 K0 k (Jh.wrap (t6+1))
 else
 none
 else
 none
 else
 some false
 else
 none
 else
 none
 else
 some false
 else
 none
 else
 none
 else
 K0 ()
def l2 (n:Nat)(t11:Wk)(t12:Wk)(K2:Unit->Option Bool):Nat->Int->Option Bool
 |0,_=>none
 |k+1,t10=>
 if decide (t10<(Je t11.2.2:Int))=true then
 if(0:Int)<=t10/\t10<(Je t11.2.2:Int)then
 if(0:Int)<=t10/\t10<(Je t12.2.2:Int)then
 (fA.F n (Ji t11.2.2 (Jg t10) (0,(Jd,[]))) (Ji t12.2.2 (Jg t10) (0,(Jd,[])))).bind λr13=>
 if(!r13)=true then
 some false
 else
 l2 n t11 t12 K2 k (Jh.wrap (t10+1))
 else
 none
 else
 none
 else
 K2 ()
def j0 (n:Nat)(t4:Wk)(t5:Wk):Option Bool:=
 l1 n t4 t5 (λ_=>
 l2 n t4 t5 (λ_=>
 some true) n 0) n 0
def F (n:Nat)(t1:Wk)(t2:Wk):Option Bool:=
 if(!decide ((Je t1.1:Int)=(Je t2.1:Int)))=false then
 if(!decide ((Je t1.2.2:Int)=(Je t2.2.2:Int)))=false then
 (fA.F n t1.2.1 t2.2.1).bind λr3=>
 if(!r3)=true then
 some false
 else
 j0 n t1 t2
 else
 some false
 else
 some false
def code:=Tryz.f159.body.getD .skip
abbrev ash:List ASh:=[.ro Qf,.ro Qf]
abbrev rsh:List RSh:=[.ro .bool]
def c0:=Jl (Jl code)
def b1:=Jn (Jn (Jl (Jn c0)))
def b2:=Jn (Jn (Jl (Jn (Jl c0))))
abbrev sh1:ES:=⟨[(2,.pt 2 []),(3,.pt 3 []),(5,.v QA)],[⟨2,.st Qg,.ro,true,false,none⟩,⟨3,.st Qg,.ro,true,false,none⟩]⟩
abbrev sh1_0:ES:=⟨[(2,.pt 2 []),(3,.pt 3 [])],[⟨2,.st Qg,.ro,true,false,none⟩,⟨3,.st Qg,.ro,true,false,none⟩]⟩
abbrev sh2:ES:=⟨[(2,.pt 2 []),(3,.pt 3 []),(6,.v QA)],[⟨2,.st Qg,.ro,true,false,none⟩,⟨3,.st Qg,.ro,true,false,none⟩]⟩
abbrev sh2_2:ES:=⟨[],[]⟩
def g1:GL rsh sh1:=λn m x kn kx=>l1 n x.2.1 x.2.2.1 (λ_=>kx 0 (sh1_0.enc (((()),(()),()),(x.2.1,x.2.2.1,())))) m x.1.2.2.1
def g2:GL rsh sh2:=λn m x kn kx=>l2 n x.2.1 x.2.2.1 (λ_=>kx 2 (sh2_2.enc ((()),(())))) m x.1.2.2.1
def g0:GL rsh sh1_0:=λn m x kn kx=>j0 n x.2.1 x.2.2.1
def B:Bd:=⟨ash,rsh,[fA.E,eA.E],⟨code,101,.nil,[(.tmp 4,.bool,.ro)]⟩,[⟨1,sh1,g1⟩,⟨2,sh2,g2⟩,⟨0,sh1_0,g0⟩]⟩
theorem u1:UO B 1 (.loop b1):=
 lu (.seq Vi (.seq (.block (some [2,3,5]) Vf) .nil)) [(0,[2,3])] [2,3,5] sh1 g1 mn
theorem u2:UO B 2 (.loop b2):=
 lu (.seq Vi (.seq (.block (some [2,3,6]) Vf) .nil)) [(2,[])] [2,3,6] sh2 g2 mn
theorem u0:UO B 0 c0:=
 ju (.seq (.seq .nil (.block (some [2,3]) (.cut 1 [2,3,5]))) (.seq (.seq .nil (.block (some []) (.cut 2 [2,3,6]))) Vm)) [] [4] sh1_0 g0 (mc u1 (mc u2 mn))
def E:En:=⟨159,λn=>⟨B.a,B.r,λv=>F n v.1 v.2.1⟩,cG B (.seq .nil (.seq Vf (.cut 0 [2,3]))) Tryz.func159 (mc u0 mn)⟩
end cD
namespace cd
def l3 (n:Nat)(t11:Int)(t13:Wc)(t14:Wc)(K2:Unit->Option Bool):Nat->Int->Option Bool
 |0,_=>none
 |k+1,t12=>
 if(0:Int)<=t11/\t11<(Je t13.1:Int)then
 if decide (t12<(Je ((Ji t13.1 (Jg t11) (Jd,[])).2):Int))=true then
 if(0:Int)<=t11/\t11<(Je t13.1:Int)then
 if(0:Int)<=t12/\t12<(Je ((Ji t13.1 (Jg t11) (Jd,[])).2):Int)then
 if(0:Int)<=t11/\t11<(Je t14.1:Int)then
 if(0:Int)<=t12/\t12<(Je ((Ji t14.1 (Jg t11) (Jd,[])).2):Int)then
 if(!(JL ((Ji ((Ji t13.1 (Jg t11) (Jd,[])).2) (Jg t12) (Jd,[])).1) ((Ji ((Ji t14.1 (Jg t11) (Jd,[])).2) (Jg t12) (Jd,[])).1)))=false then
 if(0:Int)<=t11/\t11<(Je t13.1:Int)then
 if(0:Int)<=t12/\t12<(Je ((Ji t13.1 (Jg t11) (Jd,[])).2):Int)then
 if(0:Int)<=t11/\t11<(Je t14.1:Int)then
 if(0:Int)<=t12/\t12<(Je ((Ji t14.1 (Jg t11) (Jd,[])).2):Int)then
 (ig.F n ((Ji ((Ji t13.1 (Jg t11) (Jd,[])).2) (Jg t12) (Jd,[])).2) ((Ji ((Ji t14.1 (Jg t11) (Jd,[])).2) (Jg t12) (Jd,[])).2)).bind λr15=>
 if(!r15)=true then
 some false
 else
 l3 n t11 t13 t14 K2 k (Jh.wrap (t12+1))
 else
 none
 else
 none
 else
 none
 else
 none
 else
 some false
 else
 none
 else
 none
 else
 none
 else
 none
 else
 K2 ()
 else
 none
def j2 (n:Nat)(t8:Int)(t9:Wc)(t10:Wc)(Kn:Unit->Option Bool):Option Bool:=
 l3 n t8 t9 t10 (λ_=>
 Kn ()) n 0
def l1 (n:Nat)(t6:Wc)(t7:Wc)(K0:Unit->Option Bool):Nat->Int->Option Bool
 |0,_=>none
 |k+1,t5=>
 if decide (t5<(Je t6.1:Int))=true then
 if(0:Int)<=t5/\t5<(Je t6.1:Int)then
 if(0:Int)<=t5/\t5<(Je t7.1:Int)then
 if(!(JL ((Ji t6.1 (Jg t5) (Jd,[])).1) ((Ji t7.1 (Jg t5) (Jd,[])).1)))=false then
 if(0:Int)<=t5/\t5<(Je t6.1:Int)then
 if(0:Int)<=t5/\t5<(Je t7.1:Int)then
 if(!decide ((Je ((Ji t6.1 (Jg t5) (Jd,[])).2):Int)=(Je ((Ji t7.1 (Jg t5) (Jd,[])).2):Int)))=true then
 some false
 else
 j2 n t5 t6 t7 (λ_=>
 l1 n t6 t7 K0 k (Jh.wrap (t5+1)))
 else
 none
 else
 none
 else
 some false
 else
 none
 else
 none
 else
 K0 ()
def l4 (n:Nat)(t17:Wc)(t18:Wc)(K4:Unit->Option Bool):Nat->Int->Option Bool
 |0,_=>none
 |k+1,t16=>
 if decide (t16<(Je t17.2.1:Int))=true then
 if(0:Int)<=t16/\t16<(Je t17.2.1:Int)then
 if(0:Int)<=t16/\t16<(Je t18.2.1:Int)then
 if(!(JL ((Ji t17.2.1 (Jg t16) (Jd,([],0))).1) ((Ji t18.2.1 (Jg t16) (Jd,([],0))).1)))=false then
 if(0:Int)<=t16/\t16<(Je t17.2.1:Int)then
 if(0:Int)<=t16/\t16<(Je t18.2.1:Int)then
 if(!decide ((((Ji t17.2.1 (Jg t16) (Jd,([],0))).2).2)=(((Ji t18.2.1 (Jg t16) (Jd,([],0))).2).2)))=false then
 if(0:Int)<=t16/\t16<(Je t17.2.1:Int)then
 if(0:Int)<=t16/\t16<(Je t18.2.1:Int)then
 (ig.F n (((Ji t17.2.1 (Jg t16) (Jd,([],0))).2).1) (((Ji t18.2.1 (Jg t16) (Jd,([],0))).2).1)).bind λr19=>
 if(!r19)=true then
 some false
 else
 l4 n t17 t18 K4 k (Jh.wrap (t16+1))
 else
 none
 else
 none
 else
 some false
 else
 none
 else
 none
 else
 some false
 else
 none
 else
 none
 else
 K4 ()
def l5 (n:Nat)(t21:Wc)(t22:Wc)(K6:Unit->Option Bool):Nat->Int->Option Bool
 |0,_=>none
 |k+1,t20=>
 if decide (t20<(Je t21.2.2:Int))=true then
 if(0:Int)<=t20/\t20<(Je t21.2.2:Int)then
 if(0:Int)<=t20/\t20<(Je t22.2.2:Int)then
 (cD.F n (Ji t21.2.2 (Jg t20) ([],((0,(Jd,[])),[]))) (Ji t22.2.2 (Jg t20) ([],((0,(Jd,[])),[])))).bind λr23=>
 if(!r23)=true then
 some false
 else
 l5 n t21 t22 K6 k (Jh.wrap (t20+1))
 else
 none
 else
 none
 else
 K6 ()
def j0 (n:Nat)(t3:Wc)(t4:Wc):Option Bool:=
 l1 n t3 t4 (λ_=>
 l4 n t3 t4 (λ_=>
 l5 n t3 t4 (λ_=>
 some true) n 0) n 0) n 0
def F (n:Nat)(t1:Wc)(t2:Wc):Option Bool:=
 if(!decide ((Je t1.1:Int)=(Je t2.1:Int)))=false then
 if(!decide ((Je t1.2.1:Int)=(Je t2.2.1:Int)))=false then
 if(!decide ((Je t1.2.2:Int)=(Je t2.2.2:Int)))=true then
 some false
 else
 j0 n t1 t2
 else
 some false
 else
 some false
def code:=Tryz.f142.body.getD .skip
abbrev ash:List ASh:=[.ro Qc,.ro Qc]
abbrev rsh:List RSh:=[.ro .bool]
def c0:=Jl (Jl code)
def b1:=Jn (Jn (Jl (Jn c0)))
def b4:=Jn (Jn (Jl (Jn (Jl c0))))
def b5:=Jn (Jn (Jl (Jn (Jl (Jl c0)))))
def c2:=Jl (Jn (Jn (Jl b1)))
def b3:=Jn (Jn (Jl c2))
abbrev sh3:ES:=⟨[(2,.pt 2 []),(3,.pt 3 []),(5,.v QA),(6,.v QA)],[⟨2,.st Qd,.ro,true,false,none⟩,⟨3,.st Qd,.ro,true,false,none⟩]⟩
abbrev sh3_2:ES:=⟨[(2,.pt 2 []),(3,.pt 3 []),(5,.v QA)],[⟨2,.st Qd,.ro,true,false,none⟩,⟨3,.st Qd,.ro,true,false,none⟩]⟩
abbrev sh1_0:ES:=⟨[(2,.pt 2 []),(3,.pt 3 [])],[⟨2,.st Qd,.ro,true,false,none⟩,⟨3,.st Qd,.ro,true,false,none⟩]⟩
abbrev sh4:ES:=⟨[(2,.pt 2 []),(3,.pt 3 []),(7,.v QA)],[⟨2,.st Qd,.ro,true,false,none⟩,⟨3,.st Qd,.ro,true,false,none⟩]⟩
abbrev sh5:ES:=⟨[(2,.pt 2 []),(3,.pt 3 []),(8,.v QA)],[⟨2,.st Qd,.ro,true,false,none⟩,⟨3,.st Qd,.ro,true,false,none⟩]⟩
abbrev sh5_6:ES:=⟨[],[]⟩
def g3:GL rsh sh3:=λn m x kn kx=>l3 n x.1.2.2.1 x.2.1 x.2.2.1 (λ_=>kx 2 (sh3_2.enc (((()),(()),x.1.2.2.1,()),(x.2.1,x.2.2.1,())))) m x.1.2.2.2.1
def g2:GL rsh sh3_2:=λn m x kn kx=>j2 n x.1.2.2.1 x.2.1 x.2.2.1 (λ_=>kn (sh3_2.enc (((()),(()),x.1.2.2.1,()),(x.2.1,x.2.2.1,()))))
def g1:GL rsh sh3_2:=λn m x kn kx=>l1 n x.2.1 x.2.2.1 (λ_=>kx 0 (sh1_0.enc (((()),(()),()),(x.2.1,x.2.2.1,())))) m x.1.2.2.1
def g4:GL rsh sh4:=λn m x kn kx=>l4 n x.2.1 x.2.2.1 (λ_=>kx 4 (sh1_0.enc (((()),(()),()),(x.2.1,x.2.2.1,())))) m x.1.2.2.1
def g5:GL rsh sh5:=λn m x kn kx=>l5 n x.2.1 x.2.2.1 (λ_=>kx 6 (sh5_6.enc ((()),(())))) m x.1.2.2.1
def g0:GL rsh sh1_0:=λn m x kn kx=>j0 n x.2.1 x.2.2.1
def B:Bd:=⟨ash,rsh,[cD.E,ig.E],⟨code,197,.nil,[(.tmp 4,.bool,.ro)]⟩,[⟨3,sh3,g3⟩,⟨2,sh3_2,g2⟩,⟨1,sh3_2,g1⟩,⟨4,sh4,g4⟩,⟨5,sh5,g5⟩,⟨0,sh1_0,g0⟩]⟩
theorem u3:UO B 3 (.loop b3):=
 lu (.seq Vi (.seq (.block (some [2,3,5,6]) Vf) .nil)) [(0,[2,3]),(1,[2,3,5]),(2,[2,3,5])] [2,3,5,6] sh3 g3 mn
theorem u2:UO B 2 c2:=
 ju (.seq .nil (.block (some [2,3,5]) (.cut 3 [2,3,5,6]))) [(0,[2,3]),(1,[2,3,5])] [2,3,5] sh3_2 g2 (mc u3 mn)
theorem u1:UO B 1 (.loop b1):=
 lu (.seq Vi (.seq (.block (some [2,3,5]) (.seq Vf (.cut 2 [2,3,5]))) .nil)) [(0,[2,3])] [2,3,5] sh3_2 g1 (mc u2 mn)
theorem u4:UO B 4 (.loop b4):=
 lu (.seq Vi (.seq (.block (some [2,3,7]) Vf) .nil)) [(4,[2,3])] [2,3,7] sh4 g4 mn
theorem u5:UO B 5 (.loop b5):=
 lu (.seq Vi (.seq (.block (some [2,3,8]) Vf) .nil)) [(6,[])] [2,3,8] sh5 g5 mn
theorem u0:UO B 0 c0:=
 ju (.seq (.seq .nil (.block (some [2,3]) (.cut 1 [2,3,5]))) (.seq (.seq .nil (.block (some [2,3]) (.cut 4 [2,3,7]))) (.seq (.seq .nil (.block (some []) (.cut 5 [2,3,8]))) Vm))) [] [4] sh1_0 g0 (mc u1 (mc u4 (mc u5 mn)))
def E:En:=⟨142,λn=>⟨B.a,B.r,λv=>F n v.1 v.2.1⟩,cG B (.seq .nil (.seq Vf (.cut 0 [2,3]))) Tryz.func142 (mc u0 mn)⟩
end cd
namespace fl
def F (n:Nat)(p1:Wc):Option Bool:=
 (bA.F n p1).bind λr2=>
 (dV.F n r2).bind λr3=>
 if(decide (r3.2.2=0))=true then
 (cd.F n p1 r3.1).bind λr4=>
 some r4
 else
 some false
def code:=Tryz.f62.body.getD .skip
abbrev ash:List ASh:=[.ro Qc]
abbrev rsh:List RSh:=[.ro .bool]
def B:Bd:=⟨ash,rsh,[dV.E,bA.E,cd.E],⟨code,20,.nil,[(.tmp 2,.bool,.ro)]⟩,[]⟩
def E:En:=⟨62,λn=>⟨B.a,B.r,λv=>F n v.1⟩,cG B Vh Tryz.func62 mn⟩
end fl
namespace cS
def l1 (n:Nat)(t6:Int)(t8:Wc)(t9:Wc)(t10:Wc)(K2:Ww->Option Wc):Nat->Int->Ww->Option Wc
 |0,_,_=>none
 |k+1,t7,t11=>
 if(0:Int)<=t6/\t6<(Je t8.1:Int)then
 if decide (t7<(Je ((Ji t8.1 (Jg t6) (Jd,[])).2):Int))=true then
 if(0:Int)<=t6/\t6<(Je t8.1:Int)then
 if(0:Int)<=t7/\t7<(Je ((Ji t8.1 (Jg t6) (Jd,[])).2):Int)then
 if(0:Int)<=t6/\t6<(Je t8.1:Int)then
 if(0:Int)<=t7/\t7<(Je ((Ji t8.1 (Jg t6) (Jd,[])).2):Int)then
 if Je ([]:WL)+Je ((Ji ((Ji t8.1 (Jg t6) (Jd,[])).2) (Jg t7) (Jd,[])).2:WL)<=aU then
 if Je t11.2+Je ([((Ji ((Ji t8.1 (Jg t6) (Jd,[])).2) (Jg t7) (Jd,[])).1,[]++((Ji ((Ji t8.1 (Jg t6) (Jd,[])).2) (Jg t7) (Jd,[])).2))]:WE)<=aU then
 l1 n t6 t8 t9 t10 K2 k (Jh.wrap (t7+1)) (t11.1,t11.2++[((Ji ((Ji t8.1 (Jg t6) (Jd,[])).2) (Jg t7) (Jd,[])).1,[]++((Ji ((Ji t8.1 (Jg t6) (Jd,[])).2) (Jg t7) (Jd,[])).2))])
 else
 none
 else
 none
 else
 none
 else
 none
 else
 none
 else
 none
 else
 K2 t11
 else
 none
def l0 (n:Nat)(t3:Wc)(t4:Wc)(K0:Wc->Option Wc):Nat->Int->Wc->Option Wc
 |0,_,_=>none
 |k+1,t2,t5=>
 if decide (t2<(Je t3.1:Int))=true then
 if(0:Int)<=t2/\t2<(Je t3.1:Int)then
 l1 n t2 t3 t4 t5 (λt12=>
 if Je t5.1+Je [t12]<=aU then
 l0 n t3 t4 K0 k (Jh.wrap (t2+1)) (t5.1++[t12],t5.2)
 else
 none) n 0 ((Ji t3.1 (Jg t2) (Jd,[])).1,[])
 else
 none
 else
 K0 t5
def l2 (n:Nat)(t15:Wc)(t16:Wc)(K4:Wc->Option Wc):Nat->Int->Wc->Option Wc
 |0,_,_=>none
 |k+1,t14,t17=>
 if decide (t14<(Je t15.2.1:Int))=true then
 if(0:Int)<=t14/\t14<(Je t15.2.1:Int)then
 if(0:Int)<=t14/\t14<(Je t15.2.1:Int)then
 if Je ([]:WL)+Je (((Ji t15.2.1 (Jg t14) (Jd,([],0))).2).1:WL)<=aU then
 if(0:Int)<=t14/\t14<(Je t15.2.1:Int)then
 if Je t17.2.1+Je ([((Ji t15.2.1 (Jg t14) (Jd,([],0))).1,([]++(((Ji t15.2.1 (Jg t14) (Jd,([],0))).2).1),((Ji t15.2.1 (Jg t14) (Jd,([],0))).2).2))]:Wy)<=aU then
 l2 n t15 t16 K4 k (Jh.wrap (t14+1)) (t17.1,(t17.2.1++[((Ji t15.2.1 (Jg t14) (Jd,([],0))).1,([]++(((Ji t15.2.1 (Jg t14) (Jd,([],0))).2).1),((Ji t15.2.1 (Jg t14) (Jd,([],0))).2).2))],t17.2.2))
 else
 none
 else
 none
 else
 none
 else
 none
 else
 none
 else
 K4 t17
def F (n:Nat)(t1:Wc):Option Wc:=
 l0 n t1 ([],([],[])) (λt13=>
 l2 n t1 ([],([],[])) (λt18=>
 some t18) n 0 t13) n 0 ([],([],[]))
def code:=Tryz.f65.body.getD .skip
abbrev ash:List ASh:=[.ro Qc]
abbrev rsh:List RSh:=[.own Qc (.pr QZ QO)]
def b0:=Jn (Jn (Jl (Jn (Jl (Jl code)))))
def b2:=Jn (Jn (Jl (Jn (Jl (Jl (Jl code))))))
def b1:=Jn (Jn (Jl (Jn (Jl (Jn (Jn (Jl b0)))))))
abbrev sh1:ES:=⟨[(1,.pt 1 []),(2,.pt 2 []),(3,.pt 3 []),(4,.v QA),(5,.pt 5 []),(6,.v QA)],[⟨1,.st Qd,.ro,true,false,none⟩,⟨2,.st Qd,.pr QZ QO,true,false,none⟩,⟨3,.st Qd,.pr QZ QO,true,false,none⟩,⟨5,.st Qp,.pr .ro QV,true,false,none⟩]⟩
abbrev sh1_2:ES:=⟨[(1,.pt 1 []),(2,.pt 2 []),(3,.pt 3 []),(4,.v QA),(5,.pt 5 [])],[⟨1,.st Qd,.ro,true,false,none⟩,⟨2,.st Qd,.pr QZ QO,true,false,none⟩,⟨3,.st Qd,.pr QZ QO,true,false,none⟩,⟨5,.st Qp,.pr .ro QV,true,false,none⟩]⟩
abbrev sh0:ES:=⟨[(1,.pt 1 []),(2,.pt 2 []),(3,.pt 3 []),(4,.v QA)],[⟨1,.st Qd,.ro,true,false,none⟩,⟨2,.st Qd,.pr QZ QO,true,false,none⟩,⟨3,.st Qd,.pr QZ QO,true,false,none⟩]⟩
abbrev sh0_0:ES:=⟨[(1,.pt 1 []),(2,.pt 2 []),(3,.pt 3 [])],[⟨1,.st Qd,.ro,true,false,none⟩,⟨2,.st Qd,.pr QZ QO,true,false,none⟩,⟨3,.st Qd,.pr QZ QO,true,false,none⟩]⟩
abbrev sh2:ES:=⟨[(1,.pt 1 []),(2,.pt 2 []),(3,.pt 3 []),(7,.v QA)],[⟨1,.st Qd,.ro,true,false,none⟩,⟨2,.st Qd,.pr QZ QO,true,false,none⟩,⟨3,.st Qd,.pr QZ QO,true,false,none⟩]⟩
abbrev sh2_4:ES:=⟨[(2,.pt 2 []),(3,.pt 3 [])],[⟨2,.st Qd,.pr QZ QO,true,false,none⟩,⟨3,.st Qd,.pr QZ QO,true,false,none⟩]⟩
def g1:GL rsh sh1:=λn m x kn kx=>l1 n x.1.2.2.2.1 x.2.1 x.2.2.1 x.2.2.2.1 (λy0=>kx 2 (sh1_2.enc (((()),(()),(()),x.1.2.2.2.1,(()),()),(x.2.1,x.2.2.1,x.2.2.2.1,y0,())))) m x.1.2.2.2.2.2.1 x.2.2.2.2.1
def g0:GL rsh sh0:=λn m x kn kx=>l0 n x.2.1 x.2.2.1 (λy0=>kx 0 (sh0_0.enc (((()),(()),(()),()),(x.2.1,x.2.2.1,y0,())))) m x.1.2.2.2.1 x.2.2.2.1
def g2:GL rsh sh2:=λn m x kn kx=>l2 n x.2.1 x.2.2.1 (λy0=>kx 4 (sh2_4.enc (((()),(()),()),(x.2.2.1,y0,())))) m x.1.2.2.2.1 x.2.2.2.1
def B:Bd:=⟨ash,rsh,[],⟨code,102,.nil,[(.cell 2 53,.st Qd,.pr QZ QO)]⟩,[⟨1,sh1,g1⟩,⟨0,sh0,g0⟩,⟨2,sh2,g2⟩]⟩
theorem u1:UO B 1 (.loop b1):=
 lu (.seq Vi (.seq (.block (some [1,2,3,4,5,6]) (.reg [(46,.own .ro),(58,.pr .ro QZ),(59,.own QX)])) .nil)) [(0,[1,2,3]),(1,[1,2,3,4]),(2,[1,2,3,4,5])] [1,2,3,4,5,6] sh1 g1 mn
theorem u0:UO B 0 (.loop b0):=
 lu (.seq Vi (.seq (.block (some [1,2,3,4]) (.seq (.reg [(22,.pr .ro QV),(5,.pr .ro QV)]) (.seq (.seq .nil (.block (some [1,2,3,4,5]) (.cut 1 [1,2,3,4,5,6]))) (.reg [(64,.ro)])))) .nil)) [(0,[1,2,3])] [1,2,3,4] sh0 g0 (mc u1 mn)
theorem u2:UO B 2 (.loop b2):=
 lu (.seq Vi (.seq (.block (some [1,2,3,7]) (.reg [(83,.own .ro),(97,.pr .ro QY),(98,.own QU)])) .nil)) [(4,[2,3])] [1,2,3,7] sh2 g2 mn
def E:En:=⟨65,λn=>⟨B.a,B.r,λv=>F n v.1⟩,cG B (.seq (.reg [(2,.pr QZ QO)]) (.seq (.reg [(8,.pr QZ QO),(3,.pr QZ QO)]) (.seq (.seq .nil (.block (some [1,2,3]) (.cut 0 [1,2,3,4]))) (.seq (.seq .nil (.block (some [2,3]) (.cut 2 [1,2,3,7]))) Vm)))) Tryz.func65 (mc u0 (mc u2 mn))⟩
end cS
namespace dU
def l0 (n:Nat)(t3:Wk)(t4:Wk)(K0:Wk->Option Wk):Nat->Int->Wk->Option Wk
 |0,_,_=>none
 |k+1,t2,t5=>
 if decide (t2<(Je t3.1:Int))=true then
 if(0:Int)<=t2/\t2<(Je t3.1:Int)then
 if(0:Int)<=t2/\t2<(Je t3.1:Int)then
 if(0:Int)<=t2/\t2<(Je t3.1:Int)then
 if Je ([]:WN)+Je (((Ji t3.1 (Jg t2) (0,(Jd,[]))).2).2:WN)<=aU then
 if Je t5.1+Je ([((Ji t3.1 (Jg t2) (0,(Jd,[]))).1,(((Ji t3.1 (Jg t2) (0,(Jd,[]))).2).1,[]++(((Ji t3.1 (Jg t2) (0,(Jd,[]))).2).2)))]:WD)<=aU then
 l0 n t3 t4 K0 k (Jh.wrap (t2+1)) (t5.1++[((Ji t3.1 (Jg t2) (0,(Jd,[]))).1,(((Ji t3.1 (Jg t2) (0,(Jd,[]))).2).1,[]++(((Ji t3.1 (Jg t2) (0,(Jd,[]))).2).2)))],t5.2)
 else
 none
 else
 none
 else
 none
 else
 none
 else
 none
 else
 K0 t5
def l1 (n:Nat)(t8:Wk)(t9:Wk)(K2:Wk->Option Wk):Nat->Int->Wk->Option Wk
 |0,_,_=>none
 |k+1,t7,t10=>
 if decide (t7<(Je t8.2.2:Int))=true then
 if(0:Int)<=t7/\t7<(Je t8.2.2:Int)then
 if(0:Int)<=t7/\t7<(Je t8.2.2:Int)then
 if(0:Int)<=t7/\t7<(Je t8.2.2:Int)then
 if Je ([]:WN)+Je (((Ji t8.2.2 (Jg t7) (0,(Jd,[]))).2).2:WN)<=aU then
 if Je t10.2.2+Je ([((Ji t8.2.2 (Jg t7) (0,(Jd,[]))).1,(((Ji t8.2.2 (Jg t7) (0,(Jd,[]))).2).1,[]++(((Ji t8.2.2 (Jg t7) (0,(Jd,[]))).2).2)))]:WD)<=aU then
 l1 n t8 t9 K2 k (Jh.wrap (t7+1)) (t10.1,(t10.2.1,t10.2.2++[((Ji t8.2.2 (Jg t7) (0,(Jd,[]))).1,(((Ji t8.2.2 (Jg t7) (0,(Jd,[]))).2).1,[]++(((Ji t8.2.2 (Jg t7) (0,(Jd,[]))).2).2)))]))
 else
 none
 else
 none
 else
 none
 else
 none
 else
 none
 else
 K2 t10
def F (n:Nat)(t1:Wk):Option Wk:=
 if Je ([]:WN)+Je t1.2.1.2.2<=aU then
 l0 n t1 ([],((0,(Jd,[])),[])) (λt6=>
 l1 n t1 ([],((0,(Jd,[])),[])) (λt11=>
 some t11) n 0 t6) n 0 ([],((t1.2.1.1,(t1.2.1.2.1,[]++t1.2.1.2.2)),[]))
 else
 none
def code:=Tryz.f66.body.getD .skip
abbrev ash:List ASh:=[.ro Qf]
abbrev rsh:List RSh:=[.own Qf QJ]
def b0:=Jn (Jn (Jl (Jn (Jl (Jl code)))))
def b1:=Jn (Jn (Jl (Jn (Jl (Jl (Jl code))))))
abbrev sh0:ES:=⟨[(1,.pt 1 []),(2,.pt 2 []),(3,.pt 3 []),(4,.v QA)],[⟨1,.st Qg,.ro,true,false,none⟩,⟨2,.st Qg,.pr QQ QN,true,false,none⟩,⟨3,.st Qg,.pr QQ QN,true,false,none⟩]⟩
abbrev sh0_0:ES:=⟨[(1,.pt 1 []),(2,.pt 2 []),(3,.pt 3 [])],[⟨1,.st Qg,.ro,true,false,none⟩,⟨2,.st Qg,.pr QQ QN,true,false,none⟩,⟨3,.st Qg,.pr QQ QN,true,false,none⟩]⟩
abbrev sh1:ES:=⟨[(1,.pt 1 []),(2,.pt 2 []),(3,.pt 3 []),(5,.v QA)],[⟨1,.st Qg,.ro,true,false,none⟩,⟨2,.st Qg,.pr QQ QN,true,false,none⟩,⟨3,.st Qg,.pr QQ QN,true,false,none⟩]⟩
abbrev sh1_2:ES:=⟨[(2,.pt 2 []),(3,.pt 3 [])],[⟨2,.st Qg,.pr QQ QN,true,false,none⟩,⟨3,.st Qg,.pr QQ QN,true,false,none⟩]⟩
def g0:GL rsh sh0:=λn m x kn kx=>l0 n x.2.1 x.2.2.1 (λy0=>kx 0 (sh0_0.enc (((()),(()),(()),()),(x.2.1,x.2.2.1,y0,())))) m x.1.2.2.2.1 x.2.2.2.1
def g1:GL rsh sh1:=λn m x kn kx=>l1 n x.2.1 x.2.2.1 (λy0=>kx 2 (sh1_2.enc (((()),(()),()),(x.2.2.1,y0,())))) m x.1.2.2.2.1 x.2.2.2.1
def B:Bd:=⟨ash,rsh,[],⟨code,86,.nil,[(.cell 2 34,.st Qg,.pr QQ QN)]⟩,[⟨0,sh0,g0⟩,⟨1,sh1,g1⟩]⟩
theorem u0:UO B 0 (.loop b0):=
 lu (.seq Vi (.seq (.block (some [1,2,3,4]) (.reg [(40,.own .ro),(48,.pr .ro QX),(49,.own QT)])) .nil)) [(0,[1,2,3])] [1,2,3,4] sh0 g0 mn
theorem u1:UO B 1 (.loop b1):=
 lu (.seq Vi (.seq (.block (some [1,2,3,5]) (.reg [(73,.own .ro),(81,.pr .ro QX),(82,.own QT)])) .nil)) [(2,[2,3])] [1,2,3,5] sh1 g1 mn
def E:En:=⟨66,λn=>⟨B.a,B.r,λv=>F n v.1⟩,cG B (.seq (.reg [(2,.pr QQ QN)]) (.seq (.reg [(12,.own .ro),(17,.pr .ro QX),(18,.pr QQ QN),(3,.pr QQ (.pr .ro QQ))]) (.seq (.seq .nil (.block (some [1,2,3]) (.cut 0 [1,2,3,4]))) (.seq (.seq .nil (.block (some [2,3]) (.cut 1 [1,2,3,5]))) Vm)))) Tryz.func66 (mc u0 (mc u1 mn))⟩
end dU
namespace cW
def l1 (n:Nat)(t7:ByteArray)(t8:Wu)(t9:Int)(t10:Int)(t11:WE)(t12:Int)(t14:Wc)(t15:Ww)(K2:WL->Option ByteArray):Nat->Int->WL->Option ByteArray
 |0,_,_=>none
 |k+1,t13,t16=>
 if decide (t13<t12)=true then
 if(0:Int)<=t13/\t13<(Je t11:Int)then
 if decide ((Je ((Ji t11 (Jg t13) (Jd,[])).2):Int)>0)=true then
 (cJ.F n ((Ji t11 (Jg t13) (Jd,[])).2) ⟨#[44,32]⟩).bind λr17=>
 if Jf ⟨#[40]⟩+Jf r17<=aU then
 if Jf (⟨#[40]⟩++r17)+Jf ⟨#[41]⟩<=aU then
 if Jf ((Ji t11 (Jg t13) (Jd,[])).1)+Jf ((⟨#[40]⟩++r17)++⟨#[41]⟩)<=aU then
 if Je t16+Je (([((Ji t11 (Jg t13) (Jd,[])).1)++((⟨#[40]⟩++r17)++⟨#[41]⟩)]:WL):WL)<=aU then
 l1 n t7 t8 t9 t10 t11 t12 t14 t15 K2 k (Jh.wrap (t13+1)) (t16++([((Ji t11 (Jg t13) (Jd,[])).1)++((⟨#[40]⟩++r17)++⟨#[41]⟩)]:WL))
 else
 none
 else
 none
 else
 none
 else
 none
 else
 if Je t16+Je ([(Ji t11 (Jg t13) (Jd,[])).1]:WL)<=aU then
 l1 n t7 t8 t9 t10 t11 t12 t14 t15 K2 k (Jh.wrap (t13+1)) (t16++[(Ji t11 (Jg t13) (Jd,[])).1])
 else
 none
 else
 none
 else
 K2 t16
def l0 (n:Nat)(t3:Wu)(t4:Int)(t6:Wc)(K0:ByteArray->Option ByteArray):Nat->ByteArray->Int->Option ByteArray
 |0,_,_=>none
 |k+1,t2,t5=>
 if decide (t5<t4)=true then
 if(0:Int)<=t5/\t5<(Je t3:Int)then
 l1 n t2 t3 t4 t5 ((Ji t3 (Jg t5) (Jd,[])).2) (Je ((Ji t3 (Jg t5) (Jd,[])).2):Int) t6 (Ji t3 (Jg t5) (Jd,[])) (λt18=>
 if Jf ⟨#[116,121,112,101,32]⟩+Jf ((Ji t3 (Jg t5) (Jd,[])).1)<=aU then
 if Jf (⟨#[116,121,112,101,32]⟩++((Ji t3 (Jg t5) (Jd,[])).1))+Jf ⟨#[32,61,32]⟩<=aU then
 (cJ.F n t18 ⟨#[32,124,32]⟩).bind λr19=>
 if Jf ((⟨#[116,121,112,101,32]⟩++((Ji t3 (Jg t5) (Jd,[])).1))++⟨#[32,61,32]⟩)+Jf r19<=aU then
 if Jf (((⟨#[116,121,112,101,32]⟩++((Ji t3 (Jg t5) (Jd,[])).1))++⟨#[32,61,32]⟩)++r19)+Jf ⟨#[46,10]⟩<=aU then
 if Jf t2+Jf ((((⟨#[116,121,112,101,32]⟩++((Ji t3 (Jg t5) (Jd,[])).1))++⟨#[32,61,32]⟩)++r19)++⟨#[46,10]⟩)<=aU then
 l0 n t3 t4 t6 K0 k (t2++((((⟨#[116,121,112,101,32]⟩++((Ji t3 (Jg t5) (Jd,[])).1))++⟨#[32,61,32]⟩)++r19)++⟨#[46,10]⟩)) (Jh.wrap (t5+1))
 else
 none
 else
 none
 else
 none
 else
 none
 else
 none) n 0 []
 else
 none
 else
 K0 t2
def l2 (n:Nat)(t22:Wy)(t23:Int)(t25:Wc)(K4:ByteArray->Option ByteArray):Nat->ByteArray->Int->Option ByteArray
 |0,_,_=>none
 |k+1,t21,t24=>
 if decide (t24<t23)=true then
 if(0:Int)<=t24/\t24<(Je t22:Int)then
 (dX.F n (((Ji t22 (Jg t24) (Jd,([],0))).2).2) 0 3).bind λr26=>
 if(!r26)=true then
 some Jd
 else
 if Jf ⟨#[114,101,108,32]⟩+Jf ((Ji t22 (Jg t24) (Jd,([],0))).1)<=aU then
 if Jf (⟨#[114,101,108,32]⟩++((Ji t22 (Jg t24) (Jd,([],0))).1))+Jf ⟨#[40]⟩<=aU then
 (cJ.F n (((Ji t22 (Jg t24) (Jd,([],0))).2).1) ⟨#[44,32]⟩).bind λr27=>
 if Jf ((⟨#[114,101,108,32]⟩++((Ji t22 (Jg t24) (Jd,([],0))).1))++⟨#[40]⟩)+Jf r27<=aU then
 if Jf (((⟨#[114,101,108,32]⟩++((Ji t22 (Jg t24) (Jd,([],0))).1))++⟨#[40]⟩)++r27)+Jf ⟨#[41]⟩<=aU then
 if Jf t21+Jf ((((⟨#[114,101,108,32]⟩++((Ji t22 (Jg t24) (Jd,([],0))).1))++⟨#[40]⟩)++r27)++⟨#[41]⟩)<=aU then
 if(!decide ((((Ji t22 (Jg t24) (Jd,([],0))).2).2)=0))=true then
 (fk.F n).bind λr28=>
 if(0:Int)<=(((Ji t22 (Jg t24) (Jd,([],0))).2).2)/\(((Ji t22 (Jg t24) (Jd,([],0))).2).2)<(Je r28:Int)then
 if Jf ⟨#[32]⟩+Jf (Ji r28 (Jg (((Ji t22 (Jg t24) (Jd,([],0))).2).2)) Jd)<=aU then
 if Jf (t21++((((⟨#[114,101,108,32]⟩++((Ji t22 (Jg t24) (Jd,([],0))).1))++⟨#[40]⟩)++r27)++⟨#[41]⟩))+Jf (⟨#[32]⟩++(Ji r28 (Jg (((Ji t22 (Jg t24) (Jd,([],0))).2).2)) Jd))<=aU then
 if Jf ((t21++((((⟨#[114,101,108,32]⟩++((Ji t22 (Jg t24) (Jd,([],0))).1))++⟨#[40]⟩)++r27)++⟨#[41]⟩))++(⟨#[32]⟩++(Ji r28 (Jg (((Ji t22 (Jg t24) (Jd,([],0))).2).2)) Jd)))+Jf ⟨#[46,10]⟩<=aU then
 l2 n t22 t23 t25 K4 k (((t21++((((⟨#[114,101,108,32]⟩++((Ji t22 (Jg t24) (Jd,([],0))).1))++⟨#[40]⟩)++r27)++⟨#[41]⟩))++(⟨#[32]⟩++(Ji r28 (Jg (((Ji t22 (Jg t24) (Jd,([],0))).2).2)) Jd)))++⟨#[46,10]⟩) (Jh.wrap (t24+1))
 else
 none
 else
 none
 else
 none
 else
 none
 else
 if Jf (t21++((((⟨#[114,101,108,32]⟩++((Ji t22 (Jg t24) (Jd,([],0))).1))++⟨#[40]⟩)++r27)++⟨#[41]⟩))+Jf ⟨#[46,10]⟩<=aU then
 l2 n t22 t23 t25 K4 k ((t21++((((⟨#[114,101,108,32]⟩++((Ji t22 (Jg t24) (Jd,([],0))).1))++⟨#[40]⟩)++r27)++⟨#[41]⟩))++⟨#[46,10]⟩) (Jh.wrap (t24+1))
 else
 none
 else
 none
 else
 none
 else
 none
 else
 none
 else
 none
 else
 none
 else
 K4 t21
def l3 (n:Nat)(t31:Wh)(t32:Int)(K6:ByteArray->Option ByteArray):Nat->ByteArray->Int->Option ByteArray
 |0,_,_=>none
 |k+1,t30,t33=>
 if decide (t33<t32)=true then
 if(0:Int)<=t33/\t33<(Je t31:Int)then
 (fa.F n (Ji t31 (Jg t33) ([],((0,(Jd,[])),[])))).bind λr34=>
 if(JL r34 Jd)=false then
 if decide ((Jf t30:Int)>3000)=true then
 some Jd
 else
 if Jf r34+Jf ⟨#[10]⟩<=aU then
 if Jf t30+Jf (r34++⟨#[10]⟩)<=aU then
 l3 n t31 t32 K6 k (t30++(r34++⟨#[10]⟩)) (Jh.wrap (t33+1))
 else
 none
 else
 none
 else
 some Jd
 else
 none
 else
 K6 t30
def F (n:Nat)(t1:Wc):Option ByteArray:=
 l0 n t1.1 (Je t1.1:Int) t1 (λt20=>
 l2 n t1.2.1 (Je t1.2.1:Int) t1 (λt29=>
 l3 n t1.2.2 (Je t1.2.2:Int) (λt35=>
 if decide ((Jf t35:Int)>3000)=true then
 some Jd
 else
 some t35) n t29 0) n t20 0) n Jd 0
def code:=Tryz.f148.body.getD .skip
abbrev ash:List ASh:=[.ro Qc]
abbrev rsh:List RSh:=[.ro .str]
def b0:=Jn (Jn (Jl (Jn (Jl (Jl code)))))
def b2:=Jn (Jn (Jl (Jn (Jl (Jl (Jl code))))))
def b3:=Jn (Jn (Jl (Jn (Jl (Jl (Jl (Jl code)))))))
def b1:=Jn (Jn (Jl (Jn (Jl (Jl (Jn (Jn (Jl (Jl b0)))))))))
abbrev sh1:ES:=⟨[(1,.pt 1 []),(3,.v .str),(5,.pt 5 []),(6,.al 6 []),(16,.v Qj),(17,.v QA),(18,.v QA),(24,.v Qv),(25,.v QA),(26,.v QA)],[⟨1,.st Qd,.ro,true,false,none⟩,⟨5,.st Qp,.ro,true,false,none⟩,⟨6,.sl QC,.own .ro,false,false,none⟩]⟩
abbrev sh1_2:ES:=⟨[(1,.pt 1 []),(3,.v .str),(5,.pt 5 []),(6,.al 6 []),(16,.v Qj),(17,.v QA),(18,.v QA)],[⟨1,.st Qd,.ro,true,false,none⟩,⟨5,.st Qp,.ro,true,false,none⟩,⟨6,.sl QC,.own .ro,false,false,none⟩]⟩
abbrev sh0:ES:=⟨[(1,.pt 1 []),(3,.v .str),(16,.v Qj),(17,.v QA),(18,.v QA)],[⟨1,.st Qd,.ro,true,false,none⟩]⟩
abbrev sh0_0:ES:=⟨[(1,.pt 1 []),(3,.v .str)],[⟨1,.st Qd,.ro,true,false,none⟩]⟩
abbrev sh2:ES:=⟨[(1,.pt 1 []),(3,.v .str),(60,.v Qm),(61,.v QA),(62,.v QA)],[⟨1,.st Qd,.ro,true,false,none⟩]⟩
abbrev sh3:ES:=⟨[(3,.v .str),(96,.v Qe),(97,.v QA),(98,.v QA)],[]⟩
abbrev sh3_6:ES:=⟨[(3,.v .str)],[]⟩
def g1:GL rsh sh1:=λn m x kn kx=>l1 n x.1.2.1 x.1.2.2.2.2.1 x.1.2.2.2.2.2.1 x.1.2.2.2.2.2.2.1 x.1.2.2.2.2.2.2.2.1 x.1.2.2.2.2.2.2.2.2.1 x.2.1 x.2.2.1 (λy0=>kx 2 (sh1_2.enc (((()),x.1.2.1,(()),(()),x.1.2.2.2.2.1,x.1.2.2.2.2.2.1,x.1.2.2.2.2.2.2.1,()),(x.2.1,x.2.2.1,y0,())))) m x.1.2.2.2.2.2.2.2.2.2.1 x.2.2.2.1
def g0:GL rsh sh0:=λn m x kn kx=>l0 n x.1.2.2.1 x.1.2.2.2.1 x.2.1 (λy0=>kx 0 (sh0_0.enc (((()),y0,()),(x.2.1,())))) m x.1.2.1 x.1.2.2.2.2.1
def g2:GL rsh sh2:=λn m x kn kx=>l2 n x.1.2.2.1 x.1.2.2.2.1 x.2.1 (λy0=>kx 4 (sh0_0.enc (((()),y0,()),(x.2.1,())))) m x.1.2.1 x.1.2.2.2.2.1
def g3:GL rsh sh3:=λn m x kn kx=>l3 n x.1.2.1 x.1.2.2.1 (λy0=>kx 6 (sh3_6.enc ((y0,()),(())))) m x.1.1 x.1.2.2.2.1
def B:Bd:=⟨ash,rsh,[fa.E,cJ.E,dX.E,fk.E],⟨code,120,.nil,[(.tmp 2,.str,.ro)]⟩,[⟨1,sh1,g1⟩,⟨0,sh0,g0⟩,⟨2,sh2,g2⟩,⟨3,sh3,g3⟩]⟩
theorem u1:UO B 1 (.loop b1):=
 lu (.seq .nil (.seq Vl (.seq (.block (some [1,3,5,6,16,17,18,24,25,26]) (.seq .nil (.seq .nil Vg))) .nil))) [(0,[1,3]),(1,[1,3,16,17,18]),(2,[1,3,5,6,16,17,18])] [1,3,5,6,16,17,18,24,25,26] sh1 g1 mn
theorem u0:UO B 0 (.loop b0):=
 lu (.seq .nil (.seq Vl (.seq (.block (some [1,3,16,17,18]) (.seq .nil (.seq (.reg [(22,.own .ro)]) (.seq (.seq .nil (.block (some [1,3,5,6,16,17,18]) (.cut 1 [1,3,5,6,16,17,18,24,25,26]))) .nil)))) .nil))) [(0,[1,3])] [1,3,16,17,18] sh0 g0 (mc u1 mn)
theorem u2:UO B 2 (.loop b2):=
 lu (.seq .nil (.seq Vl (.seq (.block (some [1,3,60,61,62]) (.seq .nil (.seq Vf (.seq .nil Vg)))) .nil))) [(4,[1,3])] [1,3,60,61,62] sh2 g2 mn
theorem u3:UO B 3 (.loop b3):=
 lu (.seq .nil (.seq Vl (.seq (.block (some [3,96,97,98]) (.seq .nil W4)) .nil))) [(6,[3])] [3,96,97,98] sh3 g3 mn
def E:En:=⟨148,λn=>⟨B.a,B.r,λv=>F n v.1⟩,cG B (.seq .nil (.seq .nil (.seq (.seq .nil (.block (some [1,3]) (.cut 0 [1,3,16,17,18]))) (.seq (.seq .nil (.block (some [1,3]) (.cut 2 [1,3,60,61,62]))) (.seq (.seq .nil (.block (some [3]) (.cut 3 [3,96,97,98]))) W5))))) Tryz.func148 (mc u0 (mc u2 (mc u3 mn)))⟩
end cW
namespace aF
def l0 (n:Nat)(s24:Wu)(eq5:Wj->Option Bool)(t6:Wu)(t7:Int)(K0:Unit->Option Bool):Nat->Int->Option Bool
 |0,_=>none
 |k+1,t8=>
 if decide (t8<t7)=true then
 if(0:Int)<=t8/\t8<(Je t6:Int)then
 if(0:Int)<=t8/\t8<(Je s24:Int)then
 (eq5 (Ji t6 (Jg t8) (Jd,[]),Ji s24 (Jg t8) (Jd,[]),())).bind λr9=>
 if(!r9)=true then
 some false
 else
 l0 n s24 eq5 t6 t7 K0 k (Jh.wrap (t8+1))
 else
 none
 else
 none
 else
 K0 ()
def F (n:Nat)(s11:Wu)(s22:Wu)(eq3:Wj->Option Bool):Option Bool:=
 if(!decide ((Je s11:Int)=(Je s22:Int)))=true then
 some false
 else
 l0 n s22 eq3 s11 (Je s11:Int) (λ_=>
 some true) n 0
def code:=Tryz.f207.body.getD .skip
abbrev ash:List ASh:=[.ro Qj,.ro Qj,.fn [.st Qp,.st Qp] .bool]
abbrev rsh:List RSh:=[.ro .bool]
def b0:=Jn (Jn (Jl (Jn (Jl (Jl code)))))
abbrev sh0:ES:=⟨[(1,.v Qj),(2,.clo [.st Qp,.st Qp] .bool),(15,.v Qj),(16,.v QA),(17,.v QA)],[]⟩
abbrev sh0_0:ES:=⟨[],[]⟩
def g0:GL rsh sh0:=λn m x kn kx=>l0 n x.1.1 x.1.2.1 x.1.2.2.1 x.1.2.2.2.1 (λ_=>kx 0 (sh0_0.enc ((()),(())))) m x.1.2.2.2.2.1
def B:Bd:=⟨ash,rsh,[],⟨code,32,.nil,[(.tmp 6,.bool,.ro)]⟩,[⟨0,sh0,g0⟩]⟩
theorem u0:UO B 0 (.loop b0):=
 lu (.seq .nil (.seq Vl (.seq (.block (some [1,2,15,16,17]) W7) .nil))) [(0,[])] [1,2,15,16,17] sh0 g0 mn
def E:En:=⟨207,λn=>⟨B.a,B.r,λv=>F n v.1 v.2.1 v.2.2.1⟩,cG B (.seq .nil (.seq Vf (.seq (.seq .nil (.block (some []) (.cut 0 [1,2,15,16,17]))) Vm))) Tryz.func207 (mc u0 mn)⟩
end aF
namespace bu
def l0 (n:Nat)(s24:WE)(eq5:Wp->Option Bool)(t6:WE)(t7:Int)(K0:Unit->Option Bool):Nat->Int->Option Bool
 |0,_=>none
 |k+1,t8=>
 if decide (t8<t7)=true then
 if(0:Int)<=t8/\t8<(Je t6:Int)then
 if(0:Int)<=t8/\t8<(Je s24:Int)then
 (eq5 (Ji t6 (Jg t8) (Jd,[]),Ji s24 (Jg t8) (Jd,[]),())).bind λr9=>
 if(!r9)=true then
 some false
 else
 l0 n s24 eq5 t6 t7 K0 k (Jh.wrap (t8+1))
 else
 none
 else
 none
 else
 K0 ()
def F (n:Nat)(s11:WE)(s22:WE)(eq3:Wp->Option Bool):Option Bool:=
 if(!decide ((Je s11:Int)=(Je s22:Int)))=true then
 some false
 else
 l0 n s22 eq3 s11 (Je s11:Int) (λ_=>
 some true) n 0
def code:=Tryz.f209.body.getD .skip
abbrev ash:List ASh:=[.ro Qv,.ro Qv,.fn [.st Qx,.st Qx] .bool]
abbrev rsh:List RSh:=[.ro .bool]
def b0:=Jn (Jn (Jl (Jn (Jl (Jl code)))))
abbrev sh0:ES:=⟨[(1,.v Qv),(2,.clo [.st Qx,.st Qx] .bool),(15,.v Qv),(16,.v QA),(17,.v QA)],[]⟩
abbrev sh0_0:ES:=⟨[],[]⟩
def g0:GL rsh sh0:=λn m x kn kx=>l0 n x.1.1 x.1.2.1 x.1.2.2.1 x.1.2.2.2.1 (λ_=>kx 0 (sh0_0.enc ((()),(())))) m x.1.2.2.2.2.1
def B:Bd:=⟨ash,rsh,[],⟨code,32,.nil,[(.tmp 6,.bool,.ro)]⟩,[⟨0,sh0,g0⟩]⟩
theorem u0:UO B 0 (.loop b0):=
 lu (.seq .nil (.seq Vl (.seq (.block (some [1,2,15,16,17]) W7) .nil))) [(0,[])] [1,2,15,16,17] sh0 g0 mn
def E:En:=⟨209,λn=>⟨B.a,B.r,λv=>F n v.1 v.2.1 v.2.2.1⟩,cG B (.seq .nil (.seq Vf (.seq (.seq .nil (.block (some []) (.cut 0 [1,2,15,16,17]))) Vm))) Tryz.func209 (mc u0 mn)⟩
end bu
namespace bC
def l0 (n:Nat)(s13:WL)(s24:WL)(t5:Int)(K0:Unit->Option Bool):Nat->Int->Option Bool
 |0,_=>none
 |k+1,t6=>
 if decide (t6<t5)=true then
 if(0:Int)<=t6/\t6<(Je s13:Int)then
 if(0:Int)<=t6/\t6<(Je s24:Int)then
 if(!(JL (Ji s13 (Jg t6) Jd) (Ji s24 (Jg t6) Jd)))=true then
 some false
 else
 l0 n s13 s24 t5 K0 k (Jh.wrap (t6+1))
 else
 none
 else
 none
 else
 K0 ()
def F (n:Nat)(s11:WL)(s22:WL):Option Bool:=
 if(!decide ((Je s11:Int)=(Je s22:Int)))=true then
 some false
 else
 l0 n s11 s22 (Je s11:Int) (λ_=>
 some true) n 0
def code:=Tryz.f211.body.getD .skip
abbrev ash:List ASh:=[.ro Qz,.ro Qz]
abbrev rsh:List RSh:=[.ro .bool]
def b0:=Jn (Jn (Jl (Jn (Jl (Jl code)))))
abbrev sh0:ES:=⟨[(0,.v Qz),(1,.v Qz),(12,.v QA),(13,.v QA)],[]⟩
abbrev sh0_0:ES:=⟨[],[]⟩
def g0:GL rsh sh0:=λn m x kn kx=>l0 n x.1.1 x.1.2.1 x.1.2.2.1 (λ_=>kx 0 (sh0_0.enc ((()),(())))) m x.1.2.2.2.1
def B:Bd:=⟨ash,rsh,[],⟨code,26,.nil,[(.tmp 4,.bool,.ro)]⟩,[⟨0,sh0,g0⟩]⟩
theorem u0:UO B 0 (.loop b0):=
 lu (.seq .nil (.seq Vl (.seq (.block (some [0,1,12,13]) Vb) .nil))) [(0,[])] [0,1,12,13] sh0 g0 mn
def E:En:=⟨211,λn=>⟨B.a,B.r,λv=>F n v.1 v.2.1⟩,cG B (.seq .nil (.seq Vf (.seq (.seq .nil (.block (some []) (.cut 0 [0,1,12,13]))) Vm))) Tryz.func211 (mc u0 mn)⟩
end bC
namespace eO
def F (n:Nat)(c1:WH)(d2:WH):Option Bool:=
 if(JL c1.1 d2.1)=true then
 (bC.F n c1.2 d2.2).bind λr3=>
 some r3
 else
 some false
def code:=Tryz.f210.body.getD .skip
abbrev ash:List ASh:=[.ro Qw,.ro Qw]
abbrev rsh:List RSh:=[.ro .bool]
def B:Bd:=⟨ash,rsh,[bC.E],⟨code,17,.nil,[(.tmp 4,.bool,.ro)]⟩,[]⟩
def E:En:=⟨210,λn=>⟨B.a,B.r,λv=>F n v.1 v.2.1⟩,cG B Vk Tryz.func210 mn⟩
end eO
namespace fC
def F (n:Nat)(x1:Ww)(y2:Ww):Option Bool:=
 if(JL x1.1 y2.1)=true then
 (bu.F n x1.2 y2.2 (λa3=>(eO.F n a3.1 a3.2.1).bind some)).bind λr4=>
 some r4
 else
 some false
def code:=Tryz.f208.body.getD .skip
abbrev ash:List ASh:=[.ro Ql,.ro Ql]
abbrev rsh:List RSh:=[.ro .bool]
def B:Bd:=⟨ash,rsh,[bu.E,eO.E],⟨code,17,.nil,[(.tmp 4,.bool,.ro)]⟩,[]⟩
def E:En:=⟨208,λn=>⟨B.a,B.r,λv=>F n v.1 v.2.1⟩,cG B Vk Tryz.func208 mn⟩
end fC
namespace aK
def l0 (n:Nat)(s24:Wy)(eq5:Wm->Option Bool)(t6:Wy)(t7:Int)(K0:Unit->Option Bool):Nat->Int->Option Bool
 |0,_=>none
 |k+1,t8=>
 if decide (t8<t7)=true then
 if(0:Int)<=t8/\t8<(Je t6:Int)then
 if(0:Int)<=t8/\t8<(Je s24:Int)then
 (eq5 (Ji t6 (Jg t8) (Jd,([],0)),Ji s24 (Jg t8) (Jd,([],0)),())).bind λr9=>
 if(!r9)=true then
 some false
 else
 l0 n s24 eq5 t6 t7 K0 k (Jh.wrap (t8+1))
 else
 none
 else
 none
 else
 K0 ()
def F (n:Nat)(s11:Wy)(s22:Wy)(eq3:Wm->Option Bool):Option Bool:=
 if(!decide ((Je s11:Int)=(Je s22:Int)))=true then
 some false
 else
 l0 n s22 eq3 s11 (Je s11:Int) (λ_=>
 some true) n 0
def code:=Tryz.f212.body.getD .skip
abbrev ash:List ASh:=[.ro Qm,.ro Qm,.fn [.st Qt,.st Qt] .bool]
abbrev rsh:List RSh:=[.ro .bool]
def b0:=Jn (Jn (Jl (Jn (Jl (Jl code)))))
abbrev sh0:ES:=⟨[(1,.v Qm),(2,.clo [.st Qt,.st Qt] .bool),(15,.v Qm),(16,.v QA),(17,.v QA)],[]⟩
abbrev sh0_0:ES:=⟨[],[]⟩
def g0:GL rsh sh0:=λn m x kn kx=>l0 n x.1.1 x.1.2.1 x.1.2.2.1 x.1.2.2.2.1 (λ_=>kx 0 (sh0_0.enc ((()),(())))) m x.1.2.2.2.2.1
def B:Bd:=⟨ash,rsh,[],⟨code,32,.nil,[(.tmp 6,.bool,.ro)]⟩,[⟨0,sh0,g0⟩]⟩
theorem u0:UO B 0 (.loop b0):=
 lu (.seq .nil (.seq Vl (.seq (.block (some [1,2,15,16,17]) W7) .nil))) [(0,[])] [1,2,15,16,17] sh0 g0 mn
def E:En:=⟨212,λn=>⟨B.a,B.r,λv=>F n v.1 v.2.1 v.2.2.1⟩,cG B (.seq .nil (.seq Vf (.seq (.seq .nil (.block (some []) (.cut 0 [1,2,15,16,17]))) Vm))) Tryz.func212 (mc u0 mn)⟩
end aK
namespace fB
def F (n:Nat)(x1:WC)(y2:WC):Option Bool:=
 if(JL x1.1 y2.1)=true then
 if(decide (x1.2.2=y2.2.2))=true then
 (bC.F n x1.2.1 y2.2.1).bind λr3=>
 some r3
 else
 some false
 else
 some false
def code:=Tryz.f213.body.getD .skip
abbrev ash:List ASh:=[.ro Qq,.ro Qq]
abbrev rsh:List RSh:=[.ro .bool]
def B:Bd:=⟨ash,rsh,[bC.E],⟨code,24,.nil,[(.tmp 4,.bool,.ro)]⟩,[]⟩
def E:En:=⟨213,λn=>⟨B.a,B.r,λv=>F n v.1 v.2.1⟩,cG B Vk Tryz.func213 mn⟩
end fB
namespace bj
def l0 (n:Nat)(s24:Wh)(eq5:Wb->Option Bool)(t6:Wh)(t7:Int)(K0:Unit->Option Bool):Nat->Int->Option Bool
 |0,_=>none
 |k+1,t8=>
 if decide (t8<t7)=true then
 if(0:Int)<=t8/\t8<(Je t6:Int)then
 if(0:Int)<=t8/\t8<(Je s24:Int)then
 (eq5 (Ji t6 (Jg t8) ([],((0,(Jd,[])),[])),Ji s24 (Jg t8) ([],((0,(Jd,[])),[])),())).bind λr9=>
 if(!r9)=true then
 some false
 else
 l0 n s24 eq5 t6 t7 K0 k (Jh.wrap (t8+1))
 else
 none
 else
 none
 else
 K0 ()
def F (n:Nat)(s11:Wh)(s22:Wh)(eq3:Wb->Option Bool):Option Bool:=
 if(!decide ((Je s11:Int)=(Je s22:Int)))=true then
 some false
 else
 l0 n s22 eq3 s11 (Je s11:Int) (λ_=>
 some true) n 0
def code:=Tryz.f214.body.getD .skip
abbrev ash:List ASh:=[.ro Qe,.ro Qe,.fn [.st Qg,.st Qg] .bool]
abbrev rsh:List RSh:=[.ro .bool]
def b0:=Jn (Jn (Jl (Jn (Jl (Jl code)))))
abbrev sh0:ES:=⟨[(1,.v Qe),(2,.clo [.st Qg,.st Qg] .bool),(15,.v Qe),(16,.v QA),(17,.v QA)],[]⟩
abbrev sh0_0:ES:=⟨[],[]⟩
def g0:GL rsh sh0:=λn m x kn kx=>l0 n x.1.1 x.1.2.1 x.1.2.2.1 x.1.2.2.2.1 (λ_=>kx 0 (sh0_0.enc ((()),(())))) m x.1.2.2.2.2.1
def B:Bd:=⟨ash,rsh,[],⟨code,32,.nil,[(.tmp 6,.bool,.ro)]⟩,[⟨0,sh0,g0⟩]⟩
theorem u0:UO B 0 (.loop b0):=
 lu (.seq .nil (.seq Vl (.seq (.block (some [1,2,15,16,17]) W7) .nil))) [(0,[])] [1,2,15,16,17] sh0 g0 mn
def E:En:=⟨214,λn=>⟨B.a,B.r,λv=>F n v.1 v.2.1 v.2.2.1⟩,cG B (.seq .nil (.seq Vf (.seq (.seq .nil (.block (some []) (.cut 0 [1,2,15,16,17]))) Vm))) Tryz.func214 (mc u0 mn)⟩
end bj
namespace ch
def l0 (n:Nat)(s13:WN)(s24:WN)(t5:Int)(K0:Unit->Option Bool):Nat->Int->Option Bool
 |0,_=>none
 |k+1,t6=>
 if decide (t6<t5)=true then
 if(0:Int)<=t6/\t6<(Je s13:Int)then
 if(0:Int)<=t6/\t6<(Je s24:Int)then
 if(!decide ((Ji s13 (Jg t6) 0)=(Ji s24 (Jg t6) 0)))=true then
 some false
 else
 l0 n s13 s24 t5 K0 k (Jh.wrap (t6+1))
 else
 none
 else
 none
 else
 K0 ()
def F (n:Nat)(s11:WN)(s22:WN):Option Bool:=
 if(!decide ((Je s11:Int)=(Je s22:Int)))=true then
 some false
 else
 l0 n s11 s22 (Je s11:Int) (λ_=>
 some true) n 0
def code:=Tryz.f166.body.getD .skip
abbrev ash:List ASh:=[.ro Qy,.ro Qy]
abbrev rsh:List RSh:=[.ro .bool]
def b0:=Jn (Jn (Jl (Jn (Jl (Jl code)))))
abbrev sh0:ES:=⟨[(0,.v Qy),(1,.v Qy),(12,.v QA),(13,.v QA)],[]⟩
abbrev sh0_0:ES:=⟨[],[]⟩
def g0:GL rsh sh0:=λn m x kn kx=>l0 n x.1.1 x.1.2.1 x.1.2.2.1 (λ_=>kx 0 (sh0_0.enc ((()),(())))) m x.1.2.2.2.1
def B:Bd:=⟨ash,rsh,[],⟨code,26,.nil,[(.tmp 4,.bool,.ro)]⟩,[⟨0,sh0,g0⟩]⟩
theorem u0:UO B 0 (.loop b0):=
 lu (.seq .nil (.seq Vl (.seq (.block (some [0,1,12,13]) Vb) .nil))) [(0,[])] [0,1,12,13] sh0 g0 mn
def E:En:=⟨166,λn=>⟨B.a,B.r,λv=>F n v.1 v.2.1⟩,cG B (.seq .nil (.seq Vf (.seq (.seq .nil (.block (some []) (.cut 0 [0,1,12,13]))) Vm))) Tryz.func166 (mc u0 mn)⟩
end ch
namespace gT
def F (n:Nat)(a1:WG)(b2:WG):Option Bool:=
 if(decide (a1.1=b2.1))=true then
 if(JL a1.2.1 b2.2.1)=true then
 (ch.F n a1.2.2 b2.2.2).bind λr3=>
 some r3
 else
 some false
 else
 some false
def code:=Tryz.f162.body.getD .skip
abbrev ash:List ASh:=[.ro Qn,.ro Qn]
abbrev rsh:List RSh:=[.ro .bool]
def B:Bd:=⟨ash,rsh,[ch.E],⟨code,24,.nil,[(.tmp 4,.bool,.ro)]⟩,[]⟩
def E:En:=⟨162,λn=>⟨B.a,B.r,λv=>F n v.1 v.2.1⟩,cG B Vk Tryz.func162 mn⟩
end gT
namespace bv
def l0 (n:Nat)(s24:WD)(eq5:Wq->Option Bool)(t6:WD)(t7:Int)(K0:Unit->Option Bool):Nat->Int->Option Bool
 |0,_=>none
 |k+1,t8=>
 if decide (t8<t7)=true then
 if(0:Int)<=t8/\t8<(Je t6:Int)then
 if(0:Int)<=t8/\t8<(Je s24:Int)then
 (eq5 (Ji t6 (Jg t8) (0,(Jd,[])),Ji s24 (Jg t8) (0,(Jd,[])),())).bind λr9=>
 if(!r9)=true then
 some false
 else
 l0 n s24 eq5 t6 t7 K0 k (Jh.wrap (t8+1))
 else
 none
 else
 none
 else
 K0 ()
def F (n:Nat)(s11:WD)(s22:WD)(eq3:Wq->Option Bool):Option Bool:=
 if(!decide ((Je s11:Int)=(Je s22:Int)))=true then
 some false
 else
 l0 n s22 eq3 s11 (Je s11:Int) (λ_=>
 some true) n 0
def code:=Tryz.f163.body.getD .skip
abbrev ash:List ASh:=[.ro Qk,.ro Qk,.fn [.st Qr,.st Qr] .bool]
abbrev rsh:List RSh:=[.ro .bool]
def b0:=Jn (Jn (Jl (Jn (Jl (Jl code)))))
abbrev sh0:ES:=⟨[(1,.v Qk),(2,.clo [.st Qr,.st Qr] .bool),(15,.v Qk),(16,.v QA),(17,.v QA)],[]⟩
abbrev sh0_0:ES:=⟨[],[]⟩
def g0:GL rsh sh0:=λn m x kn kx=>l0 n x.1.1 x.1.2.1 x.1.2.2.1 x.1.2.2.2.1 (λ_=>kx 0 (sh0_0.enc ((()),(())))) m x.1.2.2.2.2.1
def B:Bd:=⟨ash,rsh,[],⟨code,32,.nil,[(.tmp 6,.bool,.ro)]⟩,[⟨0,sh0,g0⟩]⟩
theorem u0:UO B 0 (.loop b0):=
 lu (.seq .nil (.seq Vl (.seq (.block (some [1,2,15,16,17]) W7) .nil))) [(0,[])] [1,2,15,16,17] sh0 g0 mn
def E:En:=⟨163,λn=>⟨B.a,B.r,λv=>F n v.1 v.2.1 v.2.2.1⟩,cG B (.seq .nil (.seq Vf (.seq (.seq .nil (.block (some []) (.cut 0 [1,2,15,16,17]))) Vm))) Tryz.func163 (mc u0 mn)⟩
end bv
namespace br
def l0 (n:Nat)(s24:WD)(eq5:Wq->Option Bool)(t6:WD)(t7:Int)(K0:Unit->Option Bool):Nat->Int->Option Bool
 |0,_=>none
 |k+1,t8=>
 if decide (t8<t7)=true then
 if(0:Int)<=t8/\t8<(Je t6:Int)then
 if(0:Int)<=t8/\t8<(Je s24:Int)then
 (eq5 (Ji t6 (Jg t8) (0,(Jd,[])),Ji s24 (Jg t8) (0,(Jd,[])),())).bind λr9=>
 if(!r9)=true then
 some false
 else
 l0 n s24 eq5 t6 t7 K0 k (Jh.wrap (t8+1))
 else
 none
 else
 none
 else
 K0 ()
def F (n:Nat)(s11:WD)(s22:WD)(eq3:Wq->Option Bool):Option Bool:=
 if(!decide ((Je s11:Int)=(Je s22:Int)))=true then
 some false
 else
 l0 n s22 eq3 s11 (Je s11:Int) (λ_=>
 some true) n 0
def code:=Tryz.f164.body.getD .skip
abbrev ash:List ASh:=[.ro Qk,.ro Qk,.fn [.st Qr,.st Qr] .bool]
abbrev rsh:List RSh:=[.ro .bool]
def b0:=Jn (Jn (Jl (Jn (Jl (Jl code)))))
abbrev sh0:ES:=⟨[(1,.v Qk),(2,.clo [.st Qr,.st Qr] .bool),(15,.v Qk),(16,.v QA),(17,.v QA)],[]⟩
abbrev sh0_0:ES:=⟨[],[]⟩
def g0:GL rsh sh0:=λn m x kn kx=>l0 n x.1.1 x.1.2.1 x.1.2.2.1 x.1.2.2.2.1 (λ_=>kx 0 (sh0_0.enc ((()),(())))) m x.1.2.2.2.2.1
def B:Bd:=⟨ash,rsh,[],⟨code,32,.nil,[(.tmp 6,.bool,.ro)]⟩,[⟨0,sh0,g0⟩]⟩
theorem u0:UO B 0 (.loop b0):=
 lu (.seq .nil (.seq Vl (.seq (.block (some [1,2,15,16,17]) W7) .nil))) [(0,[])] [1,2,15,16,17] sh0 g0 mn
def E:En:=⟨164,λn=>⟨B.a,B.r,λv=>F n v.1 v.2.1 v.2.2.1⟩,cG B (.seq .nil (.seq Vf (.seq (.seq .nil (.block (some []) (.cut 0 [1,2,15,16,17]))) Vm))) Tryz.func164 (mc u0 mn)⟩
end br
namespace fE
def F (n:Nat)(x1:WG)(y2:WG):Option Bool:=
 if(decide (x1.1=y2.1))=true then
 if(JL x1.2.1 y2.2.1)=true then
 (ch.F n x1.2.2 y2.2.2).bind λr3=>
 some r3
 else
 some false
 else
 some false
def code:=Tryz.f165.body.getD .skip
abbrev ash:List ASh:=[.ro Qn,.ro Qn]
abbrev rsh:List RSh:=[.ro .bool]
def B:Bd:=⟨ash,rsh,[ch.E],⟨code,24,.nil,[(.tmp 4,.bool,.ro)]⟩,[]⟩
def E:En:=⟨165,λn=>⟨B.a,B.r,λv=>F n v.1 v.2.1⟩,cG B Vk Tryz.func165 mn⟩
end fE
namespace ii
def F (n:Nat)(a1:Wk)(b2:Wk):Option Bool:=
 (gT.F n a1.2.1 b2.2.1).bind λr3=>
 if r3=true then
 (bv.F n a1.2.2 b2.2.2 (λa4=>(gT.F n a4.1 a4.2.1).bind some)).bind λr5=>
 if r5=true then
 (br.F n a1.1 b2.1 (λa6=>(fE.F n a6.1 a6.2.1).bind some)).bind λr7=>
 some r7
 else
 some false
 else
 some false
def code:=Tryz.f88.body.getD .skip
abbrev ash:List ASh:=[.ro Qf,.ro Qf]
abbrev rsh:List RSh:=[.ro .bool]
def B:Bd:=⟨ash,rsh,[gT.E,bv.E,br.E,fE.E],⟨code,24,.nil,[(.tmp 4,.bool,.ro)]⟩,[]⟩
def E:En:=⟨88,λn=>⟨B.a,B.r,λv=>F n v.1 v.2.1⟩,cG B Vk Tryz.func88 mn⟩
end ii
namespace iW
def F (n:Nat)(a1:Wc)(b2:Wc):Option Bool:=
 (aF.F n a1.1 b2.1 (λa3=>(fC.F n a3.1 a3.2.1).bind some)).bind λr4=>
 (aK.F n a1.2.1 b2.2.1 (λa5=>(fB.F n a5.1 a5.2.1).bind some)).bind λr6=>
 if r4=true then
 if r6=true then
 (bj.F n a1.2.2 b2.2.2 (λa7=>(ii.F n a7.1 a7.2.1).bind some)).bind λr8=>
 some r8
 else
 some false
 else
 some false
def code:=Tryz.f149.body.getD .skip
abbrev ash:List ASh:=[.ro Qc,.ro Qc]
abbrev rsh:List RSh:=[.ro .bool]
def B:Bd:=⟨ash,rsh,[ii.E,aF.E,fC.E,aK.E,fB.E,bj.E],⟨code,28,.nil,[(.tmp 4,.bool,.ro)]⟩,[]⟩
def E:En:=⟨149,λn=>⟨B.a,B.r,λv=>F n v.1 v.2.1⟩,cG B Vd Tryz.func149 mn⟩
end iW
namespace gV
def F (n:Nat)(p1:Wc):Option Bool:=
 (cW.F n p1).bind λr2=>
 (dv.F n r2).bind λr3=>
 if(decide (r3.2.2=0))=true then
 (iW.F n p1 r3.1).bind λr4=>
 some r4
 else
 some false
def code:=Tryz.f70.body.getD .skip
abbrev ash:List ASh:=[.ro Qc]
abbrev rsh:List RSh:=[.ro .bool]
def B:Bd:=⟨ash,rsh,[dv.E,cW.E,iW.E],⟨code,20,.nil,[(.tmp 2,.bool,.ro)]⟩,[]⟩
def E:En:=⟨70,λn=>⟨B.a,B.r,λv=>F n v.1⟩,cG B Vh Tryz.func70 mn⟩
end gV
namespace cg
def l1 (n:Nat)(t8:Wu)(t9:Int)(t10:Int)(t11:WE)(t12:Int)(t14:Wc)(t15:Wc)(t16:Wc)(t17:Ww)(K2:WE->Option Wc):Nat->Int->WE->Option Wc
 |0,_,_=>none
 |k+1,t13,t18=>
 if decide (t13<t12)=true then
 if(0:Int)<=t13/\t13<(Je t11:Int)then
 if Je ([]:WL)+Je ((Ji t11 (Jg t13) (Jd,[])).2:WL)<=aU then
 if Je t18+Je ([((Ji t11 (Jg t13) (Jd,[])).1,[]++((Ji t11 (Jg t13) (Jd,[])).2))]:WE)<=aU then
 l1 n t8 t9 t10 t11 t12 t14 t15 t16 t17 K2 k (Jh.wrap (t13+1)) (t18++[((Ji t11 (Jg t13) (Jd,[])).1,[]++((Ji t11 (Jg t13) (Jd,[])).2))])
 else
 none
 else
 none
 else
 none
 else
 K2 t18
def l0 (n:Nat)(t2:Wu)(t3:Int)(t5:Wc)(t6:Wc)(K0:Wc->Option Wc):Nat->Int->Wc->Option Wc
 |0,_,_=>none
 |k+1,t4,t7=>
 if decide (t4<t3)=true then
 if(0:Int)<=t4/\t4<(Je t2:Int)then
 l1 n t2 t3 t4 ((Ji t2 (Jg t4) (Jd,[])).2) (Je ((Ji t2 (Jg t4) (Jd,[])).2):Int) t5 t6 t7 (Ji t2 (Jg t4) (Jd,[])) (λt19=>
 if Je t7.1+Je ([((Ji t2 (Jg t4) (Jd,[])).1,t19)]:Wu)<=aU then
 l0 n t2 t3 t5 t6 K0 k (Jh.wrap (t4+1)) (t7.1++[((Ji t2 (Jg t4) (Jd,[])).1,t19)],t7.2)
 else
 none) n 0 []
 else
 none
 else
 K0 t7
def l2 (n:Nat)(t21:Wy)(t22:Int)(t24:Wc)(t25:Wc)(K4:Wc->Option Wc):Nat->Int->Wc->Option Wc
 |0,_,_=>none
 |k+1,t23,t26=>
 if decide (t23<t22)=true then
 if(0:Int)<=t23/\t23<(Je t21:Int)then
 if Je ([]:WL)+Je (((Ji t21 (Jg t23) (Jd,([],0))).2).1:WL)<=aU then
 if Je t26.2.1+Je ([((Ji t21 (Jg t23) (Jd,([],0))).1,([]++(((Ji t21 (Jg t23) (Jd,([],0))).2).1),((Ji t21 (Jg t23) (Jd,([],0))).2).2))]:Wy)<=aU then
 l2 n t21 t22 t24 t25 K4 k (Jh.wrap (t23+1)) (t26.1,(t26.2.1++[((Ji t21 (Jg t23) (Jd,([],0))).1,([]++(((Ji t21 (Jg t23) (Jd,([],0))).2).1),((Ji t21 (Jg t23) (Jd,([],0))).2).2))],t26.2.2))
 else
 none
 else
 none
 else
 none
 else
 K4 t26
def l3 (n:Nat)(t28:Wh)(t29:Int)(t31:Wc)(K6:Wc->Option Wc):Nat->Int->Wc->Option Wc
 |0,_,_=>none
 |k+1,t30,t32=>
 if decide (t30<t29)=true then
 if(0:Int)<=t30/\t30<(Je t28:Int)then
 (iV.F n (Ji t28 (Jg t30) ([],((0,(Jd,[])),[])))).bind λr33=>
 if Je t32.2.2+Je [r33]<=aU then
 l3 n t28 t29 t31 K6 k (Jh.wrap (t30+1)) (t32.1,(t32.2.1,t32.2.2++[r33]))
 else
 none
 else
 none
 else
 K6 t32
def F (n:Nat)(t1:Wc):Option Wc:=
 l0 n t1.1 (Je t1.1:Int) t1 ([],([],[])) (λt20=>
 l2 n t1.2.1 (Je t1.2.1:Int) t1 ([],([],[])) (λt27=>
 l3 n t1.2.2 (Je t1.2.2:Int) ([],([],[])) (λt34=>
 some t34) n 0 t27) n 0 t20) n 0 ([],([],[]))
def code:=Tryz.f74.body.getD .skip
abbrev ash:List ASh:=[.ro Qc]
abbrev rsh:List RSh:=[.own Qc QD]
def b0:=Jn (Jn (Jl (Jn (Jl (Jl code)))))
def b2:=Jn (Jn (Jl (Jn (Jl (Jl (Jl code))))))
def b3:=Jn (Jn (Jl (Jn (Jl (Jl (Jl (Jl code)))))))
def b1:=Jn (Jn (Jl (Jn (Jl (Jl (Jn (Jn (Jl (Jl b0)))))))))
abbrev sh1:ES:=⟨[(1,.pt 1 []),(2,.pt 2 []),(3,.pt 3 []),(5,.pt 5 []),(6,.al 6 []),(15,.v Qj),(16,.v QA),(17,.v QA),(23,.v Qv),(24,.v QA),(25,.v QA)],[⟨1,.st Qd,.ro,true,false,none⟩,⟨2,.st Qd,.pr QP QE,true,false,none⟩,⟨3,.st Qd,.pr QP QE,true,false,none⟩,⟨5,.st Qp,.ro,true,false,none⟩,⟨6,.sl Qw,.own QX,false,false,none⟩]⟩
abbrev sh1_2:ES:=⟨[(1,.pt 1 []),(2,.pt 2 []),(3,.pt 3 []),(5,.pt 5 []),(6,.al 6 []),(15,.v Qj),(16,.v QA),(17,.v QA)],[⟨1,.st Qd,.ro,true,false,none⟩,⟨2,.st Qd,.pr QP QE,true,false,none⟩,⟨3,.st Qd,.pr QP QE,true,false,none⟩,⟨5,.st Qp,.ro,true,false,none⟩,⟨6,.sl Qw,.own QX,false,false,none⟩]⟩
abbrev sh0:ES:=⟨[(1,.pt 1 []),(2,.pt 2 []),(3,.pt 3 []),(15,.v Qj),(16,.v QA),(17,.v QA)],[⟨1,.st Qd,.ro,true,false,none⟩,⟨2,.st Qd,.pr QP QE,true,false,none⟩,⟨3,.st Qd,.pr QP QE,true,false,none⟩]⟩
abbrev sh0_0:ES:=⟨[(1,.pt 1 []),(2,.pt 2 []),(3,.pt 3 [])],[⟨1,.st Qd,.ro,true,false,none⟩,⟨2,.st Qd,.pr QP QE,true,false,none⟩,⟨3,.st Qd,.pr QP QE,true,false,none⟩]⟩
abbrev sh2:ES:=⟨[(1,.pt 1 []),(2,.pt 2 []),(3,.pt 3 []),(51,.v Qm),(52,.v QA),(53,.v QA)],[⟨1,.st Qd,.ro,true,false,none⟩,⟨2,.st Qd,.pr QP QE,true,false,none⟩,⟨3,.st Qd,.pr QP QE,true,false,none⟩]⟩
abbrev sh3:ES:=⟨[(2,.pt 2 []),(3,.pt 3 []),(70,.v Qe),(71,.v QA),(72,.v QA)],[⟨2,.st Qd,.pr QP QE,true,false,none⟩,⟨3,.st Qd,.pr QP QE,true,false,none⟩]⟩
abbrev sh3_6:ES:=⟨[(2,.pt 2 []),(3,.pt 3 [])],[⟨2,.st Qd,.pr QP QE,true,false,none⟩,⟨3,.st Qd,.pr QP QE,true,false,none⟩]⟩
def g1:GL rsh sh1:=λn m x kn kx=>l1 n x.1.2.2.2.2.2.1 x.1.2.2.2.2.2.2.1 x.1.2.2.2.2.2.2.2.1 x.1.2.2.2.2.2.2.2.2.1 x.1.2.2.2.2.2.2.2.2.2.1 x.2.1 x.2.2.1 x.2.2.2.1 x.2.2.2.2.1 (λy0=>kx 2 (sh1_2.enc (((()),(()),(()),(()),(()),x.1.2.2.2.2.2.1,x.1.2.2.2.2.2.2.1,x.1.2.2.2.2.2.2.2.1,()),(x.2.1,x.2.2.1,x.2.2.2.1,x.2.2.2.2.1,y0,())))) m x.1.2.2.2.2.2.2.2.2.2.2.1 x.2.2.2.2.2.1
def g0:GL rsh sh0:=λn m x kn kx=>l0 n x.1.2.2.2.1 x.1.2.2.2.2.1 x.2.1 x.2.2.1 (λy0=>kx 0 (sh0_0.enc (((()),(()),(()),()),(x.2.1,x.2.2.1,y0,())))) m x.1.2.2.2.2.2.1 x.2.2.2.1
def g2:GL rsh sh2:=λn m x kn kx=>l2 n x.1.2.2.2.1 x.1.2.2.2.2.1 x.2.1 x.2.2.1 (λy0=>kx 4 (sh0_0.enc (((()),(()),(()),()),(x.2.1,x.2.2.1,y0,())))) m x.1.2.2.2.2.2.1 x.2.2.2.1
def g3:GL rsh sh3:=λn m x kn kx=>l3 n x.1.2.2.1 x.1.2.2.2.1 x.2.1 (λy0=>kx 6 (sh3_6.enc (((()),(()),()),(x.2.1,y0,())))) m x.1.2.2.2.2.1 x.2.2.1
def B:Bd:=⟨ash,rsh,[iV.E],⟨code,85,.nil,[(.cell 2 53,.st Qd,.pr QP QE)]⟩,[⟨1,sh1,g1⟩,⟨0,sh0,g0⟩,⟨2,sh2,g2⟩,⟨3,sh3,g3⟩]⟩
theorem u1:UO B 1 (.loop b1):=
 lu (.seq .nil (.seq Vl (.seq (.block (some [1,2,3,5,6,15,16,17,23,24,25]) (.seq .nil (.reg [(32,.own .ro),(36,.pr .ro QZ),(37,.own QX)]))) .nil))) [(0,[1,2,3]),(1,[1,2,3,15,16,17]),(2,[1,2,3,5,6,15,16,17])] [1,2,3,5,6,15,16,17,23,24,25] sh1 g1 mn
theorem u0:UO B 0 (.loop b0):=
 lu (.seq .nil (.seq Vl (.seq (.block (some [1,2,3,15,16,17]) (.seq .nil (.seq (.reg [(21,.own QX)]) (.seq (.seq .nil (.block (some [1,2,3,5,6,15,16,17]) (.cut 1 [1,2,3,5,6,15,16,17,23,24,25]))) (.reg [(45,.pr .ro QV),(46,.own QR)]))))) .nil))) [(0,[1,2,3])] [1,2,3,15,16,17] sh0 g0 (mc u1 mn)
theorem u2:UO B 2 (.loop b2):=
 lu (.seq .nil (.seq Vl (.seq (.block (some [1,2,3,51,52,53]) (.seq .nil (.seq (.reg [(57,.own .ro)]) (.reg [(65,.own QU)])))) .nil))) [(4,[1,2,3])] [1,2,3,51,52,53] sh2 g2 mn
theorem u3:UO B 3 (.loop b3):=
 lu (.seq .nil (.seq Vl (.seq (.block (some [2,3,70,71,72]) (.seq .nil (.reg [(79,.pr QQ QN),(80,.own QJ)]))) .nil))) [(6,[2,3])] [2,3,70,71,72] sh3 g3 mn
def E:En:=⟨74,λn=>⟨B.a,B.r,λv=>F n v.1⟩,cG B (.seq (.reg [(2,.pr QP QE)]) (.seq (.reg [(13,.pr QP QE),(3,.pr QP QE)]) (.seq (.seq .nil (.block (some [1,2,3]) (.cut 0 [1,2,3,15,16,17]))) (.seq (.seq .nil (.block (some [1,2,3]) (.cut 2 [1,2,3,51,52,53]))) (.seq (.seq .nil (.block (some [2,3]) (.cut 3 [2,3,70,71,72]))) Vm))))) Tryz.func74 (mc u0 (mc u2 (mc u3 mn)))⟩
end cg
open Go.Proofs
namespace dB
def l0 (n:Nat)(a3:WL)(b4:WL)(K0:Unit->Option Bool):Nat->Int->Option Bool
 |0,_=>none
 |k+1,i5=>
 if decide (i5<(Je a3:Int))=true then
 if(0:Int)<=i5/\i5<(Je a3:Int)then
 if(0:Int)<=i5/\i5<(Je b4:Int)then
 if(!(JL (Ji a3 (Jg i5) Jd) (Ji b4 (Jg i5) Jd)))=true then
 some false
 else
 l0 n a3 b4 K0 k (Jh.wrap (i5+1))
 else
 none
 else
 none
 else
 K0 ()
def F (n:Nat)(a1:WL)(b2:WL):Option Bool:=
 if(!decide ((Je a1:Int)=(Je b2:Int)))=true then
 some false
 else
 l0 n a1 b2 (λ_=>
 some true) n 0
def code:=Tryz.f218.body.getD .skip
abbrev ash:List ASh:=[.ro Qz,.ro Qz]
abbrev rsh:List RSh:=[.ro .bool]
def b0:=Jn (Jn (Jl (Jn (Jl (Jl code)))))
abbrev sh0:ES:=⟨[(0,.v Qz),(1,.v Qz),(5,.v QA)],[]⟩
abbrev sh0_0:ES:=⟨[],[]⟩
def g0:GL rsh sh0:=λn m x kn kx=>l0 n x.1.1 x.1.2.1 (λ_=>kx 0 (sh0_0.enc ((()),(())))) m x.1.2.2.1
def B:Bd:=⟨ash,rsh,[],⟨code,26,.nil,[(.tmp 4,.bool,.ro)]⟩,[⟨0,sh0,g0⟩]⟩
theorem u0:UO B 0 (.loop b0):=
 lu (.seq Vi (.seq (.block (some [0,1,5]) Vf) .nil)) [(0,[])] [0,1,5] sh0 g0 mn
def E:En:=⟨218,λn=>⟨B.a,B.r,λv=>F n v.1 v.2.1⟩,cG B (.seq .nil (.seq Vf (.seq (.seq .nil (.block (some []) (.cut 0 [0,1,5]))) Vm))) Tryz.func218 (mc u0 mn)⟩
end dB
namespace kR
def F (n:Nat)(a1:WH)(b2:WH):Option Bool:=
 if(!(JL a1.1 b2.1))=true then
 some false
 else
 (dB.F n a1.2 b2.2).bind λr3=>
 if(!r3)=true then
 some false
 else
 some true
def code:=Tryz.f258.body.getD .skip
abbrev ash:List ASh:=[.ro Qw,.ro Qw]
abbrev rsh:List RSh:=[.ro .bool]
def B:Bd:=⟨ash,rsh,[dB.E],⟨code,16,.nil,[(.tmp 4,.bool,.ro)]⟩,[]⟩
def E:En:=⟨258,λn=>⟨B.a,B.r,λv=>F n v.1 v.2.1⟩,cG B WU Tryz.func258 mn⟩
end kR
namespace gK
def l0 (n:Nat)(a3:WE)(b4:WE)(K0:Unit->Option Bool):Nat->Int->Option Bool
 |0,_=>none
 |k+1,i5=>
 if decide (i5<(Je a3:Int))=true then
 if(0:Int)<=i5/\i5<(Je a3:Int)then
 if(0:Int)<=i5/\i5<(Je b4:Int)then
 (kR.F n (Ji a3 (Jg i5) (Jd,[])) (Ji b4 (Jg i5) (Jd,[]))).bind λr6=>
 if(!r6)=true then
 some false
 else
 l0 n a3 b4 K0 k (Jh.wrap (i5+1))
 else
 none
 else
 none
 else
 K0 ()
def F (n:Nat)(a1:WE)(b2:WE):Option Bool:=
 if(!decide ((Je a1:Int)=(Je b2:Int)))=true then
 some false
 else
 l0 n a1 b2 (λ_=>
 some true) n 0
def code:=Tryz.f217.body.getD .skip
abbrev ash:List ASh:=[.ro Qv,.ro Qv]
abbrev rsh:List RSh:=[.ro .bool]
def b0:=Jn (Jn (Jl (Jn (Jl (Jl code)))))
abbrev sh0:ES:=⟨[(0,.v Qv),(1,.v Qv),(5,.v QA)],[]⟩
abbrev sh0_0:ES:=⟨[],[]⟩
def g0:GL rsh sh0:=λn m x kn kx=>l0 n x.1.1 x.1.2.1 (λ_=>kx 0 (sh0_0.enc ((()),(())))) m x.1.2.2.1
def B:Bd:=⟨ash,rsh,[kR.E],⟨code,27,.nil,[(.tmp 4,.bool,.ro)]⟩,[⟨0,sh0,g0⟩]⟩
theorem u0:UO B 0 (.loop b0):=
 lu (.seq Vi (.seq (.block (some [0,1,5]) Vf) .nil)) [(0,[])] [0,1,5] sh0 g0 mn
def E:En:=⟨217,λn=>⟨B.a,B.r,λv=>F n v.1 v.2.1⟩,cG B (.seq .nil (.seq Vf (.seq (.seq .nil (.block (some []) (.cut 0 [0,1,5]))) Vm))) Tryz.func217 (mc u0 mn)⟩
end gK
namespace hJ
def F (n:Nat)(a1:Ww)(b2:Ww):Option Bool:=
 if(!(JL a1.1 b2.1))=true then
 some false
 else
 (gK.F n a1.2 b2.2).bind λr3=>
 if(!r3)=true then
 some false
 else
 some true
def code:=Tryz.f153.body.getD .skip
abbrev ash:List ASh:=[.ro Ql,.ro Ql]
abbrev rsh:List RSh:=[.ro .bool]
def B:Bd:=⟨ash,rsh,[gK.E],⟨code,16,.nil,[(.tmp 4,.bool,.ro)]⟩,[]⟩
def E:En:=⟨153,λn=>⟨B.a,B.r,λv=>F n v.1 v.2.1⟩,cG B WU Tryz.func153 mn⟩
end hJ
namespace dO
def l0 (n:Nat)(a3:Wu)(b4:Wu)(K0:Unit->Option Bool):Nat->Int->Option Bool
 |0,_=>none
 |k+1,i5=>
 if decide (i5<(Je a3:Int))=true then
 if(0:Int)<=i5/\i5<(Je a3:Int)then
 if(0:Int)<=i5/\i5<(Je b4:Int)then
 (hJ.F n (Ji a3 (Jg i5) (Jd,[])) (Ji b4 (Jg i5) (Jd,[]))).bind λr6=>
 if(!r6)=true then
 some false
 else
 l0 n a3 b4 K0 k (Jh.wrap (i5+1))
 else
 none
 else
 none
 else
 K0 ()
def F (n:Nat)(a1:Wu)(b2:Wu):Option Bool:=
 if(!decide ((Je a1:Int)=(Je b2:Int)))=true then
 some false
 else
 l0 n a1 b2 (λ_=>
 some true) n 0
def code:=Tryz.f76.body.getD .skip
abbrev ash:List ASh:=[.ro Qj,.ro Qj]
abbrev rsh:List RSh:=[.ro .bool]
def b0:=Jn (Jn (Jl (Jn (Jl (Jl code)))))
abbrev sh0:ES:=⟨[(0,.v Qj),(1,.v Qj),(5,.v QA)],[]⟩
abbrev sh0_0:ES:=⟨[],[]⟩
def g0:GL rsh sh0:=λn m x kn kx=>l0 n x.1.1 x.1.2.1 (λ_=>kx 0 (sh0_0.enc ((()),(())))) m x.1.2.2.1
def B:Bd:=⟨ash,rsh,[hJ.E],⟨code,27,.nil,[(.tmp 4,.bool,.ro)]⟩,[⟨0,sh0,g0⟩]⟩
theorem u0:UO B 0 (.loop b0):=
 lu (.seq Vi (.seq (.block (some [0,1,5]) Vf) .nil)) [(0,[])] [0,1,5] sh0 g0 mn
def E:En:=⟨76,λn=>⟨B.a,B.r,λv=>F n v.1 v.2.1⟩,cG B (.seq .nil (.seq Vf (.seq (.seq .nil (.block (some []) (.cut 0 [0,1,5]))) Vm))) Tryz.func76 (mc u0 mn)⟩
end dO
namespace iD
def F (n:Nat)(a1:WC)(b2:WC):Option Bool:=
 if(!(JL a1.1 b2.1))=true then
 some false
 else
 (dB.F n a1.2.1 b2.2.1).bind λr3=>
 if(!r3)=true then
 some false
 else
 if(!decide (a1.2.2=b2.2.2))=true then
 some false
 else
 some true
def code:=Tryz.f154.body.getD .skip
abbrev ash:List ASh:=[.ro Qq,.ro Qq]
abbrev rsh:List RSh:=[.ro .bool]
def B:Bd:=⟨ash,rsh,[dB.E],⟨code,21,.nil,[(.tmp 4,.bool,.ro)]⟩,[]⟩
def E:En:=⟨154,λn=>⟨B.a,B.r,λv=>F n v.1 v.2.1⟩,cG B WP Tryz.func154 mn⟩
end iD
namespace ec
def l0 (n:Nat)(a3:Wy)(b4:Wy)(K0:Unit->Option Bool):Nat->Int->Option Bool
 |0,_=>none
 |k+1,i5=>
 if decide (i5<(Je a3:Int))=true then
 if(0:Int)<=i5/\i5<(Je a3:Int)then
 if(0:Int)<=i5/\i5<(Je b4:Int)then
 (iD.F n (Ji a3 (Jg i5) (Jd,([],0))) (Ji b4 (Jg i5) (Jd,([],0)))).bind λr6=>
 if(!r6)=true then
 some false
 else
 l0 n a3 b4 K0 k (Jh.wrap (i5+1))
 else
 none
 else
 none
 else
 K0 ()
def F (n:Nat)(a1:Wy)(b2:Wy):Option Bool:=
 if(!decide ((Je a1:Int)=(Je b2:Int)))=true then
 some false
 else
 l0 n a1 b2 (λ_=>
 some true) n 0
def code:=Tryz.f77.body.getD .skip
abbrev ash:List ASh:=[.ro Qm,.ro Qm]
abbrev rsh:List RSh:=[.ro .bool]
def b0:=Jn (Jn (Jl (Jn (Jl (Jl code)))))
abbrev sh0:ES:=⟨[(0,.v Qm),(1,.v Qm),(5,.v QA)],[]⟩
abbrev sh0_0:ES:=⟨[],[]⟩
def g0:GL rsh sh0:=λn m x kn kx=>l0 n x.1.1 x.1.2.1 (λ_=>kx 0 (sh0_0.enc ((()),(())))) m x.1.2.2.1
def B:Bd:=⟨ash,rsh,[iD.E],⟨code,27,.nil,[(.tmp 4,.bool,.ro)]⟩,[⟨0,sh0,g0⟩]⟩
theorem u0:UO B 0 (.loop b0):=
 lu (.seq Vi (.seq (.block (some [0,1,5]) Vf) .nil)) [(0,[])] [0,1,5] sh0 g0 mn
def E:En:=⟨77,λn=>⟨B.a,B.r,λv=>F n v.1 v.2.1⟩,cG B (.seq .nil (.seq Vf (.seq (.seq .nil (.block (some []) (.cut 0 [0,1,5]))) Vm))) Tryz.func77 (mc u0 mn)⟩
end ec
namespace fO
def l0 (n:Nat)(a3:Wh)(b4:Wh)(K0:Unit->Option Bool):Nat->Int->Option Bool
 |0,_=>none
 |k+1,i5=>
 if decide (i5<(Je a3:Int))=true then
 if(0:Int)<=i5/\i5<(Je a3:Int)then
 if(0:Int)<=i5/\i5<(Je b4:Int)then
 (kh.F n (Ji a3 (Jg i5) ([],((0,(Jd,[])),[]))) (Ji b4 (Jg i5) ([],((0,(Jd,[])),[])))).bind λr6=>
 if(!r6)=true then
 some false
 else
 l0 n a3 b4 K0 k (Jh.wrap (i5+1))
 else
 none
 else
 none
 else
 K0 ()
def F (n:Nat)(a1:Wh)(b2:Wh):Option Bool:=
 if(!decide ((Je a1:Int)=(Je b2:Int)))=true then
 some false
 else
 l0 n a1 b2 (λ_=>
 some true) n 0
def code:=Tryz.f78.body.getD .skip
abbrev ash:List ASh:=[.ro Qe,.ro Qe]
abbrev rsh:List RSh:=[.ro .bool]
def b0:=Jn (Jn (Jl (Jn (Jl (Jl code)))))
abbrev sh0:ES:=⟨[(0,.v Qe),(1,.v Qe),(5,.v QA)],[]⟩
abbrev sh0_0:ES:=⟨[],[]⟩
def g0:GL rsh sh0:=λn m x kn kx=>l0 n x.1.1 x.1.2.1 (λ_=>kx 0 (sh0_0.enc ((()),(())))) m x.1.2.2.1
def B:Bd:=⟨ash,rsh,[kh.E],⟨code,27,.nil,[(.tmp 4,.bool,.ro)]⟩,[⟨0,sh0,g0⟩]⟩
theorem u0:UO B 0 (.loop b0):=
 lu (.seq Vi (.seq (.block (some [0,1,5]) Vf) .nil)) [(0,[])] [0,1,5] sh0 g0 mn
def E:En:=⟨78,λn=>⟨B.a,B.r,λv=>F n v.1 v.2.1⟩,cG B (.seq .nil (.seq Vf (.seq (.seq .nil (.block (some []) (.cut 0 [0,1,5]))) Vm))) Tryz.func78 (mc u0 mn)⟩
end fO
namespace gE
def F (n:Nat)(a1:Wc)(b2:Wc):Option Bool:=
 (dO.F n a1.1 b2.1).bind λr3=>
 if(!r3)=true then
 some false
 else
 (ec.F n a1.2.1 b2.2.1).bind λr4=>
 if(!r4)=true then
 some false
 else
 (fO.F n a1.2.2 b2.2.2).bind λr5=>
 if(!r5)=true then
 some false
 else
 some true
def code:=Tryz.f20.body.getD .skip
abbrev ash:List ASh:=[.ro Qc,.ro Qc]
abbrev rsh:List RSh:=[.ro .bool]
def B:Bd:=⟨ash,rsh,[dO.E,ec.E,fO.E],⟨code,23,.nil,[(.tmp 4,.bool,.ro)]⟩,[]⟩
def E:En:=⟨20,λn=>⟨B.a,B.r,λv=>F n v.1 v.2.1⟩,cG B WP Tryz.func20 mn⟩
end gE
namespace dt
def l0 (n:Nat)(K0:Int->WL->Option (Int×List ByteArray)):Nat->Int->Int->WL->Option (Int×List ByteArray)
 |0,_,_,_=>none
 |k+1,k3,i4,a5=>
 if decide (i4<(Je a5:Int))=true then
 (aM.F n k3).bind λr6=>
 if(0:Int)<=i4/\i4<(Je a5:Int)then
 l0 n K0 k (Jh.wrap (k3+1)) (Jh.wrap (i4+1)) (Kl a5 (Jg i4) r6)
 else
 none
 else
 K0 k3 a5
def F (n:Nat)(a1:WL)(k2:Int):Option (Int×List ByteArray):=
 l0 n (λk7 a8=>
 some (k7,a8)) n k2 0 a1
def code:=Tryz.f156.body.getD .skip
abbrev ash:List ASh:=[.ms Qz QZ,.ro QA]
abbrev rsh:List RSh:=[.ro QA,.out Qz]
def b0:=Jn (Jn (Jl (Jn (Jl code))))
abbrev sh0:ES:=⟨[(0,.al 0 []),(1,.v QA),(5,.v QA)],[⟨0,.sl QC,.own .ro,false,true,none⟩]⟩
abbrev sh0_0:ES:=⟨[(0,.al 0 []),(1,.v QA)],[⟨0,.sl QC,.own .ro,false,true,none⟩]⟩
def g0:GL rsh sh0:=λn m x kn kx=>l0 n (λy0 y1=>kx 0 (sh0_0.enc (((()),y0,()),(y1,())))) m x.1.2.1 x.1.2.2.1 x.2.1
def B:Bd:=⟨ash,rsh,[aM.E],⟨code,20,.nil,[(.tmp 4,.int .i64,.ro)]⟩,[⟨0,sh0,g0⟩]⟩
theorem u0:UO B 0 (.loop b0):=
 lu (.seq Vi (.seq (.block (some [0,1,5]) Vm) .nil)) [(0,[0,1])] [0,1,5] sh0 g0 mn
def E:En:=⟨156,λn=>⟨B.a,B.r,λv=>F n v.1 v.2.1⟩,cG B (.seq .nil (.seq (.seq .nil (.block (some [0,1]) (.cut 0 [0,1,5]))) Vm)) Tryz.func156 (mc u0 mn)⟩
end dt
namespace ge
def l0 (n:Nat)(K0:Int->WE->Option WA):Nat->Int->Int->WE->Option WA
 |0,_,_,_=>none
 |k+1,k3,i4,a5=>
 if decide (i4<(Je a5:Int))=true then
 (aM.F n k3).bind λr6=>
 if(0:Int)<=i4/\i4<(Je a5:Int)then
 let w7:List WH:=Kl a5 (Jg i4) (r6,(Ji a5 (Jg i4) (Jd,[])).2)
 if(0:Int)<=i4/\i4<(Je w7:Int)then
 (dt.F n ((Ji w7 (Jg i4) (Jd,[])).2) (Jh.wrap (k3+1))).bind λr8=>
 let w9:List WH:=Kl w7 (Jg i4) ((Ji w7 (Jg i4) (Jd,[])).1,r8.2)
 l0 n K0 k r8.1 (Jh.wrap (i4+1)) w9
 else
 none
 else
 none
 else
 K0 k3 a5
def F (n:Nat)(a1:WE)(k2:Int):Option WA:=
 l0 n (λk10 a11=>
 some (k10,a11)) n k2 0 a1
def code:=Tryz.f155.body.getD .skip
abbrev ash:List ASh:=[.ms Qv QV,.ro QA]
abbrev rsh:List RSh:=[.ro QA,.out Qv]
def b0:=Jn (Jn (Jl (Jn (Jl code))))
abbrev sh0:ES:=⟨[(0,.al 0 []),(1,.v QA),(5,.v QA)],[⟨0,.sl Qw,.own QX,false,true,none⟩]⟩
abbrev sh0_0:ES:=⟨[(0,.al 0 []),(1,.v QA)],[⟨0,.sl Qw,.own QX,false,true,none⟩]⟩
def g0:GL rsh sh0:=λn m x kn kx=>l0 n (λy0 y1=>kx 0 (sh0_0.enc (((()),y0,()),(y1,())))) m x.1.2.1 x.1.2.2.1 x.2.1
def B:Bd:=⟨ash,rsh,[aM.E,dt.E],⟨code,28,.nil,[(.tmp 4,.int .i64,.ro)]⟩,[⟨0,sh0,g0⟩]⟩
theorem u0:UO B 0 (.loop b0):=
 lu (.seq Vi (.seq (.block (some [0,1,5]) Vk) .nil)) [(0,[0,1])] [0,1,5] sh0 g0 mn
def E:En:=⟨155,λn=>⟨B.a,B.r,λv=>F n v.1 v.2.1⟩,cG B (.seq .nil (.seq (.seq .nil (.block (some [0,1]) (.cut 0 [0,1,5]))) Vm)) Tryz.func155 (mc u0 mn)⟩
end ge
namespace dI
def l0 (n:Nat)(K0:Int->Wu->Option Ws):Nat->Int->Int->Wu->Option Ws
 |0,_,_,_=>none
 |k+1,k3,i4,a5=>
 if decide (i4<(Je a5:Int))=true then
 (aM.F n k3).bind λr6=>
 if(0:Int)<=i4/\i4<(Je a5:Int)then
 let w7:List Ww:=Kl a5 (Jg i4) (r6,(Ji a5 (Jg i4) (Jd,[])).2)
 if(0:Int)<=i4/\i4<(Je w7:Int)then
 (ge.F n ((Ji w7 (Jg i4) (Jd,[])).2) (Jh.wrap (k3+1))).bind λr8=>
 let w9:List Ww:=Kl w7 (Jg i4) ((Ji w7 (Jg i4) (Jd,[])).1,r8.2)
 l0 n K0 k r8.1 (Jh.wrap (i4+1)) w9
 else
 none
 else
 none
 else
 K0 k3 a5
def F (n:Nat)(a1:Wu)(k2:Int):Option Ws:=
 l0 n (λk10 a11=>
 some (k10,a11)) n k2 0 a1
def code:=Tryz.f79.body.getD .skip
abbrev ash:List ASh:=[.ms Qj QP,.ro QA]
abbrev rsh:List RSh:=[.ro QA,.out Qj]
def b0:=Jn (Jn (Jl (Jn (Jl code))))
abbrev sh0:ES:=⟨[(0,.al 0 []),(1,.v QA),(5,.v QA)],[⟨0,.sl Ql,.own QR,false,true,none⟩]⟩
abbrev sh0_0:ES:=⟨[(0,.al 0 []),(1,.v QA)],[⟨0,.sl Ql,.own QR,false,true,none⟩]⟩
def g0:GL rsh sh0:=λn m x kn kx=>l0 n (λy0 y1=>kx 0 (sh0_0.enc (((()),y0,()),(y1,())))) m x.1.2.1 x.1.2.2.1 x.2.1
def B:Bd:=⟨ash,rsh,[aM.E,ge.E],⟨code,28,.nil,[(.tmp 4,.int .i64,.ro)]⟩,[⟨0,sh0,g0⟩]⟩
theorem u0:UO B 0 (.loop b0):=
 lu (.seq Vi (.seq (.block (some [0,1,5]) Vk) .nil)) [(0,[0,1])] [0,1,5] sh0 g0 mn
def E:En:=⟨79,λn=>⟨B.a,B.r,λv=>F n v.1 v.2.1⟩,cG B (.seq .nil (.seq (.seq .nil (.block (some [0,1]) (.cut 0 [0,1,5]))) Vm)) Tryz.func79 (mc u0 mn)⟩
end dI
namespace dW
def l0 (n:Nat)(K0:Int->Wy->Option Wv):Nat->Int->Int->Wy->Option Wv
 |0,_,_,_=>none
 |k+1,k3,i4,a5=>
 if decide (i4<(Je a5:Int))=true then
 (aM.F n k3).bind λr6=>
 if(0:Int)<=i4/\i4<(Je a5:Int)then
 let w7:List WC:=Kl a5 (Jg i4) (r6,(Ji a5 (Jg i4) (Jd,([],0))).2)
 if(0:Int)<=i4/\i4<(Je w7:Int)then
 (dt.F n (((Ji w7 (Jg i4) (Jd,([],0))).2).1) (Jh.wrap (k3+1))).bind λr8=>
 let w9:List WC:=Kl w7 (Jg i4) ((Ji w7 (Jg i4) (Jd,([],0))).1,(r8.2,((Ji w7 (Jg i4) (Jd,([],0))).2).2))
 if(0:Int)<=i4/\i4<(Je w9:Int)then
 let w10:List WC:=Kl w9 (Jg i4) ((Ji w9 (Jg i4) (Jd,([],0))).1,(((Ji w9 (Jg i4) (Jd,([],0))).2).1,r8.1))
 l0 n K0 k (Jh.wrap (r8.1+1)) (Jh.wrap (i4+1)) w10
 else
 none
 else
 none
 else
 none
 else
 K0 k3 a5
def F (n:Nat)(a1:Wy)(k2:Int):Option Wv:=
 l0 n (λk11 a12=>
 some (k11,a12)) n k2 0 a1
def code:=Tryz.f80.body.getD .skip
abbrev ash:List ASh:=[.ms Qm QS,.ro QA]
abbrev rsh:List RSh:=[.ro QA,.out Qm]
def b0:=Jn (Jn (Jl (Jn (Jl code))))
abbrev sh0:ES:=⟨[(0,.al 0 []),(1,.v QA),(5,.v QA)],[⟨0,.sl Qq,.own QU,false,true,none⟩]⟩
abbrev sh0_0:ES:=⟨[(0,.al 0 []),(1,.v QA)],[⟨0,.sl Qq,.own QU,false,true,none⟩]⟩
def g0:GL rsh sh0:=λn m x kn kx=>l0 n (λy0 y1=>kx 0 (sh0_0.enc (((()),y0,()),(y1,())))) m x.1.2.1 x.1.2.2.1 x.2.1
def B:Bd:=⟨ash,rsh,[aM.E,dt.E],⟨code,35,.nil,[(.tmp 4,.int .i64,.ro)]⟩,[⟨0,sh0,g0⟩]⟩
theorem u0:UO B 0 (.loop b0):=
 lu (.seq Vi (.seq (.block (some [0,1,5]) Vd) .nil)) [(0,[0,1])] [0,1,5] sh0 g0 mn
def E:En:=⟨80,λn=>⟨B.a,B.r,λv=>F n v.1 v.2.1⟩,cG B (.seq .nil (.seq (.seq .nil (.block (some [0,1]) (.cut 0 [0,1,5]))) Vm)) Tryz.func80 (mc u0 mn)⟩
end dW
namespace fm
def l0 (n:Nat)(K0:Int->Wh->Option Wg):Nat->Int->Int->Wh->Option Wg
 |0,_,_,_=>none
 |k+1,k3,i4,a5=>
 if decide (i4<(Je a5:Int))=true then
 if(0:Int)<=i4/\i4<(Je a5:Int)then
 (gf.F n ((Ji a5 (Jg i4) ([],((0,(Jd,[])),[]))).1) k3).bind λr6=>
 let w7:List Wk:=Kl a5 (Jg i4) (r6.2,(Ji a5 (Jg i4) ([],((0,(Jd,[])),[]))).2)
 if(0:Int)<=i4/\i4<(Je w7:Int)then
 let w8:List Wk:=Kl w7 (Jg i4) ((Ji w7 (Jg i4) ([],((0,(Jd,[])),[]))).1,((r6.1,(((Ji w7 (Jg i4) ([],((0,(Jd,[])),[]))).2).1).2),((Ji w7 (Jg i4) ([],((0,(Jd,[])),[]))).2).2))
 (aM.F n (Jh.wrap (r6.1+1))).bind λr9=>
 if(0:Int)<=i4/\i4<(Je w8:Int)then
 let w10:List Wk:=Kl w8 (Jg i4) ((Ji w8 (Jg i4) ([],((0,(Jd,[])),[]))).1,(((((Ji w8 (Jg i4) ([],((0,(Jd,[])),[]))).2).1).1,(r9,((((Ji w8 (Jg i4) ([],((0,(Jd,[])),[]))).2).1).2).2)),((Ji w8 (Jg i4) ([],((0,(Jd,[])),[]))).2).2))
 if(0:Int)<=i4/\i4<(Je w10:Int)then
 (dC.F n (((((Ji w10 (Jg i4) ([],((0,(Jd,[])),[]))).2).1).2).2) (Jh.wrap ((Jh.wrap (r6.1+1))+1))).bind λr11=>
 let w12:List Wk:=Kl w10 (Jg i4) ((Ji w10 (Jg i4) ([],((0,(Jd,[])),[]))).1,(((((Ji w10 (Jg i4) ([],((0,(Jd,[])),[]))).2).1).1,(((((Ji w10 (Jg i4) ([],((0,(Jd,[])),[]))).2).1).2).1,r11.2)),((Ji w10 (Jg i4) ([],((0,(Jd,[])),[]))).2).2))
 if(0:Int)<=i4/\i4<(Je w12:Int)then
 (fZ.F n (((Ji w12 (Jg i4) ([],((0,(Jd,[])),[]))).2).2) r11.1).bind λr13=>
 let w14:List Wk:=Kl w12 (Jg i4) ((Ji w12 (Jg i4) ([],((0,(Jd,[])),[]))).1,(((Ji w12 (Jg i4) ([],((0,(Jd,[])),[]))).2).1,r13.2))
 l0 n K0 k r13.1 (Jh.wrap (i4+1)) w14
 else
 none
 else
 none
 else
 none
 else
 none
 else
 none
 else
 K0 k3 a5
def F (n:Nat)(a1:Wh)(k2:Int):Option Wg:=
 l0 n (λk15 a16=>
 some (k15,a16)) n k2 0 a1
def code:=Tryz.f81.body.getD .skip
abbrev ash:List ASh:=[.ms Qe QH,.ro QA]
abbrev rsh:List RSh:=[.ro QA,.out Qe]
def b0:=Jn (Jn (Jl (Jn (Jl code))))
abbrev sh0:ES:=⟨[(0,.al 0 []),(1,.v QA),(5,.v QA)],[⟨0,.sl Qf,.own QJ,false,true,none⟩]⟩
abbrev sh0_0:ES:=⟨[(0,.al 0 []),(1,.v QA)],[⟨0,.sl Qf,.own QJ,false,true,none⟩]⟩
def g0:GL rsh sh0:=λn m x kn kx=>l0 n (λy0 y1=>kx 0 (sh0_0.enc (((()),y0,()),(y1,())))) m x.1.2.1 x.1.2.2.1 x.2.1
def B:Bd:=⟨ash,rsh,[gf.E,fZ.E,aM.E,dC.E],⟨code,52,.nil,[(.tmp 4,.int .i64,.ro)]⟩,[⟨0,sh0,g0⟩]⟩
theorem u0:UO B 0 (.loop b0):=
 lu (.seq Vi (.seq (.block (some [0,1,5]) (.seq .nil W8)) .nil)) [(0,[0,1])] [0,1,5] sh0 g0 mn
def E:En:=⟨81,λn=>⟨B.a,B.r,λv=>F n v.1 v.2.1⟩,cG B (.seq .nil (.seq (.seq .nil (.block (some [0,1]) (.cut 0 [0,1,5]))) Vm)) Tryz.func81 (mc u0 mn)⟩
end fm
namespace ie
def F (n:Nat)(a1:Wc)(k2:Int):Option (Int×Wu×Wy×List Wk):=
 (dI.F n a1.1 k2).bind λr3=>
 (dW.F n a1.2.1 r3.1).bind λr4=>
 (fm.F n a1.2.2 r4.1).bind λr5=>
 some (r5.1,(r3.2,(r4.2,r5.2)))
def code:=Tryz.f21.body.getD .skip
abbrev ash:List ASh:=[.ms Qc QD,.ro QA]
abbrev rsh:List RSh:=[.ro QA,.out Qc]
def B:Bd:=⟨ash,rsh,[dI.E,dW.E,fm.E],⟨code,18,.nil,[(.tmp 4,.int .i64,.ro)]⟩,[]⟩
def E:En:=⟨21,λn=>⟨B.a,B.r,λv=>F n v.1 v.2.1⟩,cG B W8 Tryz.func21 mn⟩
end ie
namespace dr
def l0 (n:Nat)(a3:WL)(K0:Int->Option Int):Nat->Int->Int->Option Int
 |0,_,_=>none
 |k+1,k4,i5=>
 if decide (i5<(Je a3:Int))=true then
 if(0:Int)<=i5/\i5<(Je a3:Int)then
 (aM.F n k4).bind λr6=>
 if(!(JL (Ji a3 (Jg i5) Jd) r6))=true then
 some (-1)
 else
 l0 n a3 K0 k (Jh.wrap (k4+1)) (Jh.wrap (i5+1))
 else
 none
 else
 K0 k4
def F (n:Nat)(a1:WL)(k2:Int):Option Int:=
 l0 n a1 (λk7=>
 some k7) n k2 0
def code:=Tryz.f158.body.getD .skip
abbrev ash:List ASh:=[.ro Qz,.ro QA]
abbrev rsh:List RSh:=[.ro QA]
def b0:=Jn (Jn (Jl (Jn (Jl code))))
abbrev sh0:ES:=⟨[(0,.v Qz),(1,.v QA),(5,.v QA)],[]⟩
abbrev sh0_0:ES:=⟨[(1,.v QA)],[]⟩
def g0:GL rsh sh0:=λn m x kn kx=>l0 n x.1.1 (λy0=>kx 0 (sh0_0.enc ((y0,()),(())))) m x.1.2.1 x.1.2.2.1
def B:Bd:=⟨ash,rsh,[aM.E],⟨code,22,.nil,[(.tmp 4,.int .i64,.ro)]⟩,[⟨0,sh0,g0⟩]⟩
theorem u0:UO B 0 (.loop b0):=
 lu (.seq Vi (.seq (.block (some [0,1,5]) Vc) .nil)) [(0,[1])] [0,1,5] sh0 g0 mn
def E:En:=⟨158,λn=>⟨B.a,B.r,λv=>F n v.1 v.2.1⟩,cG B (.seq .nil (.seq (.seq .nil (.block (some [1]) (.cut 0 [0,1,5]))) Vm)) Tryz.func158 (mc u0 mn)⟩
end dr
namespace fY
def l0 (n:Nat)(a3:WE)(K0:Int->Option Int):Nat->Int->Int->Option Int
 |0,_,_=>none
 |k+1,k4,i5=>
 if decide (i5<(Je a3:Int))=true then
 if(0:Int)<=i5/\i5<(Je a3:Int)then
 (aM.F n k4).bind λr6=>
 if(!(JL ((Ji a3 (Jg i5) (Jd,[])).1) r6))=true then
 some (-1)
 else
 if(0:Int)<=i5/\i5<(Je a3:Int)then
 (dr.F n ((Ji a3 (Jg i5) (Jd,[])).2) (Jh.wrap (k4+1))).bind λr7=>
 if decide (r7<0)=true then
 some (-1)
 else
 l0 n a3 K0 k r7 (Jh.wrap (i5+1))
 else
 none
 else
 none
 else
 K0 k4
def F (n:Nat)(a1:WE)(k2:Int):Option Int:=
 l0 n a1 (λk8=>
 some k8) n k2 0
def code:=Tryz.f157.body.getD .skip
abbrev ash:List ASh:=[.ro Qv,.ro QA]
abbrev rsh:List RSh:=[.ro QA]
def b0:=Jn (Jn (Jl (Jn (Jl code))))
abbrev sh0:ES:=⟨[(0,.v Qv),(1,.v QA),(5,.v QA)],[]⟩
abbrev sh0_0:ES:=⟨[(1,.v QA)],[]⟩
def g0:GL rsh sh0:=λn m x kn kx=>l0 n x.1.1 (λy0=>kx 0 (sh0_0.enc ((y0,()),(())))) m x.1.2.1 x.1.2.2.1
def B:Bd:=⟨ash,rsh,[aM.E,dr.E],⟨code,32,.nil,[(.tmp 4,.int .i64,.ro)]⟩,[⟨0,sh0,g0⟩]⟩
theorem u0:UO B 0 (.loop b0):=
 lu (.seq Vi (.seq (.block (some [0,1,5]) WV) .nil)) [(0,[1])] [0,1,5] sh0 g0 mn
def E:En:=⟨157,λn=>⟨B.a,B.r,λv=>F n v.1 v.2.1⟩,cG B (.seq .nil (.seq (.seq .nil (.block (some [1]) (.cut 0 [0,1,5]))) Vm)) Tryz.func157 (mc u0 mn)⟩
end fY
namespace dJ
def l0 (n:Nat)(a3:Wu)(K0:Int->Option Int):Nat->Int->Int->Option Int
 |0,_,_=>none
 |k+1,k4,i5=>
 if decide (i5<(Je a3:Int))=true then
 if(0:Int)<=i5/\i5<(Je a3:Int)then
 (aM.F n k4).bind λr6=>
 if(!(JL ((Ji a3 (Jg i5) (Jd,[])).1) r6))=true then
 some (-1)
 else
 if(0:Int)<=i5/\i5<(Je a3:Int)then
 (fY.F n ((Ji a3 (Jg i5) (Jd,[])).2) (Jh.wrap (k4+1))).bind λr7=>
 if decide (r7<0)=true then
 some (-1)
 else
 l0 n a3 K0 k r7 (Jh.wrap (i5+1))
 else
 none
 else
 none
 else
 K0 k4
def F (n:Nat)(a1:Wu)(k2:Int):Option Int:=
 l0 n a1 (λk8=>
 some k8) n k2 0
def code:=Tryz.f82.body.getD .skip
abbrev ash:List ASh:=[.ro Qj,.ro QA]
abbrev rsh:List RSh:=[.ro QA]
def b0:=Jn (Jn (Jl (Jn (Jl code))))
abbrev sh0:ES:=⟨[(0,.v Qj),(1,.v QA),(5,.v QA)],[]⟩
abbrev sh0_0:ES:=⟨[(1,.v QA)],[]⟩
def g0:GL rsh sh0:=λn m x kn kx=>l0 n x.1.1 (λy0=>kx 0 (sh0_0.enc ((y0,()),(())))) m x.1.2.1 x.1.2.2.1
def B:Bd:=⟨ash,rsh,[aM.E,fY.E],⟨code,32,.nil,[(.tmp 4,.int .i64,.ro)]⟩,[⟨0,sh0,g0⟩]⟩
theorem u0:UO B 0 (.loop b0):=
 lu (.seq Vi (.seq (.block (some [0,1,5]) WV) .nil)) [(0,[1])] [0,1,5] sh0 g0 mn
def E:En:=⟨82,λn=>⟨B.a,B.r,λv=>F n v.1 v.2.1⟩,cG B (.seq .nil (.seq (.seq .nil (.block (some [1]) (.cut 0 [0,1,5]))) Vm)) Tryz.func82 (mc u0 mn)⟩
end dJ
namespace dZ
def l0 (n:Nat)(a3:Wy)(K0:Int->Option Int):Nat->Int->Int->Option Int
 |0,_,_=>none
 |k+1,k4,i5=>
 if decide (i5<(Je a3:Int))=true then
 if(0:Int)<=i5/\i5<(Je a3:Int)then
 (aM.F n k4).bind λr6=>
 if(!(JL ((Ji a3 (Jg i5) (Jd,([],0))).1) r6))=true then
 some (-1)
 else
 if(0:Int)<=i5/\i5<(Je a3:Int)then
 (dr.F n (((Ji a3 (Jg i5) (Jd,([],0))).2).1) (Jh.wrap (k4+1))).bind λr7=>
 if decide (r7<0)=true then
 some (-1)
 else
 if(0:Int)<=i5/\i5<(Je a3:Int)then
 if(!decide ((((Ji a3 (Jg i5) (Jd,([],0))).2).2)=r7))=true then
 some (-1)
 else
 l0 n a3 K0 k (Jh.wrap (r7+1)) (Jh.wrap (i5+1))
 else
 none
 else
 none
 else
 none
 else
 K0 k4
def F (n:Nat)(a1:Wy)(k2:Int):Option Int:=
 l0 n a1 (λk8=>
 some k8) n k2 0
def code:=Tryz.f83.body.getD .skip
abbrev ash:List ASh:=[.ro Qm,.ro QA]
abbrev rsh:List RSh:=[.ro QA]
def b0:=Jn (Jn (Jl (Jn (Jl code))))
abbrev sh0:ES:=⟨[(0,.v Qm),(1,.v QA),(5,.v QA)],[]⟩
abbrev sh0_0:ES:=⟨[(1,.v QA)],[]⟩
def g0:GL rsh sh0:=λn m x kn kx=>l0 n x.1.1 (λy0=>kx 0 (sh0_0.enc ((y0,()),(())))) m x.1.2.1 x.1.2.2.1
def B:Bd:=⟨ash,rsh,[aM.E,dr.E],⟨code,41,.nil,[(.tmp 4,.int .i64,.ro)]⟩,[⟨0,sh0,g0⟩]⟩
theorem u0:UO B 0 (.loop b0):=
 lu (.seq Vi (.seq (.block (some [0,1,5]) (.seq Vf (.seq .nil (.seq .nil (.seq Vf Vc))))) .nil)) [(0,[1])] [0,1,5] sh0 g0 mn
def E:En:=⟨83,λn=>⟨B.a,B.r,λv=>F n v.1 v.2.1⟩,cG B (.seq .nil (.seq (.seq .nil (.block (some [1]) (.cut 0 [0,1,5]))) Vm)) Tryz.func83 (mc u0 mn)⟩
end dZ
namespace fo
def l0 (n:Nat)(a3:Wh)(K0:Int->Option Int):Nat->Int->Int->Option Int
 |0,_,_=>none
 |k+1,k4,i5=>
 if decide (i5<(Je a3:Int))=true then
 if(0:Int)<=i5/\i5<(Je a3:Int)then
 (fX.F n ((Ji a3 (Jg i5) ([],((0,(Jd,[])),[]))).1) k4).bind λr6=>
 if decide (r6<0)=true then
 some (-1)
 else
 if(0:Int)<=i5/\i5<(Je a3:Int)then
 if(!decide (((((Ji a3 (Jg i5) ([],((0,(Jd,[])),[]))).2).1).1)=r6))=true then
 some (-1)
 else
 if(0:Int)<=i5/\i5<(Je a3:Int)then
 (aM.F n (Jh.wrap (r6+1))).bind λr7=>
 if(!(JL (((((Ji a3 (Jg i5) ([],((0,(Jd,[])),[]))).2).1).2).1) r7))=true then
 some (-1)
 else
 if(0:Int)<=i5/\i5<(Je a3:Int)then
 (dD.F n (((((Ji a3 (Jg i5) ([],((0,(Jd,[])),[]))).2).1).2).2) (Jh.wrap ((Jh.wrap (r6+1))+1))).bind λr8=>
 if decide (r8<0)=true then
 some (-1)
 else
 if(0:Int)<=i5/\i5<(Je a3:Int)then
 (gb.F n (((Ji a3 (Jg i5) ([],((0,(Jd,[])),[]))).2).2) r8).bind λr9=>
 if decide (r9<0)=true then
 some (-1)
 else
 l0 n a3 K0 k r9 (Jh.wrap (i5+1))
 else
 none
 else
 none
 else
 none
 else
 none
 else
 none
 else
 K0 k4
def F (n:Nat)(a1:Wh)(k2:Int):Option Int:=
 l0 n a1 (λk10=>
 some k10) n k2 0
def code:=Tryz.f84.body.getD .skip
abbrev ash:List ASh:=[.ro Qe,.ro QA]
abbrev rsh:List RSh:=[.ro QA]
def b0:=Jn (Jn (Jl (Jn (Jl code))))
abbrev sh0:ES:=⟨[(0,.v Qe),(1,.v QA),(5,.v QA)],[]⟩
abbrev sh0_0:ES:=⟨[(1,.v QA)],[]⟩
def g0:GL rsh sh0:=λn m x kn kx=>l0 n x.1.1 (λy0=>kx 0 (sh0_0.enc ((y0,()),(())))) m x.1.2.1 x.1.2.2.1
def B:Bd:=⟨ash,rsh,[fX.E,gb.E,aM.E,dD.E],⟨code,62,.nil,[(.tmp 4,.int .i64,.ro)]⟩,[⟨0,sh0,g0⟩]⟩
theorem u0:UO B 0 (.loop b0):=
 lu (.seq Vi (.seq (.block (some [0,1,5]) (.seq .nil (.seq Vf (.seq Vf (.seq .nil (.seq Vf (.seq .nil (.seq .nil (.seq Vf Vb))))))))) .nil)) [(0,[1])] [0,1,5] sh0 g0 mn
def E:En:=⟨84,λn=>⟨B.a,B.r,λv=>F n v.1 v.2.1⟩,cG B (.seq .nil (.seq (.seq .nil (.block (some [1]) (.cut 0 [0,1,5]))) Vm)) Tryz.func84 (mc u0 mn)⟩
end fo
namespace ic
def F (n:Nat)(a1:Wc)(k2:Int):Option Int:=
 (dJ.F n a1.1 k2).bind λr3=>
 if decide (r3<0)=true then
 some (-1)
 else
 (dZ.F n a1.2.1 r3).bind λr4=>
 if decide (r4<0)=true then
 some (-1)
 else
 (fo.F n a1.2.2 r4).bind λr5=>
 if decide (r5<0)=true then
 some (-1)
 else
 some r5
def code:=Tryz.f22.body.getD .skip
abbrev ash:List ASh:=[.ro Qc,.ro QA]
abbrev rsh:List RSh:=[.ro QA]
def B:Bd:=⟨ash,rsh,[dJ.E,dZ.E,fo.E],⟨code,24,.nil,[(.tmp 4,.int .i64,.ro)]⟩,[]⟩
def E:En:=⟨22,λn=>⟨B.a,B.r,λv=>F n v.1 v.2.1⟩,cG B WO Tryz.func22 mn⟩
end ic
namespace iE
def l0 (n:Nat)(name3:ByteArray)(p5:Wc)(K0:Unit->Option Int):Nat->Int->Option Int
 |0,_=>none
 |k+1,i4=>
 if decide (i4<(Je p5.2.1:Int))=true then
 if(0:Int)<=i4/\i4<(Je p5.2.1:Int)then
 if(JL ((Ji p5.2.1 (Jg i4) (Jd,([],0))).1) name3)=true then
 some i4
 else
 l0 n name3 p5 K0 k (Jh.wrap (i4+1))
 else
 none
 else
 K0 ()
def F (n:Nat)(p1:Wc)(name2:ByteArray):Option Int:=
 l0 n name2 p1 (λ_=>
 some (-1)) n 0
def code:=Tryz.f63.body.getD .skip
abbrev ash:List ASh:=[.ro Qc,.ro .str]
abbrev rsh:List RSh:=[.ro QA]
def b0:=Jn (Jn (Jl (Jn (Jl code))))
abbrev sh0:ES:=⟨[(1,.v .str),(2,.pt 2 []),(5,.v QA)],[⟨2,.st Qd,.ro,true,false,none⟩]⟩
abbrev sh0_0:ES:=⟨[],[]⟩
def g0:GL rsh sh0:=λn m x kn kx=>l0 n x.1.1 x.2.1 (λ_=>kx 0 (sh0_0.enc ((()),(())))) m x.1.2.2.1
def B:Bd:=⟨ash,rsh,[],⟨code,22,.nil,[(.tmp 4,.int .i64,.ro)]⟩,[⟨0,sh0,g0⟩]⟩
theorem u0:UO B 0 (.loop b0):=
 lu (.seq Vi (.seq (.block (some [1,2,5]) Vf) .nil)) [(0,[])] [1,2,5] sh0 g0 mn
def E:En:=⟨63,λn=>⟨B.a,B.r,λv=>F n v.1 v.2.1⟩,cG B (.seq .nil (.seq (.seq .nil (.block (some []) (.cut 0 [1,2,5]))) Vm)) Tryz.func63 (mc u0 mn)⟩
end iE
namespace bB
def l2 (n:Nat)(t17:ByteArray)(t18:ByteArray)(t20:Wc)(t21:Wc)(K1:Wc->Option Wa):Nat->Int->Wc->Option Wa
 |0,_,_=>none
 |k+1,t19,t22=>
 if decide (t19<(Je t22.2.1:Int))=true then
 if(0:Int)<=t19/\t19<(Je t22.2.1:Int)then
 if(JL ((Ji t22.2.1 (Jg t19) (Jd,([],0))).1) t17)=true then
 if(0:Int)<=t19/\t19<(Je t22.2.1:Int)then
 let w23:List WC:=Kl t22.2.1 (Jg t19) (t18,(Ji t22.2.1 (Jg t19) (Jd,([],0))).2)
 l2 n t17 t18 t20 t21 K1 k (Jh.wrap (t19+1)) (t22.1,(w23,t22.2.2))
 else
 none
 else
 l2 n t17 t18 t20 t21 K1 k (Jh.wrap (t19+1)) t22
 else
 none
 else
 K1 t22
def l5 (n:Nat)(t39:ByteArray)(t40:ByteArray)(t41:Int)(t43:Wc)(t44:Wc)(t45:Wc)(K5:Wk->Option Wa):Nat->Int->Wk->Option Wa
 |0,_,_=>none
 |k+1,t42,t46=>
 if decide (t42<(Je t46.2.2:Int))=true then
 if(0:Int)<=t42/\t42<(Je t46.2.2:Int)then
 if(!decide (((Ji t46.2.2 (Jg t42) (0,(Jd,[]))).1)=3))=true then
 if(0:Int)<=t42/\t42<(Je t46.2.2:Int)then
 if(JL (((Ji t46.2.2 (Jg t42) (0,(Jd,[]))).2).1) t39)=true then
 if(0:Int)<=t42/\t42<(Je t46.2.2:Int)then
 let w47:List WG:=Kl t46.2.2 (Jg t42) ((Ji t46.2.2 (Jg t42) (0,(Jd,[]))).1,(t40,((Ji t46.2.2 (Jg t42) (0,(Jd,[]))).2).2))
 l5 n t39 t40 t41 t43 t44 t45 K5 k (Jh.wrap (t42+1)) (t46.1,(t46.2.1,w47))
 else
 none
 else
 l5 n t39 t40 t41 t43 t44 t45 K5 k (Jh.wrap (t42+1)) t46
 else
 none
 else
 l5 n t39 t40 t41 t43 t44 t45 K5 k (Jh.wrap (t42+1)) t46
 else
 none
 else
 K5 t46
def j4 (n:Nat)(t32:ByteArray)(t33:ByteArray)(t34:Int)(t35:Wc)(t36:Wc)(t37:Wc)(t38:Wk)(Kn:Wc->Option Wa):Option Wa:=
 l5 n t32 t33 t34 t35 t36 t37 (λt48=>
 if Je t37.2.2+Je [t48]<=aU then
 Kn (t37.1,(t37.2.1,t37.2.2++[t48]))
 else
 none) n 0 t38
def l3 (n:Nat)(t25:ByteArray)(t26:ByteArray)(t28:Wc)(t29:Wc)(K3:Wc->Option Wa):Nat->Int->Wc->Option Wa
 |0,_,_=>none
 |k+1,t27,t30=>
 if decide (t27<(Je t28.2.2:Int))=true then
 if(0:Int)<=t27/\t27<(Je t28.2.2:Int)then
 (dU.F n (Ji t28.2.2 (Jg t27) ([],((0,(Jd,[])),[])))).bind λr31=>
 if(JL r31.2.1.2.1 t25)=true then
 j4 n t25 t26 t27 t28 t29 t30 (r31.1,((r31.2.1.1,(t26,r31.2.1.2.2)),r31.2.2)) (λt49=>
 l3 n t25 t26 t28 t29 K3 k (Jh.wrap (t27+1)) t49)
 else
 j4 n t25 t26 t27 t28 t29 t30 r31 (λt50=>
 l3 n t25 t26 t28 t29 K3 k (Jh.wrap (t27+1)) t50)
 else
 none
 else
 K3 t30
def j1 (n:Nat)(t12:ByteArray)(t13:ByteArray)(t14:Wc)(t15:Wc):Option Wa:=
 (cS.F n t14).bind λr16=>
 l2 n t12 t13 t14 t15 (λt24=>
 l3 n t12 t13 t14 t15 (λt51=>
 (fl.F n t51).bind λr52=>
 if(!r52)=true then
 some (([],([],[])),false)
 else
 some (t51,true)) n 0 t24) n 0 r16
def j0 (n:Nat)(t8:ByteArray)(t9:ByteArray)(t10:Wc)(t11:Wc):Option Wa:=
 if(JL t9 ⟨#[116,121,112,101]⟩)=true then
 if(JL t9 ⟨#[116,121,112,101]⟩)=true then
 some (([],([],[])),false)
 else
 j1 n t8 t9 t10 t11
 else
 if(JL t9 ⟨#[114,101,108]⟩)=true then
 if(JL t9 ⟨#[114,101,108]⟩)=true then
 some (([],([],[])),false)
 else
 j1 n t8 t9 t10 t11
 else
 if(JL t9 ⟨#[110,117,109,98,101,114]⟩)=true then
 if(JL t9 ⟨#[110,117,109,98,101,114]⟩)=true then
 some (([],([],[])),false)
 else
 j1 n t8 t9 t10 t11
 else
 if(JL t9 ⟨#[115,121,109,98,111,108]⟩)=true then
 if(JL t9 ⟨#[115,121,109,98,111,108]⟩)=true then
 some (([],([],[])),false)
 else
 j1 n t8 t9 t10 t11
 else
 if(JL t9 ⟨#[105,110,112,117,116]⟩)=true then
 if(JL t9 ⟨#[105,110,112,117,116]⟩)=true then
 some (([],([],[])),false)
 else
 j1 n t8 t9 t10 t11
 else
 if(JL t9 ⟨#[111,117,116,112,117,116]⟩)=true then
 if(JL t9 ⟨#[111,117,116,112,117,116]⟩)=true then
 some (([],([],[])),false)
 else
 j1 n t8 t9 t10 t11
 else
 if(JL t9 ⟨#[105,110,108,105,110,101]⟩)=true then
 some (([],([],[])),false)
 else
 j1 n t8 t9 t10 t11
def F (n:Nat)(t1:Wc)(t2:ByteArray)(t3:ByteArray):Option Wa:=
 (fl.F n t1).bind λr4=>
 if(!r4)=false then
 (iE.F n t1 t2).bind λr5=>
 if(decide (r5<0))=false then
 (iE.F n t1 t3).bind λr6=>
 if(decide (r6>=0))=false then
 (cN.F n t3 false).bind λr7=>
 if(!r7)=true then
 some (([],([],[])),false)
 else
 j0 n t2 t3 t1 ([],([],[]))
 else
 some (([],([],[])),false)
 else
 some (([],([],[])),false)
 else
 some (([],([],[])),false)
def code:=Tryz.f17.body.getD .skip
abbrev ash:List ASh:=[.ro Qc,.ro .str,.ro .str]
abbrev rsh:List RSh:=[.ro Qc,.ro .bool]
def c0:=Jl (Jl code)
def c1:=Jl c0
def b2:=Jn (Jn (Jl (Jn (Jl c1))))
def b3:=Jn (Jn (Jl (Jn (Jl (Jl c1)))))
def c4:=Jl (Jl (Jn (Jn (Jl b3))))
def b5:=Jn (Jn (Jl (Jn c4)))
abbrev sh2:ES:=⟨[(1,.v .str),(2,.v .str),(3,.pt 3 []),(6,.pt 6 []),(8,.pt 8 []),(9,.v QA)],[⟨3,.st Qd,.ro,true,false,none⟩,⟨6,.st Qd,.ro,true,false,none⟩,⟨8,.st Qd,.pr QZ QO,true,false,none⟩]⟩
abbrev sh2_1:ES:=⟨[(1,.v .str),(2,.v .str),(3,.pt 3 []),(6,.pt 6 []),(8,.pt 8 [])],[⟨3,.st Qd,.ro,true,false,none⟩,⟨6,.st Qd,.ro,true,false,none⟩,⟨8,.st Qd,.pr QZ QO,true,false,none⟩]⟩
abbrev sh5:ES:=⟨[(1,.v .str),(2,.v .str),(3,.pt 3 []),(6,.pt 6 []),(8,.pt 8 []),(10,.v QA),(11,.pt 11 []),(12,.v QA)],[⟨3,.st Qd,.ro,true,false,none⟩,⟨6,.st Qd,.ro,true,false,none⟩,⟨8,.st Qd,.pr QZ QO,true,false,none⟩,⟨11,.st Qg,.pr QQ QN,true,false,none⟩]⟩
abbrev sh5_5:ES:=⟨[(1,.v .str),(2,.v .str),(3,.pt 3 []),(6,.pt 6 []),(8,.pt 8 []),(10,.v QA),(11,.pt 11 [])],[⟨3,.st Qd,.ro,true,false,none⟩,⟨6,.st Qd,.ro,true,false,none⟩,⟨8,.st Qd,.pr QZ QO,true,false,none⟩,⟨11,.st Qg,.pr QQ QN,true,false,none⟩]⟩
abbrev sh4_n:ES:=⟨[(1,.v .str),(2,.v .str),(3,.pt 3 []),(6,.pt 6 []),(8,.pt 8 []),(10,.v QA)],[⟨3,.st Qd,.ro,true,false,none⟩,⟨6,.st Qd,.ro,true,false,none⟩,⟨8,.st Qd,.pr QZ QO,true,false,none⟩]⟩
abbrev sh3_3:ES:=⟨[(6,.pt 6 []),(8,.pt 8 [])],[⟨6,.st Qd,.ro,true,false,none⟩,⟨8,.st Qd,.pr QZ QO,true,false,none⟩]⟩
abbrev sh1:ES:=⟨[(1,.v .str),(2,.v .str),(3,.pt 3 []),(6,.pt 6 [])],[⟨3,.st Qd,.ro,true,false,none⟩,⟨6,.st Qd,.ro,true,false,none⟩]⟩
def g2:GL rsh sh2:=λn m x kn kx=>l2 n x.1.1 x.1.2.1 x.2.1 x.2.2.1 (λy0=>kx 1 (sh2_1.enc ((x.1.1,x.1.2.1,(()),(()),(()),()),(x.2.1,x.2.2.1,y0,())))) m x.1.2.2.2.2.2.1 x.2.2.2.1
def g5:GL rsh sh5:=λn m x kn kx=>l5 n x.1.1 x.1.2.1 x.1.2.2.2.2.2.1 x.2.1 x.2.2.1 x.2.2.2.1 (λy0=>kx 5 (sh5_5.enc ((x.1.1,x.1.2.1,(()),(()),(()),x.1.2.2.2.2.2.1,(()),()),(x.2.1,x.2.2.1,x.2.2.2.1,y0,())))) m x.1.2.2.2.2.2.2.2.1 x.2.2.2.2.1
def g4:GL rsh sh5_5:=λn m x kn kx=>j4 n x.1.1 x.1.2.1 x.1.2.2.2.2.2.1 x.2.1 x.2.2.1 x.2.2.2.1 x.2.2.2.2.1 (λy0=>kn (sh4_n.enc ((x.1.1,x.1.2.1,(()),(()),(()),x.1.2.2.2.2.2.1,()),(x.2.1,x.2.2.1,y0,()))))
def g3:GL rsh sh4_n:=λn m x kn kx=>l3 n x.1.1 x.1.2.1 x.2.1 x.2.2.1 (λy0=>kx 3 (sh3_3.enc (((()),(()),()),(x.2.2.1,y0,())))) m x.1.2.2.2.2.2.1 x.2.2.2.1
def g1:GL rsh sh1:=λn m x kn kx=>j1 n x.1.1 x.1.2.1 x.2.1 x.2.2.1
def g0:GL rsh sh1:=λn m x kn kx=>j0 n x.1.1 x.1.2.1 x.2.1 x.2.2.1
def B:Bd:=⟨ash,rsh,[fl.E,iE.E,cN.E,cS.E,dU.E],⟨code,129,.nil,[(.cell 6 53,.st Qd,.ro),(.tmp 7,.bool,.ro)]⟩,[⟨2,sh2,g2⟩,⟨5,sh5,g5⟩,⟨4,sh5_5,g4⟩,⟨3,sh4_n,g3⟩,⟨1,sh1,g1⟩,⟨0,sh1,g0⟩]⟩
theorem u2:UO B 2 (.loop b2):=
 lu (.seq Vi (.seq (.block (some [1,2,3,6,8,9]) Vi) .nil)) [(1,[1,2,3,6,8])] [1,2,3,6,8,9] sh2 g2 mn
theorem u5:UO B 5 (.loop b5):=
 lu (.seq Vi (.seq (.block (some [1,2,3,6,8,10,11,12]) Vi) .nil)) [(3,[6,8]),(4,[1,2,3,6,8,10]),(5,[1,2,3,6,8,10,11])] [1,2,3,6,8,10,11,12] sh5 g5 mn
theorem u4:UO B 4 c4:=
 ju (.seq (.seq .nil (.block (some [1,2,3,6,8,10,11]) (.cut 5 [1,2,3,6,8,10,11,12]))) (.reg [(120,.ro)])) [(3,[6,8]),(4,[1,2,3,6,8,10])] [1,2,3,6,8,10] sh5_5 g4 (mc u5 mn)
theorem u3:UO B 3 (.loop b3):=
 lu (.seq Vi (.seq (.block (some [1,2,3,6,8,10]) (.seq (.reg [(79,.pr QQ QN),(11,.pr .ro QX)]) (.seq Vi (.cut 4 [1,2,3,6,8,10,11])))) .nil)) [(3,[6,8])] [1,2,3,6,8,10] sh4_n g3 (mc u4 mn)
theorem u1:UO B 1 c1:=
 ju (.seq (.reg [(45,.pr QZ QO),(8,.pr .ro QY)]) (.seq (.seq .nil (.block (some [1,2,3,6,8]) (.cut 2 [1,2,3,6,8,9]))) (.seq (.seq .nil (.block (some [6,8]) (.cut 3 [1,2,3,6,8,10]))) (.seq Vf (.seq (.reg [(128,.ro)]) .nil))))) [] [6,7] sh1 g1 (mc u2 (mc u3 mn))
theorem u0:UO B 0 c0:=
 ju (.seq (.seq .nil (.block (some [1,2,3,6]) (.seq WR Vj))) (.cut 1 [1,2,3,6])) [] [6,7] sh1 g0 (mc u1 mn)
def E:En:=⟨17,λn=>⟨B.a,B.r,λv=>F n v.1 v.2.1 v.2.2.1⟩,cG B (.seq .nil (.seq Vf (.cut 0 [1,2,3,6]))) Tryz.func17 (mc u0 mn)⟩
end bB
namespace bX
def l0 (n:Nat)(s3:Wy)(f4:(WC×Unit)->Option Bool)(t5:Int)(K0:Unit->Option Int):Nat->Int->Option Int
 |0,_=>none
 |k+1,t6=>
 if decide (t6<t5)=true then
 if(0:Int)<=t6/\t6<(Je s3:Int)then
 (f4 (Ji s3 (Jg t6) (Jd,([],0)),())).bind λr7=>
 if r7=true then
 some t6
 else
 l0 n s3 f4 t5 K0 k (Jh.wrap (t6+1))
 else
 none
 else
 K0 ()
def F (n:Nat)(s1:Wy)(f2:(WC×Unit)->Option Bool):Option Int:=
 l0 n s1 f2 (Je s1:Int) (λ_=>
 some (-1)) n 0
def code:=Tryz.f150.body.getD .skip
abbrev ash:List ASh:=[.ro Qm,.fn [.st Qt] .bool]
abbrev rsh:List RSh:=[.ro QA]
def b0:=Jn (Jn (Jl (Jn (Jl code))))
abbrev sh0:ES:=⟨[(0,.v Qm),(1,.clo [.st Qt] .bool),(7,.v QA),(8,.v QA)],[]⟩
abbrev sh0_0:ES:=⟨[],[]⟩
def g0:GL rsh sh0:=λn m x kn kx=>l0 n x.1.1 x.1.2.1 x.1.2.2.1 (λ_=>kx 0 (sh0_0.enc ((()),(())))) m x.1.2.2.2.1
def B:Bd:=⟨ash,rsh,[],⟨code,19,.nil,[(.tmp 4,.int .i64,.ro)]⟩,[⟨0,sh0,g0⟩]⟩
theorem u0:UO B 0 (.loop b0):=
 lu (.seq .nil (.seq Vl (.seq (.block (some [0,1,7,8]) Vb) .nil))) [(0,[])] [0,1,7,8] sh0 g0 mn
def E:En:=⟨150,λn=>⟨B.a,B.r,λv=>F n v.1 v.2.1⟩,cG B (.seq .nil (.seq (.seq .nil (.block (some []) (.cut 0 [0,1,7,8]))) Vm)) Tryz.func150 (mc u0 mn)⟩
end bX
namespace fQ
def F (n:Nat)(r1:WC)(t2:ByteArray):Option Bool:=
 some (JL r1.1 t2)
def code:=Tryz.f151.body.getD .skip
abbrev ash:List ASh:=[.ro Qq,.rp .str]
abbrev rsh:List RSh:=[.ro .bool]
def B:Bd:=⟨ash,rsh,[],⟨code,8,.nil,[(.tmp 3,.bool,.ro)]⟩,[]⟩
def E:En:=⟨151,λn=>⟨B.a,B.r,λv=>F n v.1 v.2.1⟩,cG B Vk Tryz.func151 mn⟩
end fQ
namespace fD
def F (n:Nat)(p1:Wc)(name2:ByteArray):Option Int:=
 (bX.F n p1.2.1 (λa3=>(fQ.F n a3.1 name2).bind some)).bind λr4=>
 some r4
def code:=Tryz.f71.body.getD .skip
abbrev ash:List ASh:=[.ro Qc,.ro .str]
abbrev rsh:List RSh:=[.ro QA]
def B:Bd:=⟨ash,rsh,[bX.E,fQ.E],⟨code,9,.nil,[(.tmp 4,.int .i64,.ro)]⟩,[]⟩
def E:En:=⟨71,λn=>⟨B.a,B.r,λv=>F n v.1 v.2.1⟩,cG B Vk Tryz.func71 mn⟩
end fD
namespace gw
def F (n:Nat)(s1:ByteArray):Option Bool:=
 (dX.F n (Jf s1:Int) 1 20).bind λr2=>
 if r2=true then
 (ci.F n s1).bind λr3=>
 if(decide (r3=(Jf s1:Int)))=true then
 if(0:Int)<=0/\0<(Jf s1:Int)then
 some (decide ((aO s1 0)>=97))
 else
 none
 else
 some false
 else
 some false
def code:=Tryz.f72.body.getD .skip
abbrev ash:List ASh:=[.ro .str]
abbrev rsh:List RSh:=[.ro .bool]
def B:Bd:=⟨ash,rsh,[dX.E,ci.E],⟨code,18,.nil,[(.tmp 2,.bool,.ro)]⟩,[]⟩
def E:En:=⟨72,λn=>⟨B.a,B.r,λv=>F n v.1⟩,cG B Vk Tryz.func72 mn⟩
end gw
namespace eu
def F (n:Nat)(name1:ByteArray)(t2:ByteArray)(t3:ByteArray):Option ByteArray:=
 if(JL name1 t2)=true then
 some t3
 else
 some name1
def code:=Tryz.f75.body.getD .skip
abbrev ash:List ASh:=[.mp .str .ro,.rp .str,.rp .str]
abbrev rsh:List RSh:=[.out .str]
def B:Bd:=⟨ash,rsh,[],⟨code,12,.nil,[]⟩,[]⟩
def E:En:=⟨75,λn=>⟨B.a,B.r,λv=>F n v.1 v.2.1 v.2.2.1⟩,cG B Vi Tryz.func75 mn⟩
end eu
namespace bM
def l1 (n:Nat)(t14:Int)(t16:ByteArray)(t17:ByteArray)(t18:Wc)(K0:Wc->Option Wa):Nat->Int->Wc->Option Wa
 |0,_,_=>none
 |k+1,t15,t19=>
 if decide (t15<t14)=true then
 if(0:Int)<=t15/\t15<(Je t19.2.1:Int)then
 (eu.F n ((Ji t19.2.1 (Jg t15) (Jd,([],0))).1) t16 t17).bind λr20=>
 let w21:List WC:=Kl t19.2.1 (Jg t15) (r20,(Ji t19.2.1 (Jg t15) (Jd,([],0))).2)
 l1 n t14 t16 t17 t18 K0 k (Jh.wrap (t15+1)) (t19.1,(w21,t19.2.2))
 else
 none
 else
 K0 t19
def l3 (n:Nat)(t31:Int)(t32:Int)(t33:Int)(t34:Int)(t36:ByteArray)(t37:ByteArray)(t38:Wc)(K4:Wc->Option Wa):Nat->Int->Wc->Option Wa
 |0,_,_=>none
 |k+1,t35,t39=>
 if decide (t35<t34)=true then
 if(0:Int)<=t35/\t35<(Je (((Ji t39.2.2 (Jg t31) ([],((0,(Jd,[])),[]))).2).2):Int)then
 if(!decide (((Ji (((Ji t39.2.2 (Jg t31) ([],((0,(Jd,[])),[]))).2).2) (Jg t35) (0,(Jd,[]))).1)=3))=true then
 if(0:Int)<=t35/\t35<(Je (((Ji t39.2.2 (Jg t31) ([],((0,(Jd,[])),[]))).2).2):Int)then
 (eu.F n (((Ji (((Ji t39.2.2 (Jg t31) ([],((0,(Jd,[])),[]))).2).2) (Jg t35) (0,(Jd,[]))).2).1) t36 t37).bind λr40=>
 let w41:List Wk:=Kl t39.2.2 (Jg t31) ((Ji t39.2.2 (Jg t31) ([],((0,(Jd,[])),[]))).1,(((Ji t39.2.2 (Jg t31) ([],((0,(Jd,[])),[]))).2).1,Kl (((Ji t39.2.2 (Jg t31) ([],((0,(Jd,[])),[]))).2).2) (Jg t35) ((Ji (((Ji t39.2.2 (Jg t31) ([],((0,(Jd,[])),[]))).2).2) (Jg t35) (0,(Jd,[]))).1,(r40,((Ji (((Ji t39.2.2 (Jg t31) ([],((0,(Jd,[])),[]))).2).2) (Jg t35) (0,(Jd,[]))).2).2))))
 l3 n t31 t32 t33 t34 t36 t37 t38 K4 k (Jh.wrap (t35+1)) (t39.1,(t39.2.1,w41))
 else
 none
 else
 l3 n t31 t32 t33 t34 t36 t37 t38 K4 k (Jh.wrap (t35+1)) t39
 else
 none
 else
 K4 t39
def l2 (n:Nat)(t23:Int)(t25:ByteArray)(t26:ByteArray)(t27:Wc)(K2:Wc->Option Wa):Nat->Int->Wc->Option Wa
 |0,_,_=>none
 |k+1,t24,t28=>
 if decide (t24<t23)=true then
 if(0:Int)<=t24/\t24<(Je t28.2.2:Int)then
 (eu.F n (((((Ji t28.2.2 (Jg t24) ([],((0,(Jd,[])),[]))).2).1).2).1) t25 t26).bind λr29=>
 let w30:List Wk:=Kl t28.2.2 (Jg t24) ((Ji t28.2.2 (Jg t24) ([],((0,(Jd,[])),[]))).1,(((((Ji t28.2.2 (Jg t24) ([],((0,(Jd,[])),[]))).2).1).1,(r29,((((Ji t28.2.2 (Jg t24) ([],((0,(Jd,[])),[]))).2).1).2).2)),((Ji t28.2.2 (Jg t24) ([],((0,(Jd,[])),[]))).2).2))
 l3 n t24 t23 t24 (Je (((Ji w30 (Jg t24) ([],((0,(Jd,[])),[]))).2).2):Int) t25 t26 t27 (λt42=>
 l2 n t23 t25 t26 t27 K2 k (Jh.wrap (t24+1)) t42) n 0 (t28.1,(t28.2.1,w30))
 else
 none
 else
 K2 t28
def j0 (n:Nat)(t9:Wc)(t10:ByteArray)(t11:ByteArray)(t12:Wc):Option Wa:=
 (cg.F n t9).bind λr13=>
 l1 n (Je r13.2.1:Int) t10 t11 t12 (λt22=>
 l2 n (Je t22.2.2:Int) t10 t11 t12 (λt43=>
 (gV.F n t43).bind λr44=>
 if(!r44)=true then
 some (([],([],[])),false)
 else
 some (t43,true)) n 0 t22) n 0 r13
def F (n:Nat)(t1:Wc)(t2:ByteArray)(t3:ByteArray):Option Wa:=
 (gV.F n t1).bind λr4=>
 if(!r4)=false then
 (fD.F n t1 t2).bind λr5=>
 if(decide (r5<0))=false then
 (fD.F n t1 t3).bind λr6=>
 if(decide (r6>=0))=false then
 (gw.F n t3).bind λr7=>
 if(!r7)=false then
 (cU.F n ([⟨#[116,121,112,101]⟩,⟨#[114,101,108]⟩,⟨#[110,117,109,98,101,114]⟩,⟨#[115,121,109,98,111,108]⟩,⟨#[105,110,112,117,116]⟩,⟨#[111,117,116,112,117,116]⟩,⟨#[105,110,108,105,110,101]⟩]:WL) t3).bind λr8=>
 if r8=true then
 some (([],([],[])),false)
 else
 j0 n t1 t2 t3 ([],([],[]))
 else
 some (([],([],[])),false)
 else
 some (([],([],[])),false)
 else
 some (([],([],[])),false)
 else
 some (([],([],[])),false)
def code:=Tryz.f19.body.getD .skip
abbrev ash:List ASh:=[.ro Qc,.ro .str,.ro .str]
abbrev rsh:List RSh:=[.own Qc QD,.ro .bool]
def c0:=Jl (Jl (Jl code))
def b1:=Jn (Jn (Jl (Jn (Jl (Jl c0)))))
def b2:=Jn (Jn (Jl (Jn (Jl (Jl (Jl c0))))))
def b3:=Jn (Jn (Jl (Jl (Jl (Jl (Jn (Jn (Jl (Jl b2)))))))))
abbrev sh1:ES:=⟨[(4,.pt 4 []),(5,.pt 5 []),(6,.pt 6 []),(9,.pt 9 []),(10,.fv 75 [] [.pt 4,.pt 5]),(47,.v QA),(48,.v QA)],[⟨4,.str,.ro,true,false,none⟩,⟨5,.str,.ro,true,false,none⟩,⟨6,.st Qd,.pr QP QE,true,false,none⟩,⟨9,.st Qd,.pr QP QE,true,false,none⟩]⟩
abbrev sh1_0:ES:=⟨[(4,.pt 4 []),(5,.pt 5 []),(6,.pt 6 []),(9,.pt 9 []),(10,.fv 75 [] [.pt 4,.pt 5])],[⟨4,.str,.ro,true,false,none⟩,⟨5,.str,.ro,true,false,none⟩,⟨6,.st Qd,.pr QP QE,true,false,none⟩,⟨9,.st Qd,.pr QP QE,true,false,none⟩]⟩
abbrev sh3:ES:=⟨[(4,.pt 4 []),(5,.pt 5 []),(6,.pt 6 []),(9,.pt 9 []),(10,.fv 75 [] [.pt 4,.pt 5]),(13,.pt 9 [.inn,.snd,.snd,.idx]),(61,.v QA),(62,.v QA),(79,.v QA),(80,.v QA)],[⟨4,.str,.ro,true,false,none⟩,⟨5,.str,.ro,true,false,none⟩,⟨6,.st Qd,.pr QP QE,true,false,none⟩,⟨9,.st Qd,.pr QP QE,true,false,none⟩]⟩
abbrev sh3_4:ES:=⟨[(4,.pt 4 []),(5,.pt 5 []),(6,.pt 6 []),(9,.pt 9 []),(10,.fv 75 [] [.pt 4,.pt 5]),(61,.v QA),(62,.v QA)],[⟨4,.str,.ro,true,false,none⟩,⟨5,.str,.ro,true,false,none⟩,⟨6,.st Qd,.pr QP QE,true,false,none⟩,⟨9,.st Qd,.pr QP QE,true,false,none⟩]⟩
abbrev sh2_2:ES:=⟨[(6,.pt 6 []),(9,.pt 9 [])],[⟨6,.st Qd,.pr QP QE,true,false,none⟩,⟨9,.st Qd,.pr QP QE,true,false,none⟩]⟩
abbrev sh0:ES:=⟨[(3,.pt 3 []),(4,.pt 4 []),(5,.pt 5 []),(6,.pt 6 [])],[⟨3,.st Qd,.ro,true,false,none⟩,⟨4,.str,.ro,true,false,none⟩,⟨5,.str,.ro,true,false,none⟩,⟨6,.st Qd,.pr QP QE,true,false,none⟩]⟩
def g1:GL rsh sh1:=λn m x kn kx=>l1 n x.1.2.2.2.2.2.1 x.2.1 x.2.2.1 x.2.2.2.1 (λy0=>kx 0 (sh1_0.enc (((()),(()),(()),(()),((()),(())),()),(x.2.1,x.2.2.1,x.2.2.2.1,y0,())))) m x.1.2.2.2.2.2.2.1 x.2.2.2.2.1
def g3:GL rsh sh3:=λn m x kn kx=>l3 n x.1.2.2.2.2.2.1.1 x.1.2.2.2.2.2.2.1 x.1.2.2.2.2.2.2.2.1 x.1.2.2.2.2.2.2.2.2.1 x.2.1 x.2.2.1 x.2.2.2.1 (λy0=>kx 4 (sh3_4.enc (((()),(()),(()),(()),((()),(())),x.1.2.2.2.2.2.2.1,x.1.2.2.2.2.2.2.2.1,()),(x.2.1,x.2.2.1,x.2.2.2.1,y0,())))) m x.1.2.2.2.2.2.2.2.2.2.1 x.2.2.2.2.1
def g2:GL rsh sh3_4:=λn m x kn kx=>l2 n x.1.2.2.2.2.2.1 x.2.1 x.2.2.1 x.2.2.2.1 (λy0=>kx 2 (sh2_2.enc (((()),(()),()),(x.2.2.2.1,y0,())))) m x.1.2.2.2.2.2.2.1 x.2.2.2.2.1
def g0:GL rsh sh0:=λn m x kn kx=>j0 n x.2.1 x.2.2.1 x.2.2.2.1 x.2.2.2.2.1
def B:Bd:=⟨ash,rsh,[gV.E,fD.E,gw.E,cU.E,cg.E,eu.E],⟨code,108,.nil,[(.cell 6 53,.st Qd,.pr QP QE),(.tmp 7,.bool,.ro)]⟩,[⟨1,sh1,g1⟩,⟨3,sh3,g3⟩,⟨2,sh3_4,g2⟩,⟨0,sh0,g0⟩]⟩
theorem u1:UO B 1 (.loop b1):=
 lu (.seq .nil (.seq Vl (.seq (.block (some [4,5,6,9,10,47,48]) Vm) .nil))) [(0,[4,5,6,9,10])] [4,5,6,9,10,47,48] sh1 g1 mn
theorem u3:UO B 3 (.loop b3):=
 lu (.seq .nil (.seq Vl (.seq (.block (some [4,5,6,9,10,13,61,62,79,80]) Ve) .nil))) [(2,[6,9]),(3,[4,5,6,9,10,61,62]),(4,[4,5,6,9,10,61,62])] [4,5,6,9,10,13,61,62,79,80] sh3 g3 mn
theorem u2:UO B 2 (.loop b2):=
 lu (.seq .nil (.seq Vl (.seq (.block (some [4,5,6,9,10,61,62]) (.seq .nil (.seq .nil (.seq .nil (.seq .nil (.block (some [4,5,6,9,10,61,62]) (.cut 3 [4,5,6,9,10,13,61,62,79,80]))))))) .nil))) [(2,[6,9])] [4,5,6,9,10,61,62] sh3_4 g2 (mc u3 mn)
theorem u0:UO B 0 c0:=
 ju (.seq (.reg [(43,.pr QP QE),(9,.pr .ro QY)]) (.seq .nil (.seq (.seq .nil (.block (some [4,5,6,9,10]) (.cut 1 [4,5,6,9,10,47,48]))) (.seq (.seq .nil (.block (some [6,9]) (.cut 2 [4,5,6,9,10,61,62]))) (.seq (.seq .nil (.cond (.seq (.reg [(106,.pr QP QE)]) .nil) .nil)) Vm))))) [] [6,7] sh0 g0 (mc u1 (mc u2 mn))
def E:En:=⟨19,λn=>⟨B.a,B.r,λv=>F n v.1 v.2.1 v.2.2.1⟩,cG B (.seq (.reg [(6,.pr QP QE)]) (.seq .nil (.seq (.seq .nil (.cond (.seq (.reg [(41,.pr QP QE)]) .nil) .nil)) (.cut 0 [3,4,5,6])))) Tryz.func19 (mc u0 mn)⟩
end bM
namespace laws_FnExactRenameRel
def j2 (n:Nat)(t33:Int)(t34:Wc):Option Bool:=
 (ic.F n t34 1).bind λr35=>
 if decide (r35<0)=true then
 some false
 else
 if(!decide (r35=t33))=true then
 some false
 else
 some true
def j1 (n:Nat)(t22:ByteArray)(t23:ByteArray)(t24:Bool)(t25:Wc)(t26:Wc)(t27:Wc):Option Bool:=
 (ie.F n t27 1).bind λr28=>
 (ic.F n r28.2 1).bind λr29=>
 if decide (r29<0)=true then
 some false
 else
 if(!decide (r29=r28.1))=true then
 some false
 else
 (gI.F n t25).bind λr30=>
 (bM.F n r30 t22 t23).bind λr31=>
 (gE.F n r31.1 t26).bind λr32=>
 if(!r32)=false then
 if(!(r31.2==t24))=true then
 some false
 else
 j2 n r28.1 r28.2
 else
 some false
def j0 (n:Nat)(t10:ByteArray)(t11:ByteArray)(t12:Bool)(t13:Bool)(t14:Wc)(t15:Wc)(t16:Wc)(t17:Wc):Option Bool:=
 (gI.F n t14).bind λr18=>
 (gE.F n t16 r18).bind λr19=>
 if(!r19)=true then
 some false
 else
 (ie.F n t16 1).bind λr20=>
 if(decide (r20.1<0))=false then
 (gE.F n t17 t15).bind λr21=>
 if(!r21)=false then
 if(!(t13==t12))=true then
 some false
 else
 j1 n t10 t11 t12 t14 t15 t17
 else
 some false
 else
 some false
def F (n:Nat)(t1:Wc)(t2:ByteArray)(t3:ByteArray):Option Bool:=
 if decide ((Jf t2:Int)>1048576)=true then
 some true
 else
 if decide ((Jf t3:Int)>1048576)=true then
 some true
 else
 (kj.F n t1 1048576).bind λr4=>
 if decide (r4<0)=true then
 some true
 else
 (gI.F n t1).bind λr5=>
 (bB.F n r5 t2 t3).bind λr6=>
 (gI.F n t1).bind λr7=>
 (bM.F n r7 t2 t3).bind λr8=>
 (gE.F n r8.1 r6.1).bind λr9=>
 if(!r9)=false then
 if(!(r8.2==r6.2))=true then
 some false
 else
 j0 n t2 t3 r6.2 r8.2 t1 r6.1 r7 r8.1
 else
 some false
def code:=Tryz.f5.body.getD .skip
abbrev ash:List ASh:=[.ro Qc,.ro .str,.ro .str]
abbrev rsh:List RSh:=[.ro .bool]
def c0:=Jl (Jl (Jl (Jl (Jl (Jl (Jl (Jl (Jl (Jl code)))))))))
def c1:=Jl (Jl (Jl (Jl c0)))
def c2:=Jl (Jl (Jl (Jl (Jl (Jl (Jl (Jl c1)))))))
abbrev sh2:ES:=⟨[(11,.pt 11 []),(14,.v QA)],[⟨11,.st Qd,.pr QP QE,true,false,none⟩]⟩
abbrev sh1:ES:=⟨[(1,.v .str),(2,.v .str),(3,.pt 3 []),(8,.pt 8 []),(9,.v .bool),(11,.pt 11 [])],[⟨3,.st Qd,.ro,true,false,none⟩,⟨8,.st Qd,.ro,true,false,none⟩,⟨11,.st Qd,.pr QP QE,true,false,none⟩]⟩
abbrev sh0:ES:=⟨[(1,.v .str),(2,.v .str),(3,.pt 3 []),(8,.pt 8 []),(9,.v .bool),(10,.pt 10 []),(11,.pt 11 []),(12,.v .bool)],[⟨3,.st Qd,.ro,true,false,none⟩,⟨8,.st Qd,.ro,true,false,none⟩,⟨10,.st Qd,.pr QP QE,true,false,none⟩,⟨11,.st Qd,.pr QP QE,true,false,none⟩]⟩
def g2:GL rsh sh2:=λn m x kn kx=>j2 n x.1.2.1 x.2.1
def g1:GL rsh sh1:=λn m x kn kx=>j1 n x.1.1 x.1.2.1 x.1.2.2.2.2.1 x.2.1 x.2.2.1 x.2.2.2.1
def g0:GL rsh sh0:=λn m x kn kx=>j0 n x.1.1 x.1.2.1 x.1.2.2.2.2.1 x.1.2.2.2.2.2.2.2.1 x.2.1 x.2.2.1 x.2.2.2.1 x.2.2.2.2.1
def B:Bd:=⟨ash,rsh,[kj.E,bB.E,gI.E,bM.E,gE.E,ie.E,ic.E],⟨code,112,.nil,[(.tmp 6,.bool,.ro)]⟩,[⟨2,sh2,g2⟩,⟨1,sh1,g1⟩,⟨0,sh0,g0⟩]⟩
theorem u2:UO B 2 c2:=
 ju (.seq .nil WU) [] [6] sh2 g2 mn
theorem u1:UO B 1 c1:=
 ju (.seq .nil (.seq .nil (.seq .nil (.seq .nil (.seq Vf (.seq Vf (.seq .nil (.seq Vf (.cut 2 [11,14]))))))))) [] [6] sh1 g1 (mc u2 mn)
theorem u0:UO B 0 c0:=
 ju (.seq Vf (.seq .nil (.seq .nil (.seq Vf (.cut 1 [1,2,3,8,9,11]))))) [] [6] sh0 g0 (mc u1 mn)
def E:En:=⟨5,λn=>⟨B.a,B.r,λv=>F n v.1 v.2.1 v.2.2.1⟩,cG B (.seq .nil (.seq Vf (.seq Vf (.seq .nil (.seq .nil (.seq Vf (.seq .nil (.seq (.reg [(38,.pr QP QE),(10,.pr QZ QW)]) (.seq (.reg [(4139,.pr QP QE),(11,.pr QZ QW)]) (.seq Vf (.cut 0 [1,2,3,8,9,10,11,12]))))))))))) Tryz.func5 (mc u0 mn)⟩
def ent (n:Nat):ij:=⟨ash,rsh,λv=>F n v.1 v.2.1 v.2.2.1⟩
theorem ok (n:Nat):aq Jp 5 (ent n):=E.ok n
end laws_FnExactRenameRel
end
end Go.Abs
