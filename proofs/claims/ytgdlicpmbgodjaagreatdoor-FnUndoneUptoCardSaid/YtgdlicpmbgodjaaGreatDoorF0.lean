/- The functions, and that a call of each comes to it. Conditions: none. -/
import Derived.Test.YtgdlicpmbgodjaaGreatDoorHd
namespace Go.Abs
open Go.Proofs
set_option linter.unusedVariables false
namespace laws_big
def F (n:Nat) (code1:List Int):Option Bool :=
 some (decide ((List.length code1:Int) > 1048576))
noncomputable def code:Code:=Tryz.f24.body.getD .skip
abbrev ash:List ASh:=[.ro (.sl (.int .u8))]
abbrev rsh:List RSh:=[.ro .bool]
def ent (n:Nat):Z0W:=⟨ash,rsh,fun v=>F n v.1⟩
noncomputable def cx (n:Nat):Ctx:=Z0D Tryz.prog TYS []
noncomputable def d:FnD:=⟨code,6,.nil,[(.tmp 2,.bool,.ro)]⟩
def an:An:=.seq .nil (.seq .nil .nil)
theorem ok (n:Nat):Z07 Tryz.prog 24 (ent n) :=
 Z0H (c:=cx n) (e:=ent n) (d:=d) (CO _) (Z01 (Z00)) (MX _) an Tryz.func24 (by kernel_rfl) (by kernel_rfl) (fun v=>by kernel_rfl)
end laws_big
namespace spec_l01Open
def F (n:Nat) (code1:List Int):Option ((List Int) × Int × Int) :=
 some (code1,(0,IntKind.i64.wrap (61 + (Int.tmod (List.length code1:Int) 1000))))
noncomputable def code:Code:=Tryz.f80.body.getD .skip
abbrev ash:List ASh:=[.ro (.sl (.int .u8))]
abbrev rsh:List RSh:=[.bx (.st (.pair (.sl (.int .u8)) (.pair (.int .i64) (.int .i64)))) .ro]
def ent (n:Nat):Z0W:=⟨ash,rsh,fun v=>F n v.1⟩
noncomputable def cx (n:Nat):Ctx:=Z0D Tryz.prog TYS []
noncomputable def d:FnD:=⟨code,10,.nil,[(.tmp 2,.st (.pair (.sl (.int .u8)) (.pair (.int .i64) (.int .i64))),.ro)]⟩
def an:An:=.seq .nil (.seq .nil .nil)
theorem ok (n:Nat):Z07 Tryz.prog 80 (ent n) :=
 Z0H (c:=cx n) (e:=ent n) (d:=d) (CO _) (Z01 (Z00)) (MX _) an Tryz.func80 (by kernel_rfl) (by kernel_rfl) (fun v=>by kernel_rfl)
end spec_l01Open
namespace spec_l01Cur_pick
def j0 (n:Nat) (t3:Int) (t4:Int) (t5:(List Int) × Int × Int):Option (Int × (List Int) × Int × Int) :=
 if t3 = 0 then
 none
 else
 some (Int.tmod t4 t3,(t5.1,(IntKind.i64.wrap (t5.2.1 + 1),t5.2.2)))
def F (n:Nat) (t1:(List Int) × Int × Int) (t2:Int):Option (Int × (List Int) × Int × Int) :=
 if decide (t2 < 2) = true then
 some (0,t1)
 else
 if decide (t1.2.1 < (List.length t1.1:Int)) = true then
 if (0:Int) ≤ t1.2.1 ∧ t1.2.1 < (List.length t1.1:Int) then
 j0 n t2 (IntKind.i64.wrap (List.getD t1.1 (Int.toNat t1.2.1) 0)) t1
 else
 none
 else
 if decide ((List.length t1.1:Int) > 0) = true then
 if (List.length t1.1:Int) = 0 then
 none
 else
 if (0:Int) ≤ (Int.tmod t1.2.1 (List.length t1.1:Int)) ∧ (Int.tmod t1.2.1 (List.length t1.1:Int)) < (List.length t1.1:Int) then
 j0 n t2 (IntKind.i64.wrap ((IntKind.i64.wrap (Int.tdiv (Int.tmod (IntKind.i64.wrap ((IntKind.i64.wrap (t1.2.2 * 1103)) + 12345)) 65521) 7)) + (IntKind.i64.wrap (List.getD t1.1 (Int.toNat (Int.tmod t1.2.1 (List.length t1.1:Int))) 0)))) (t1.1,(t1.2.1,Int.tmod (IntKind.i64.wrap ((IntKind.i64.wrap (t1.2.2 * 1103)) + 12345)) 65521))
 else
 none
 else
 j0 n t2 0 (t1.1,(t1.2.1,Int.tmod (IntKind.i64.wrap ((IntKind.i64.wrap (t1.2.2 * 1103)) + 12345)) 65521))
noncomputable def code:Code:=Tryz.f83.body.getD .skip
abbrev ash:List ASh:=[.mp (.st (.pair (.sl (.int .u8)) (.pair (.int .i64) (.int .i64)))) .ro,.ro (.int .i64)]
abbrev rsh:List RSh:=[.ro (.int .i64),.out (.st (.pair (.sl (.int .u8)) (.pair (.int .i64) (.int .i64))))]
def ent (n:Nat):Z0W:=⟨ash,rsh,fun v=>F n v.1 v.2.1⟩
noncomputable def cx (n:Nat):Ctx:=Z0D Tryz.prog TYS []
noncomputable def d:FnD:=⟨code,78,.nil,[(.tmp 4,.int .i64,.ro)]⟩
noncomputable def kr (n:Nat) (v:AVs ash):KN rsh:=Z1E (cx n) d (Z0Q ash v) (Z0b rsh)
noncomputable def c0:Code:=(Code.r (Code.r (Code.r (Code.r code))))
def an:An:=.seq .nil (.seq (.seq .nil (.cond (.seq .nil .nil) .nil)) (.seq .nil (.seq (.seq .nil (.cond .nil (.seq .nil (.seq .nil (.cond .nil .nil))))) (.cut 0 [0,1,5]))))
def an0:An:=.seq .nil (.seq .nil .nil)
abbrev sh0:ES:=⟨[(0,.pt 0 []),(1,.v (.int .i64)),(5,.v (.int .i64))],[⟨0,.st (.pair (.sl (.int .u8)) (.pair (.int .i64) (.int .i64))),.ro,true,true,none⟩]⟩
def g0 (n m:Nat) (x:sh0.V) (kn:KN rsh) (kx:KX rsh):Option (RVs rsh):=j0 n x.1.2.1 x.1.2.2.1 x.2.1
def T (n:Nat):Tab (RVs rsh):=fun j e kn kx=>match j with
 | 0=>ES.on sh0 e fun x=>g0 n n x kn kx
 | _=>none
theorem mk (n:Nat):MOk (cx n):=Z01 (Z00)
theorem u0 (n:Nat) (v:AVs ash):Z08 (cx n) 78 (T n) (kr n v) 0 (c0) :=
 Z0p (CO _) (mk n) (MX _) an0 [] [0,4] sh0 (g0 n n) (fun _ _ _=>rfl) (fun x kn kx=>by kernel_rfl) (l:=[]) (by kernel_rfl) (Z00)
theorem ok (n:Nat):Z07 Tryz.prog 83 (ent n) :=
 Z0E (c:=cx n) (e:=ent n) (d:=d) (CO _) (mk n) (MX _) an Tryz.func83 (by kernel_rfl) (T n) (l:=[(0,c0)]) (by kernel_rfl) (fun v=>mem_cons (u0 n v) Z00) (fun v=>by kernel_rfl)
end spec_l01Cur_pick
namespace spec_l01Cur_size
def F (n:Nat) (c1:(List Int) × Int × Int) (t2:Int):Option (Int × (List Int) × Int × Int) :=
 if decide ((IntKind.i64.wrap (1 + (IntKind.i64.wrap (Int.tdiv (List.length c1.1:Int) 8)))) > t2) = true then
 (spec_l01Cur_pick.F n c1 (IntKind.i64.wrap (t2 + 1))).bind fun r3 =>
 some (r3.1,r3.2)
 else
 (spec_l01Cur_pick.F n c1 (IntKind.i64.wrap ((IntKind.i64.wrap (1 + (IntKind.i64.wrap (Int.tdiv (List.length c1.1:Int) 8)))) + 1))).bind fun r4 =>
 some (r4.1,r4.2)
noncomputable def code:Code:=Tryz.f157.body.getD .skip
abbrev ash:List ASh:=[.mp (.st (.pair (.sl (.int .u8)) (.pair (.int .i64) (.int .i64)))) .ro,.ro (.int .i64)]
abbrev rsh:List RSh:=[.ro (.int .i64),.out (.st (.pair (.sl (.int .u8)) (.pair (.int .i64) (.int .i64))))]
def ent (n:Nat):Z0W:=⟨ash,rsh,fun v=>F n v.1 v.2.1⟩
noncomputable def cx (n:Nat):Ctx:=Z0D Tryz.prog TYS [(83,spec_l01Cur_pick.ent n)]
noncomputable def d:FnD:=⟨code,21,.nil,[(.tmp 4,.int .i64,.ro)]⟩
def an:An:=.seq .nil (.seq .nil (.seq (.seq .nil (.cond .nil .nil)) (.seq .nil .nil)))
theorem ok (n:Nat):Z07 Tryz.prog 157 (ent n) :=
 Z0H (c:=cx n) (e:=ent n) (d:=d) (CO _) (Z01 (mem_cons (spec_l01Cur_pick.ok n) Z00)) (MX _) an Tryz.func157 (by kernel_rfl) (by kernel_rfl) (fun v=>by kernel_rfl)
end spec_l01Cur_size
namespace spec_l01Between
def F (n:Nat) (t1:Int) (lo2:Int) (hi3:Int):Option Bool :=
 if (decide (t1 ≥ lo2)) = true then
 some (decide (t1 ≤ hi3))
 else
 some false
noncomputable def code:Code:=Tryz.f94.body.getD .skip
abbrev ash:List ASh:=[.ro (.int .i64),.ro (.int .i64),.ro (.int .i64)]
abbrev rsh:List RSh:=[.ro .bool]
def ent (n:Nat):Z0W:=⟨ash,rsh,fun v=>F n v.1 v.2.1 v.2.2.1⟩
noncomputable def cx (n:Nat):Ctx:=Z0D Tryz.prog TYS []
noncomputable def d:FnD:=⟨code,15,.nil,[(.tmp 6,.bool,.ro)]⟩
def an:An:=.seq .nil (.seq .nil .nil)
theorem ok (n:Nat):Z07 Tryz.prog 94 (ent n) :=
 Z0H (c:=cx n) (e:=ent n) (d:=d) (CO _) (Z01 (Z00)) (MX _) an Tryz.func94 (by kernel_rfl) (by kernel_rfl) (fun v=>by kernel_rfl)
end spec_l01Between
namespace spec_l01Digit
def F (n:Nat) (b1:Int):Option Bool :=
 if (decide (b1 ≥ 48)) = true then
 some (decide (b1 ≤ 57))
 else
 some false
noncomputable def code:Code:=Tryz.f158.body.getD .skip
abbrev ash:List ASh:=[.ro (.int .u8)]
abbrev rsh:List RSh:=[.ro .bool]
def ent (n:Nat):Z0W:=⟨ash,rsh,fun v=>F n v.1⟩
noncomputable def cx (n:Nat):Ctx:=Z0D Tryz.prog TYS []
noncomputable def d:FnD:=⟨code,9,.nil,[(.tmp 2,.bool,.ro)]⟩
def an:An:=.seq .nil (.seq .nil .nil)
theorem ok (n:Nat):Z07 Tryz.prog 158 (ent n) :=
 Z0H (c:=cx n) (e:=ent n) (d:=d) (CO _) (Z01 (Z00)) (MX _) an Tryz.func158 (by kernel_rfl) (by kernel_rfl) (fun v=>by kernel_rfl)
end spec_l01Digit
namespace spec_NumText
def l0 (n:Nat) (t2:Int) (K0:(List Int) → Option ByteArray):Nat → Int → (List Int) → Option ByteArray
 | 0,_,_=>none
 | k + 1,m3,out4 =>
 if (!decide (m3 = 0)) = true then
 if decide ((Int.tmod m3 10) < 0) = true then
 if List.length [IntKind.u8.wrap (IntKind.i64.wrap (48 + (IntKind.i64.wrap (0 - (Int.tmod m3 10)))))] + List.length out4 ≤ lim then
 l0 n t2 K0 k (IntKind.i64.wrap (Int.tdiv m3 10)) ([IntKind.u8.wrap (IntKind.i64.wrap (48 + (IntKind.i64.wrap (0 - (Int.tmod m3 10)))))] ++ out4)
 else
 none
 else
 if List.length [IntKind.u8.wrap (IntKind.i64.wrap (48 + (Int.tmod m3 10)))] + List.length out4 ≤ lim then
 l0 n t2 K0 k (IntKind.i64.wrap (Int.tdiv m3 10)) ([IntKind.u8.wrap (IntKind.i64.wrap (48 + (Int.tmod m3 10)))] ++ out4)
 else
 none
 else
 K0 out4
def F (n:Nat) (t1:Int):Option ByteArray :=
 if decide (t1 = 0) = true then
 some ⟨#[48]⟩
 else
 l0 n t1 (fun out5 =>
 if decide (t1 < 0) = true then
 if List.length [45] + List.length out5 ≤ lim then
 some (bstr ([45] ++ out5))
 else
 none
 else
 some (bstr out5)) n t1 []
noncomputable def code:Code:=Tryz.f106.body.getD .skip
abbrev ash:List ASh:=[.ro (.int .i64)]
abbrev rsh:List RSh:=[.ro .str]
def ent (n:Nat):Z0W:=⟨ash,rsh,fun v=>F n v.1⟩
noncomputable def cx (n:Nat):Ctx:=Z0D Tryz.prog TYS []
noncomputable def d:FnD:=⟨code,33,.nil,[(.tmp 2,.str,.ro)]⟩
noncomputable def kr (n:Nat) (v:AVs ash):KN rsh:=Z1E (cx n) d (Z0Q ash v) (Z0b rsh)
noncomputable def b0:Code:=Code.l (Code.l (Code.r (Code.l (Code.r (Code.r (Code.r code))))))
def an:An:=.seq .nil (.seq (.seq .nil (.cond (.seq .nil .nil) .nil)) (.seq (.reg [(8,.own .ro)]) (.seq (.seq .nil (.block (some [0,3]) (.cut 0 [0,3,4]))) (.seq (.seq .nil (.cond (.reg [(28,.own .ro)]) .nil)) (.seq .nil .nil)))))
def an0:An:=.seq (.seq .nil (.cond .nil .nil)) (.seq (.block (some [0,3,4]) (.seq .nil (.seq (.seq .nil (.cond .nil .nil)) (.reg [(23,.own .ro)])))) .nil)
abbrev sh0:ES:=⟨[(0,.v (.int .i64)),(3,.al 3 []),(4,.v (.int .i64))],[⟨3,.sl (.int .u8),.own .ro,false,false,none⟩]⟩
abbrev sh0_0:ES:=⟨[(0,.v (.int .i64)),(3,.al 3 [])],[⟨3,.sl (.int .u8),.own .ro,false,false,none⟩]⟩
def g0 (n m:Nat) (x:sh0.V) (kn:KN rsh) (kx:KX rsh):Option (RVs rsh):=l0 n x.1.1 (fun y0=>kx 0 (sh0_0.enc ((x.1.1,(()),()),(y0,())))) m x.1.2.2.1 x.2.1
def T (n:Nat):Tab (RVs rsh):=fun j e kn kx=>match j with
 | 0=>ES.on sh0 e fun x=>g0 n n x kn kx
 | _=>none
theorem mk (n:Nat):MOk (cx n):=Z01 (Z00)
theorem u0 (n:Nat) (v:AVs ash):Z08 (cx n) 33 (T n) (kr n v) 0 (.loop b0) :=
 Z0O (n:=n) (CO _) (mk n) (MX _) an0 [(0,[0,3])] [0,3,4] sh0 (g0 n) (fun _ _ _=>rfl) (fun _ _ _=>rfl) (fun m x kn kx=>by kernel_rfl) (l:=[]) (by kernel_rfl) (Z00)
theorem ok (n:Nat):Z07 Tryz.prog 106 (ent n) :=
 Z0E (c:=cx n) (e:=ent n) (d:=d) (CO _) (mk n) (MX _) an Tryz.func106 (by kernel_rfl) (T n) (l:=[(0,.loop b0)]) (by kernel_rfl) (fun v=>mem_cons (u0 n v) Z00) (fun v=>by kernel_rfl)
end spec_NumText
namespace spec_l01Number
def l1 (n:Nat) (s6:ByteArray) (digits8:ByteArray) (K0:Int → Option (Int × Bool)):Nat → Int → Int → Option (Int × Bool)
 | 0,_,_=>none
 | k + 1,t7,i9 =>
 if decide (i9 < (ByteArray.size digits8:Int)) = true then
 if (0:Int) ≤ i9 ∧ i9 < (ByteArray.size digits8:Int) then
 (spec_l01Digit.F n (Z0M digits8 i9)).bind fun r10 =>
 if (!r10) = true then
 some (0,false)
 else
 if (0:Int) ≤ i9 ∧ i9 < (ByteArray.size digits8:Int) then
 l1 n s6 digits8 K0 k (IntKind.i64.wrap ((IntKind.i64.wrap (10 * t7)) + (IntKind.i64.wrap (IntKind.u8.wrap ((Z0M digits8 i9) - 48))))) (IntKind.i64.wrap (i9 + 1))
 else
 none
 else
 none
 else
 K0 t7
def j0 (n:Nat) (s2:ByteArray) (t3:Int) (digits4:ByteArray):Option (Int × Bool) :=
 (spec_l01Between.F n (ByteArray.size digits4:Int) 1 7).bind fun r5 =>
 if (!r5) = true then
 some (0,false)
 else
 l1 n s2 digits4 (fun t11 =>
 if (!(Abs.seq digits4 s2)) = true then
 (spec_NumText.F n (IntKind.i64.wrap (0 - t11))).bind fun r12 =>
 if (Abs.seq r12 s2) = true then
 (spec_l01Between.F n (IntKind.i64.wrap (0 - t11)) (-1000000) 1000000).bind fun r13 =>
 some (IntKind.i64.wrap (0 - t11),r13)
 else
 some (IntKind.i64.wrap (0 - t11),false)
 else
 (spec_NumText.F n t11).bind fun r14 =>
 if (Abs.seq r14 s2) = true then
 (spec_l01Between.F n t11 (-1000000) 1000000).bind fun r15 =>
 some (t11,r15)
 else
 some (t11,false)) n t3 0
def F (n:Nat) (s1:ByteArray):Option (Int × Bool) :=
 if (decide ((ByteArray.size s1:Int) > 0)) = true then
 if (0:Int) ≤ 0 ∧ 0 < (ByteArray.size s1:Int) then
 if decide ((Z0M s1 0) = 45) = true then
 if (0:Int) ≤ 1 ∧ (1:Int) ≤ (ByteArray.size s1:Int) ∧ (ByteArray.size s1:Int) ≤ (ByteArray.size s1:Int) then
 j0 n s1 0 (ByteArray.extract s1 (Int.toNat 1) (Int.toNat (ByteArray.size s1:Int)))
 else
 none
 else
 j0 n s1 0 s1
 else
 none
 else
 j0 n s1 0 s1
noncomputable def code:Code:=Tryz.f119.body.getD .skip
abbrev ash:List ASh:=[.ro .str]
abbrev rsh:List RSh:=[.ro (.int .i64),.ro .bool]
def ent (n:Nat):Z0W:=⟨ash,rsh,fun v=>F n v.1⟩
noncomputable def cx (n:Nat):Ctx:=Z0D Tryz.prog TYS [(94,spec_l01Between.ent n),(106,spec_NumText.ent n),(158,spec_l01Digit.ent n)]
noncomputable def d:FnD:=⟨code,55,.nil,[(.tmp 2,.int .i64,.ro),(.tmp 3,.bool,.ro)]⟩
noncomputable def kr (n:Nat) (v:AVs ash):KN rsh:=Z1E (cx n) d (Z0Q ash v) (Z0b rsh)
noncomputable def b1:Code:=Code.l (Code.l (Code.r (Code.l (Code.r (Code.r (Code.r (Code.r (Code.r code))))))))
noncomputable def c0:Code:=(Code.r (Code.r (Code.r (Code.r code))))
def an:An:=.seq .nil (.seq .nil (.seq .nil (.seq (.seq .nil (.cond .nil .nil)) (.cut 0 [0,4,5]))))
def an1:An:=.seq (.seq .nil (.cond .nil .nil)) (.seq (.block (some [0,4,5,6]) (.seq (.seq .nil (.cond (.seq .nil .nil) .nil)) .nil)) .nil)
abbrev sh1:ES:=⟨[(0,.v .str),(4,.v (.int .i64)),(5,.v .str),(6,.v (.int .i64))],[]⟩
abbrev sh1_0:ES:=⟨[(0,.v .str),(4,.v (.int .i64)),(5,.v .str)],[]⟩
def an0:An:=.seq (.seq .nil (.cond (.seq .nil .nil) .nil)) (.seq (.seq .nil (.block (some [0,4,5]) (.cut 1 [0,4,5,6]))) (.seq (.seq .nil (.cond .nil .nil)) (.seq .nil .nil)))
abbrev sh0:ES:=⟨[(0,.v .str),(4,.v (.int .i64)),(5,.v .str)],[]⟩
def g1 (n m:Nat) (x:sh1.V) (kn:KN rsh) (kx:KX rsh):Option (RVs rsh):=l1 n x.1.1 x.1.2.2.1 (fun y0=>kx 0 (sh1_0.enc ((x.1.1,y0,x.1.2.2.1,()),(())))) m x.1.2.1 x.1.2.2.2.1
def g0 (n m:Nat) (x:sh0.V) (kn:KN rsh) (kx:KX rsh):Option (RVs rsh):=j0 n x.1.1 x.1.2.1 x.1.2.2.1
def T (n:Nat):Tab (RVs rsh):=fun j e kn kx=>match j with
 | 1=>ES.on sh1 e fun x=>g1 n n x kn kx
 | 0=>ES.on sh0 e fun x=>g0 n n x kn kx
 | _=>none
theorem mk (n:Nat):MOk (cx n):=Z01 (mem_cons (spec_l01Between.ok n) (mem_cons (spec_NumText.ok n) (mem_cons (spec_l01Digit.ok n) Z00)))
theorem u1 (n:Nat) (v:AVs ash):Z08 (cx n) 55 (T n) (kr n v) 1 (.loop b1) :=
 Z0O (n:=n) (CO _) (mk n) (MX _) an1 [(0,[0,4,5])] [0,4,5,6] sh1 (g1 n) (fun _ _ _=>rfl) (fun _ _ _=>rfl) (fun m x kn kx=>by kernel_rfl) (l:=[]) (by kernel_rfl) (Z00)
theorem u0 (n:Nat) (v:AVs ash):Z08 (cx n) 55 (T n) (kr n v) 0 (c0) :=
 Z0p (CO _) (mk n) (MX _) an0 [] [2,3] sh0 (g0 n n) (fun _ _ _=>rfl) (fun x kn kx=>by kernel_rfl) (l:=[(1,.loop b1)]) (by kernel_rfl) (mem_cons (u1 n v) Z00)
theorem ok (n:Nat):Z07 Tryz.prog 119 (ent n) :=
 Z0E (c:=cx n) (e:=ent n) (d:=d) (CO _) (mk n) (MX _) an Tryz.func119 (by kernel_rfl) (T n) (l:=[(0,c0)]) (by kernel_rfl) (fun v=>mem_cons (u0 n v) Z00) (fun v=>by kernel_rfl)
end spec_l01Number
namespace spec_l01Args
def l0 (n:Nat) (t2:ByteArray) (K0:Int → Option (ByteArray × (List ByteArray) × Bool)):Nat → Int → Option (ByteArray × (List ByteArray) × Bool)
 | 0,_=>none
 | k + 1,t3 =>
 if (decide (t3 < (ByteArray.size t2:Int))) = true then
 if (0:Int) ≤ t3 ∧ t3 < (ByteArray.size t2:Int) then
 if (!decide ((Z0M t2 t3) = 40)) = true then
 l0 n t2 K0 k (IntKind.i64.wrap (t3 + 1))
 else
 K0 t3
 else
 none
 else
 K0 t3
def l1 (n:Nat) (t5:ByteArray) (t6:Int) (K2:Unit → Option (ByteArray × (List ByteArray) × Bool)):Nat → Int → Bool → Int → Int → (List ByteArray) → Option (ByteArray × (List ByteArray) × Bool)
 | 0,_,_,_,_,_=>none
 | k + 1,t7,t8,t9,t10,t11 =>
 if decide (t10 < (ByteArray.size t5:Int)) = true then
 if (0:Int) ≤ t10 ∧ t10 < (ByteArray.size t5:Int) then
 if decide ((Z0M t5 t10) = 34) = true then
 l1 n t5 t6 K2 k t7 (!t8) t9 (IntKind.i64.wrap (t10 + 1)) t11
 else
 if t8 = true then
 l1 n t5 t6 K2 k t7 t8 t9 (IntKind.i64.wrap (t10 + 1)) t11
 else
 if (0:Int) ≤ t10 ∧ t10 < (ByteArray.size t5:Int) then
 if decide ((Z0M t5 t10) = 40) = true then
 l1 n t5 t6 K2 k (IntKind.i64.wrap (t7 + 1)) t8 t9 (IntKind.i64.wrap (t10 + 1)) t11
 else
 if (0:Int) ≤ t10 ∧ t10 < (ByteArray.size t5:Int) then
 if decide ((Z0M t5 t10) = 41) = true then
 if decide ((IntKind.i64.wrap (t7 - 1)) = 0) = true then
 if (0:Int) ≤ 0 ∧ (0:Int) ≤ t6 ∧ t6 ≤ (ByteArray.size t5:Int) then
 if (0:Int) ≤ t9 ∧ t9 ≤ t10 ∧ t10 ≤ (ByteArray.size t5:Int) then
 if List.length t11 + List.length [ByteArray.extract t5 (Int.toNat t9) (Int.toNat t10)] ≤ lim then
 some (ByteArray.extract t5 (Int.toNat 0) (Int.toNat t6),t11 ++ [ByteArray.extract t5 (Int.toNat t9) (Int.toNat t10)],decide (t10 = (IntKind.i64.wrap ((ByteArray.size t5:Int) - 1))))
 else
 none
 else
 none
 else
 none
 else
 l1 n t5 t6 K2 k (IntKind.i64.wrap (t7 - 1)) t8 t9 (IntKind.i64.wrap (t10 + 1)) t11
 else
 if (0:Int) ≤ t10 ∧ t10 < (ByteArray.size t5:Int) then
 if (decide ((Z0M t5 t10) = 44)) = true then
 if decide (t7 = 1) = true then
 if (0:Int) ≤ t9 ∧ t9 ≤ t10 ∧ t10 ≤ (ByteArray.size t5:Int) then
 if List.length t11 + List.length [ByteArray.extract t5 (Int.toNat t9) (Int.toNat t10)] ≤ lim then
 l1 n t5 t6 K2 k t7 t8 (IntKind.i64.wrap (t10 + 1)) (IntKind.i64.wrap (t10 + 1)) (t11 ++ [ByteArray.extract t5 (Int.toNat t9) (Int.toNat t10)])
 else
 none
 else
 none
 else
 l1 n t5 t6 K2 k t7 t8 t9 (IntKind.i64.wrap (t10 + 1)) t11
 else
 l1 n t5 t6 K2 k t7 t8 t9 (IntKind.i64.wrap (t10 + 1)) t11
 else
 none
 else
 none
 else
 none
 else
 none
 else
 K2 ()
def F (n:Nat) (t1:ByteArray):Option (ByteArray × (List ByteArray) × Bool) :=
 l0 n t1 (fun t4 =>
 if decide (t4 = (ByteArray.size t1:Int)) = true then
 some (t1,[],true)
 else
 l1 n t1 t4 (fun _ =>
 some (ByteArray.empty,[],false)) n 0 false (IntKind.i64.wrap (t4 + 1)) t4 []) n 0
noncomputable def code:Code:=Tryz.f170.body.getD .skip
abbrev ash:List ASh:=[.ro .str]
abbrev rsh:List RSh:=[.ro .str,.ro (.sl (.str)),.ro .bool]
def ent (n:Nat):Z0W:=⟨ash,rsh,fun v=>F n v.1⟩
noncomputable def cx (n:Nat):Ctx:=Z0D Tryz.prog TYS []
noncomputable def d:FnD:=⟨code,98,.nil,[(.tmp 2,.str,.ro),(.tmp 3,.sl (.str),.ro),(.tmp 4,.bool,.ro)]⟩
noncomputable def kr (n:Nat) (v:AVs ash):KN rsh:=Z1E (cx n) d (Z0Q ash v) (Z0b rsh)
noncomputable def b0:Code:=Code.l (Code.l (Code.l (Code.r (Code.r code))))
noncomputable def b1:Code:=Code.l (Code.l (Code.r (Code.l (Code.r (Code.r (Code.r (Code.r (Code.r (Code.r (Code.r (Code.r code)))))))))))
def an:An:=.seq .nil (.seq .nil (.seq (.block (some [0,5]) (.cut 0 [0,5])) (.seq (.seq .nil (.cond (.seq .nil .nil) .nil)) (.seq (.reg [(29,.own .ro)]) (.seq .nil (.seq .nil (.seq .nil (.seq (.seq .nil (.block (some []) (.cut 1 [0,5,6,7,8,9,10]))) (.seq .nil .nil)))))))))
def an0:An:=.seq (.seq .nil (.cond .nil .nil)) (.block (some [0,5]) .nil)
abbrev sh0:ES:=⟨[(0,.v .str),(5,.v (.int .i64))],[]⟩
abbrev sh0_0:ES:=⟨[(0,.v .str),(5,.v (.int .i64))],[]⟩
def an1:An:=.seq (.seq .nil (.cond .nil .nil)) (.seq (.block (some [0,5,6,7,8,9,10]) (.block (some [0,5,6,7,8,9,10]) (.seq .nil (.cond .nil (.seq .nil (.cond .nil (.seq .nil (.cond .nil (.seq .nil (.cond (.seq .nil (.seq .nil (.cond (.seq .nil .nil) .nil))) (.seq .nil (.cond (.seq .nil .nil) .nil)))))))))))) .nil)
abbrev sh1:ES:=⟨[(0,.v .str),(5,.v (.int .i64)),(6,.al 6 []),(7,.v (.int .i64)),(8,.v .bool),(9,.v (.int .i64)),(10,.v (.int .i64))],[⟨6,.sl (.str),.own .ro,false,false,none⟩]⟩
abbrev sh1_2:ES:=⟨[],[]⟩
def g0 (n m:Nat) (x:sh0.V) (kn:KN rsh) (kx:KX rsh):Option (RVs rsh):=l0 n x.1.1 (fun y0=>kx 0 (sh0_0.enc ((x.1.1,y0,()),(())))) m x.1.2.1
def g1 (n m:Nat) (x:sh1.V) (kn:KN rsh) (kx:KX rsh):Option (RVs rsh):=l1 n x.1.1 x.1.2.1 (fun _=>kx 2 (sh1_2.enc ((()),(())))) m x.1.2.2.2.1 x.1.2.2.2.2.1 x.1.2.2.2.2.2.1 x.1.2.2.2.2.2.2.1 x.2.1
def T (n:Nat):Tab (RVs rsh):=fun j e kn kx=>match j with
 | 0=>ES.on sh0 e fun x=>g0 n n x kn kx
 | 1=>ES.on sh1 e fun x=>g1 n n x kn kx
 | _=>none
theorem mk (n:Nat):MOk (cx n):=Z01 (Z00)
theorem u0 (n:Nat) (v:AVs ash):Z08 (cx n) 98 (T n) (kr n v) 0 (.loop b0) :=
 Z0O (n:=n) (CO _) (mk n) (MX _) an0 [(0,[0,5])] [0,5] sh0 (g0 n) (fun _ _ _=>rfl) (fun _ _ _=>rfl) (fun m x kn kx=>by kernel_rfl) (l:=[]) (by kernel_rfl) (Z00)
theorem u1 (n:Nat) (v:AVs ash):Z08 (cx n) 98 (T n) (kr n v) 1 (.loop b1) :=
 Z0O (n:=n) (CO _) (mk n) (MX _) an1 [(2,[])] [0,5,6,7,8,9,10] sh1 (g1 n) (fun _ _ _=>rfl) (fun _ _ _=>rfl) (fun m x kn kx=>by kernel_rfl) (l:=[]) (by kernel_rfl) (Z00)
theorem ok (n:Nat):Z07 Tryz.prog 170 (ent n) :=
 Z0E (c:=cx n) (e:=ent n) (d:=d) (CO _) (mk n) (MX _) an Tryz.func170 (by kernel_rfl) (T n) (l:=[(0,.loop b0),(1,.loop b1)]) (by kernel_rfl) (fun v=>mem_cons (u0 n v) (mem_cons (u1 n v) Z00)) (fun v=>by kernel_rfl)
end spec_l01Args
namespace spec_l01Big
def F (n:Nat) (b1:Int):Option Bool :=
 if (decide (b1 ≥ 65)) = true then
 some (decide (b1 ≤ 90))
 else
 some false
noncomputable def code:Code:=Tryz.f190.body.getD .skip
abbrev ash:List ASh:=[.ro (.int .u8)]
abbrev rsh:List RSh:=[.ro .bool]
def ent (n:Nat):Z0W:=⟨ash,rsh,fun v=>F n v.1⟩
noncomputable def cx (n:Nat):Ctx:=Z0D Tryz.prog TYS []
noncomputable def d:FnD:=⟨code,9,.nil,[(.tmp 2,.bool,.ro)]⟩
def an:An:=.seq .nil (.seq .nil .nil)
theorem ok (n:Nat):Z07 Tryz.prog 190 (ent n) :=
 Z0H (c:=cx n) (e:=ent n) (d:=d) (CO _) (Z01 (Z00)) (MX _) an Tryz.func190 (by kernel_rfl) (by kernel_rfl) (fun v=>by kernel_rfl)
end spec_l01Big
namespace spec_l01Small
def F (n:Nat) (b1:Int):Option Bool :=
 if (decide (b1 ≥ 97)) = true then
 some (decide (b1 ≤ 122))
 else
 some false
noncomputable def code:Code:=Tryz.f191.body.getD .skip
abbrev ash:List ASh:=[.ro (.int .u8)]
abbrev rsh:List RSh:=[.ro .bool]
def ent (n:Nat):Z0W:=⟨ash,rsh,fun v=>F n v.1⟩
noncomputable def cx (n:Nat):Ctx:=Z0D Tryz.prog TYS []
noncomputable def d:FnD:=⟨code,9,.nil,[(.tmp 2,.bool,.ro)]⟩
def an:An:=.seq .nil (.seq .nil .nil)
theorem ok (n:Nat):Z07 Tryz.prog 191 (ent n) :=
 Z0H (c:=cx n) (e:=ent n) (d:=d) (CO _) (Z01 (Z00)) (MX _) an Tryz.func191 (by kernel_rfl) (by kernel_rfl) (fun v=>by kernel_rfl)
end spec_l01Small
namespace spec_l01Letter
def F (n:Nat) (b1:Int):Option Bool :=
 (spec_l01Small.F n b1).bind fun r2 =>
 if r2 = false then
 (spec_l01Big.F n b1).bind fun r3 =>
 if r3 = false then
 (spec_l01Digit.F n b1).bind fun r4 =>
 if r4 = false then
 some (decide (b1 = 95))
 else
 some true
 else
 some true
 else
 some true
noncomputable def code:Code:=Tryz.f192.body.getD .skip
abbrev ash:List ASh:=[.ro (.int .u8)]
abbrev rsh:List RSh:=[.ro .bool]
def ent (n:Nat):Z0W:=⟨ash,rsh,fun v=>F n v.1⟩
noncomputable def cx (n:Nat):Ctx:=Z0D Tryz.prog TYS [(158,spec_l01Digit.ent n),(190,spec_l01Big.ent n),(191,spec_l01Small.ent n)]
noncomputable def d:FnD:=⟨code,17,.nil,[(.tmp 2,.bool,.ro)]⟩
def an:An:=.seq .nil (.seq .nil .nil)
theorem ok (n:Nat):Z07 Tryz.prog 192 (ent n) :=
 Z0H (c:=cx n) (e:=ent n) (d:=d) (CO _) (Z01 (mem_cons (spec_l01Digit.ok n) (mem_cons (spec_l01Big.ok n) (mem_cons (spec_l01Small.ok n) Z00)))) (MX _) an Tryz.func192 (by kernel_rfl) (by kernel_rfl) (fun v=>by kernel_rfl)
end spec_l01Letter
namespace spec_l01Name
def l1 (n:Nat) (s7:ByteArray) (K0:Unit → Option Bool):Nat → Int → Option Bool
 | 0,_=>none
 | k + 1,i8 =>
 if decide (i8 < (ByteArray.size s7:Int)) = true then
 if (0:Int) ≤ i8 ∧ i8 < (ByteArray.size s7:Int) then
 (spec_l01Letter.F n (Z0M s7 i8)).bind fun r9 =>
 if (!r9) = true then
 some false
 else
 l1 n s7 K0 k (IntKind.i64.wrap (i8 + 1))
 else
 none
 else
 K0 ()
def j0 (n:Nat) (s6:ByteArray):Option Bool :=
 l1 n s6 (fun _ =>
 some true) n 0
def F (n:Nat) (s1:ByteArray) (big2:Bool):Option Bool :=
 (spec_l01Between.F n (ByteArray.size s1:Int) 1 20).bind fun r3 =>
 if (!r3) = false then
 if big2 = true then
 if (0:Int) ≤ 0 ∧ 0 < (ByteArray.size s1:Int) then
 (spec_l01Big.F n (Z0M s1 0)).bind fun r4 =>
 if (!r4) = false then
 if (!big2) = true then
 if (0:Int) ≤ 0 ∧ 0 < (ByteArray.size s1:Int) then
 (spec_l01Small.F n (Z0M s1 0)).bind fun r5 =>
 if (!r5) = true then
 some false
 else
 j0 n s1
 else
 none
 else
 j0 n s1
 else
 some false
 else
 none
 else
 if (!big2) = true then
 if (0:Int) ≤ 0 ∧ 0 < (ByteArray.size s1:Int) then
 (spec_l01Small.F n (Z0M s1 0)).bind fun r10 =>
 if (!r10) = true then
 some false
 else
 j0 n s1
 else
 none
 else
 j0 n s1
 else
 some false
noncomputable def code:Code:=Tryz.f171.body.getD .skip
abbrev ash:List ASh:=[.ro .str,.ro .bool]
abbrev rsh:List RSh:=[.ro .bool]
def ent (n:Nat):Z0W:=⟨ash,rsh,fun v=>F n v.1 v.2.1⟩
noncomputable def cx (n:Nat):Ctx:=Z0D Tryz.prog TYS [(94,spec_l01Between.ent n),(190,spec_l01Big.ent n),(191,spec_l01Small.ent n),(192,spec_l01Letter.ent n)]
noncomputable def d:FnD:=⟨code,40,.nil,[(.tmp 4,.bool,.ro)]⟩
noncomputable def kr (n:Nat) (v:AVs ash):KN rsh:=Z1E (cx n) d (Z0Q ash v) (Z0b rsh)
noncomputable def b1:Code:=Code.l (Code.l (Code.r (Code.l (Code.r (Code.r code)))))
noncomputable def c0:Code:=(Code.r (Code.r code))
def an:An:=.seq .nil (.seq (.seq .nil (.cond (.seq .nil .nil) .nil)) (.cut 0 [0]))
def an1:An:=.seq (.seq .nil (.cond .nil .nil)) (.seq (.block (some [0,5]) (.seq .nil (.cond (.seq .nil .nil) .nil))) .nil)
abbrev sh1:ES:=⟨[(0,.v .str),(5,.v (.int .i64))],[]⟩
abbrev sh1_0:ES:=⟨[],[]⟩
def an0:An:=.seq (.seq .nil (.block (some []) (.cut 1 [0,5]))) (.seq .nil .nil)
abbrev sh0:ES:=⟨[(0,.v .str)],[]⟩
def g1 (n m:Nat) (x:sh1.V) (kn:KN rsh) (kx:KX rsh):Option (RVs rsh):=l1 n x.1.1 (fun _=>kx 0 (sh1_0.enc ((()),(())))) m x.1.2.1
def g0 (n m:Nat) (x:sh0.V) (kn:KN rsh) (kx:KX rsh):Option (RVs rsh):=j0 n x.1.1
def T (n:Nat):Tab (RVs rsh):=fun j e kn kx=>match j with
 | 1=>ES.on sh1 e fun x=>g1 n n x kn kx
 | 0=>ES.on sh0 e fun x=>g0 n n x kn kx
 | _=>none
theorem mk (n:Nat):MOk (cx n):=Z01 (mem_cons (spec_l01Between.ok n) (mem_cons (spec_l01Big.ok n) (mem_cons (spec_l01Small.ok n) (mem_cons (spec_l01Letter.ok n) Z00))))
theorem u1 (n:Nat) (v:AVs ash):Z08 (cx n) 40 (T n) (kr n v) 1 (.loop b1) :=
 Z0O (n:=n) (CO _) (mk n) (MX _) an1 [(0,[])] [0,5] sh1 (g1 n) (fun _ _ _=>rfl) (fun _ _ _=>rfl) (fun m x kn kx=>by kernel_rfl) (l:=[]) (by kernel_rfl) (Z00)
theorem u0 (n:Nat) (v:AVs ash):Z08 (cx n) 40 (T n) (kr n v) 0 (c0) :=
 Z0p (CO _) (mk n) (MX _) an0 [] [4] sh0 (g0 n n) (fun _ _ _=>rfl) (fun x kn kx=>by kernel_rfl) (l:=[(1,.loop b1)]) (by kernel_rfl) (mem_cons (u1 n v) Z00)
theorem ok (n:Nat):Z07 Tryz.prog 171 (ent n) :=
 Z0E (c:=cx n) (e:=ent n) (d:=d) (CO _) (mk n) (MX _) an Tryz.func171 (by kernel_rfl) (T n) (l:=[(0,c0)]) (by kernel_rfl) (fun v=>mem_cons (u0 n v) Z00) (fun v=>by kernel_rfl)
end spec_l01Name
namespace spec_TermKind
def l2 (n:Nat) (self:ByteArray → Option Int) (t6:ByteArray) (K0:Unit → Option Int):Nat → Int → Option Int
 | 0,_=>none
 | k + 1,t7 =>
 if decide ((IntKind.i64.wrap (t7 + 1)) < (ByteArray.size t6:Int)) = true then
 if (0:Int) ≤ t7 ∧ t7 < (ByteArray.size t6:Int) then
 (spec_l01Between.F n (IntKind.i64.wrap (Z0M t6 t7)) 32 126).bind fun r8 =>
 if (!r8) = false then
 if (0:Int) ≤ t7 ∧ t7 < (ByteArray.size t6:Int) then
 if (decide ((Z0M t6 t7) = 34)) = false then
 if (0:Int) ≤ t7 ∧ t7 < (ByteArray.size t6:Int) then
 if decide ((Z0M t6 t7) = 92) = true then
 some 0
 else
 l2 n self t6 K0 k (IntKind.i64.wrap (t7 + 1))
 else
 none
 else
 some 0
 else
 none
 else
 some 0
 else
 none
 else
 K0 ()
def j1 (n:Nat) (self:ByteArray → Option Int) (t5:ByteArray):Option Int :=
 l2 n self t5 (fun _ =>
 some 2) n 1
def l4 (n:Nat) (self:ByteArray → Option Int) (t12:List ByteArray) (K2:Unit → Option Int):Nat → Int → Option Int
 | 0,_=>none
 | k + 1,t13 =>
 if decide (t13 < (List.length t12:Int)) = true then
 if (0:Int) ≤ t13 ∧ t13 < (List.length t12:Int) then
 (self (List.getD t12 (Int.toNat t13) ByteArray.empty)).bind fun r14 =>
 if decide (r14 = 0) = true then
 some 0
 else
 l4 n self t12 K2 k (IntKind.i64.wrap (t13 + 1))
 else
 none
 else
 K2 ()
def j3 (n:Nat) (self:ByteArray → Option Int) (t11:List ByteArray):Option Int :=
 l4 n self t11 (fun _ =>
 some 3) n 0
def j0 (n:Nat) (self:ByteArray → Option Int) (t2:ByteArray):Option Int :=
 (spec_l01Number.F n t2).bind fun r3 =>
 if r3.2 = true then
 some 1
 else
 if (0:Int) ≤ 0 ∧ 0 < (ByteArray.size t2:Int) then
 if decide ((Z0M t2 0) = 34) = true then
 (spec_l01Between.F n (ByteArray.size t2:Int) 2 22).bind fun r4 =>
 if (!r4) = false then
 if (0:Int) ≤ (IntKind.i64.wrap ((ByteArray.size t2:Int) - 1)) ∧ (IntKind.i64.wrap ((ByteArray.size t2:Int) - 1)) < (ByteArray.size t2:Int) then
 if (!decide ((Z0M t2 (IntKind.i64.wrap ((ByteArray.size t2:Int) - 1))) = 34)) = true then
 some 0
 else
 j1 n self t2
 else
 none
 else
 some 0
 else
 (spec_l01Args.F n t2).bind fun r9 =>
 if (!r9.2.2) = false then
 (spec_l01Name.F n r9.1 true).bind fun r10 =>
 if (!r10) = true then
 some 0
 else
 j3 n self r9.2.1
 else
 some 0
 else
 none
def G (n:Nat) (self:ByteArray → Option Int) (t1:ByteArray):Option Int :=
 if (Abs.seq t1 ByteArray.empty) = false then
 if decide ((ByteArray.size t1:Int) > 200) = true then
 some 0
 else
 j0 n self t1
 else
 some 0
def F:Nat → ByteArray → Option Int
 | 0=>fun _=>none
 | n + 1=>G n (F n)
noncomputable def code:Code:=Tryz.f146.body.getD .skip
abbrev ash:List ASh:=[.ro .str]
abbrev rsh:List RSh:=[.ro (.int .i64)]
def ent (n:Nat):Z0W:=⟨ash,rsh,fun v=>F n v.1⟩
noncomputable def cx (n:Nat):Ctx:=Z0D Tryz.prog TYS [(94,spec_l01Between.ent n),(119,spec_l01Number.ent n),(170,spec_l01Args.ent n),(171,spec_l01Name.ent n),(146,ent n)]
noncomputable def d:FnD:=⟨code,88,.nil,[(.tmp 2,.int .i64,.ro)]⟩
noncomputable def kr (n:Nat) (v:AVs ash):KN rsh:=Z1E (cx n) d (Z0Q ash v) (Z0b rsh)
noncomputable def b2:Code:=Code.l (Code.l (Code.r (Code.l (Code.r (Code.l (Code.r (Code.l (Code.r (Code.r (Code.r (Code.r code)))))))))))
noncomputable def c1:Code:=(Code.r (Code.l (Code.r (Code.l (Code.r (Code.r (Code.r (Code.r code))))))))
noncomputable def b4:Code:=Code.l (Code.l (Code.r (Code.l (Code.r (Code.r (Code.r (Code.r (Code.r (Code.r (Code.r code))))))))))
noncomputable def c3:Code:=(Code.r (Code.r (Code.r (Code.r (Code.r (Code.r (Code.r code)))))))
noncomputable def c0:Code:=(Code.r (Code.r code))
def an:An:=.seq .nil (.seq (.seq .nil (.cond (.seq .nil .nil) .nil)) (.cut 0 [0]))
def an2:An:=.seq (.seq .nil (.cond .nil .nil)) (.seq (.block (some [0,5]) (.seq .nil (.cond (.seq .nil .nil) .nil))) .nil)
abbrev sh2:ES:=⟨[(0,.v .str),(5,.v (.int .i64))],[]⟩
abbrev sh2_0:ES:=⟨[],[]⟩
def an1:An:=.seq (.seq .nil (.block (some []) (.cut 2 [0,5]))) (.seq .nil .nil)
abbrev sh1:ES:=⟨[(0,.v .str)],[]⟩
def an4:An:=.seq (.seq .nil (.cond .nil .nil)) (.seq (.block (some [7,9]) (.seq .nil (.cond (.seq .nil .nil) .nil))) .nil)
abbrev sh4:ES:=⟨[(7,.v (.sl (.str))),(9,.v (.int .i64))],[]⟩
abbrev sh4_2:ES:=⟨[],[]⟩
def an3:An:=.seq (.seq .nil (.block (some []) (.cut 4 [7,9]))) (.seq .nil .nil)
abbrev sh3:ES:=⟨[(7,.v (.sl (.str)))],[]⟩
def an0:An:=.seq .nil (.seq (.seq .nil (.cond (.seq .nil .nil) .nil)) (.seq (.seq .nil (.cond (.seq (.seq .nil (.cond (.seq .nil .nil) .nil)) (.cut 1 [0])) .nil)) (.seq .nil (.seq (.seq .nil (.cond (.seq .nil .nil) .nil)) (.cut 3 [7])))))
abbrev sh0:ES:=⟨[(0,.v .str)],[]⟩
def g2 (n m:Nat) (x:sh2.V) (kn:KN rsh) (kx:KX rsh):Option (RVs rsh):=l2 n (F n) x.1.1 (fun _=>kx 0 (sh2_0.enc ((()),(())))) m x.1.2.1
def g1 (n m:Nat) (x:sh1.V) (kn:KN rsh) (kx:KX rsh):Option (RVs rsh):=j1 n (F n) x.1.1
def g4 (n m:Nat) (x:sh4.V) (kn:KN rsh) (kx:KX rsh):Option (RVs rsh):=l4 n (F n) x.1.1 (fun _=>kx 2 (sh4_2.enc ((()),(())))) m x.1.2.1
def g3 (n m:Nat) (x:sh3.V) (kn:KN rsh) (kx:KX rsh):Option (RVs rsh):=j3 n (F n) x.1.1
def g0 (n m:Nat) (x:sh0.V) (kn:KN rsh) (kx:KX rsh):Option (RVs rsh):=j0 n (F n) x.1.1
def T (n:Nat):Tab (RVs rsh):=fun j e kn kx=>match j with
 | 2=>ES.on sh2 e fun x=>g2 n n x kn kx
 | 1=>ES.on sh1 e fun x=>g1 n n x kn kx
 | 4=>ES.on sh4 e fun x=>g4 n n x kn kx
 | 3=>ES.on sh3 e fun x=>g3 n n x kn kx
 | 0=>ES.on sh0 e fun x=>g0 n n x kn kx
 | _=>none
theorem mk (n:Nat) (ih:Z07 Tryz.prog 146 (ent n)):MOk (cx n):=Z01 (mem_cons (spec_l01Between.ok n) (mem_cons (spec_l01Number.ok n) (mem_cons (spec_l01Args.ok n) (mem_cons (spec_l01Name.ok n) (mem_cons ih Z00)))))
theorem u2 (n:Nat) (v:AVs ash) (ih:Z07 Tryz.prog 146 (ent n)):Z08 (cx n) 88 (T n) (kr n v) 2 (.loop b2) :=
 Z0O (n:=n) (CO _) (mk n ih) (MX _) an2 [(0,[])] [0,5] sh2 (g2 n) (fun _ _ _=>rfl) (fun _ _ _=>rfl) (fun m x kn kx=>by kernel_rfl) (l:=[]) (by kernel_rfl) (Z00)
theorem u1 (n:Nat) (v:AVs ash) (ih:Z07 Tryz.prog 146 (ent n)):Z08 (cx n) 88 (T n) (kr n v) 1 (c1) :=
 Z0p (CO _) (mk n ih) (MX _) an1 [] [0] sh1 (g1 n n) (fun _ _ _=>rfl) (fun x kn kx=>by kernel_rfl) (l:=[(2,.loop b2)]) (by kernel_rfl) (mem_cons (u2 n v ih) Z00)
theorem u4 (n:Nat) (v:AVs ash) (ih:Z07 Tryz.prog 146 (ent n)):Z08 (cx n) 88 (T n) (kr n v) 4 (.loop b4) :=
 Z0O (n:=n) (CO _) (mk n ih) (MX _) an4 [(2,[])] [7,9] sh4 (g4 n) (fun _ _ _=>rfl) (fun _ _ _=>rfl) (fun m x kn kx=>by kernel_rfl) (l:=[]) (by kernel_rfl) (Z00)
theorem u3 (n:Nat) (v:AVs ash) (ih:Z07 Tryz.prog 146 (ent n)):Z08 (cx n) 88 (T n) (kr n v) 3 (c3) :=
 Z0p (CO _) (mk n ih) (MX _) an3 [] [2] sh3 (g3 n n) (fun _ _ _=>rfl) (fun x kn kx=>by kernel_rfl) (l:=[(4,.loop b4)]) (by kernel_rfl) (mem_cons (u4 n v ih) Z00)
theorem u0 (n:Nat) (v:AVs ash) (ih:Z07 Tryz.prog 146 (ent n)):Z08 (cx n) 88 (T n) (kr n v) 0 (c0) :=
 Z0p (CO _) (mk n ih) (MX _) an0 [] [2] sh0 (g0 n n) (fun _ _ _=>rfl) (fun x kn kx=>by kernel_rfl) (l:=[(1,c1),(3,c3)]) (by kernel_rfl) (mem_cons (u1 n v ih) (mem_cons (u3 n v ih) Z00))
theorem ok:(n:Nat) → Z07 Tryz.prog 146 (ent n)
 | 0=>Z2w Tryz.f146 (by kernel_rfl) (by kernel_rfl) (by kernel_rfl) (fun _=>rfl)
 | n + 1=>have ih:=ok n
  Z0E (c:=cx n) (e:=ent (n + 1)) (d:=d) (CO _) (mk n ih) (MX _) an Tryz.func146 (by kernel_rfl) (T n) (l:=[(0,c0)]) (by kernel_rfl) (fun v=>mem_cons (u0 n v ih) Z00) (fun v=>by kernel_rfl)
end spec_TermKind
namespace spec_l01Sign
def F (n:Nat) (t1:Int):Option Int :=
 if decide (t1 < 0) = true then
 some (-1)
 else
 if decide (t1 > 0) = true then
 some 1
 else
 some 0
noncomputable def code:Code:=Tryz.f164.body.getD .skip
abbrev ash:List ASh:=[.ro (.int .i64)]
abbrev rsh:List RSh:=[.ro (.int .i64)]
def ent (n:Nat):Z0W:=⟨ash,rsh,fun v=>F n v.1⟩
noncomputable def cx (n:Nat):Ctx:=Z0D Tryz.prog TYS []
noncomputable def d:FnD:=⟨code,9,.nil,[(.tmp 2,.int .i64,.ro)]⟩
def an:An:=.seq .nil (.seq (.block (some []) (.seq .nil (.cond (.seq .nil .nil) (.seq .nil (.cond (.seq .nil .nil) .nil))))) (.seq .nil .nil))
theorem ok (n:Nat):Z07 Tryz.prog 164 (ent n) :=
 Z0H (c:=cx n) (e:=ent n) (d:=d) (CO _) (Z01 (Z00)) (MX _) an Tryz.func164 (by kernel_rfl) (by kernel_rfl) (fun v=>by kernel_rfl)
end spec_l01Sign
namespace spec_l01Texts
def F (n:Nat) (a1:ByteArray) (b2:ByteArray):Option Int :=
 if (slt a1 b2) = true then
 some (-1)
 else
 if (!(slt a1 b2 || Abs.seq a1 b2)) = true then
 some 1
 else
 some 0
noncomputable def code:Code:=Tryz.f186.body.getD .skip
abbrev ash:List ASh:=[.ro .str,.ro .str]
abbrev rsh:List RSh:=[.ro (.int .i64)]
def ent (n:Nat):Z0W:=⟨ash,rsh,fun v=>F n v.1 v.2.1⟩
noncomputable def cx (n:Nat):Ctx:=Z0D Tryz.prog TYS []
noncomputable def d:FnD:=⟨code,13,.nil,[(.tmp 4,.int .i64,.ro)]⟩
def an:An:=.seq .nil (.seq (.block (some []) (.seq .nil (.cond (.seq .nil .nil) (.seq .nil (.cond (.seq .nil .nil) .nil))))) (.seq .nil .nil))
theorem ok (n:Nat):Z07 Tryz.prog 186 (ent n) :=
 Z0H (c:=cx n) (e:=ent n) (d:=d) (CO _) (Z01 (Z00)) (MX _) an Tryz.func186 (by kernel_rfl) (by kernel_rfl) (fun v=>by kernel_rfl)
end spec_l01Texts
namespace spec_TermParts
def F (n:Nat) (s1:ByteArray):Option (ByteArray × List ByteArray) :=
 (spec_TermKind.F n s1).bind fun r2 =>
 if decide (r2 = 0) = true then
 some (ByteArray.empty,[])
 else
 if decide (r2 = 3) = true then
 (spec_l01Args.F n s1).bind fun r3 =>
 some (r3.1,r3.2.1)
 else
 some (s1,[])
noncomputable def code:Code:=Tryz.f187.body.getD .skip
abbrev ash:List ASh:=[.ro .str]
abbrev rsh:List RSh:=[.ro .str,.ro (.sl (.str))]
def ent (n:Nat):Z0W:=⟨ash,rsh,fun v=>F n v.1⟩
noncomputable def cx (n:Nat):Ctx:=Z0D Tryz.prog TYS [(146,spec_TermKind.ent n),(170,spec_l01Args.ent n)]
noncomputable def d:FnD:=⟨code,24,.nil,[(.tmp 2,.str,.ro),(.tmp 3,.sl (.str),.ro)]⟩
def an:An:=.seq .nil (.seq (.seq .nil (.block (some [0]) (.seq .nil (.cond (.seq .nil .nil) (.seq .nil (.cond (.seq .nil (.seq .nil .nil)) .nil)))))) (.seq .nil .nil))
theorem ok (n:Nat):Z07 Tryz.prog 187 (ent n) :=
 Z0H (c:=cx n) (e:=ent n) (d:=d) (CO _) (Z01 (mem_cons (spec_TermKind.ok n) (mem_cons (spec_l01Args.ok n) Z00))) (MX _) an Tryz.func187 (by kernel_rfl) (by kernel_rfl) (fun v=>by kernel_rfl)
end spec_TermParts
namespace spec_l01Cmp
def l0 (n:Nat) (self:ByteArray → ByteArray → Option Int) (t14:List ByteArray) (t15:List ByteArray) (K1:Unit → Option Int):Nat → Int → Option Int
 | 0,_=>none
 | k + 1,t16 =>
 if decide (t16 < (List.length t14:Int)) = true then
 if (0:Int) ≤ t16 ∧ t16 < (List.length t14:Int) then
 if (0:Int) ≤ t16 ∧ t16 < (List.length t15:Int) then
 (self (List.getD t14 (Int.toNat t16) ByteArray.empty) (List.getD t15 (Int.toNat t16) ByteArray.empty)).bind fun r17 =>
 if (!decide (r17 = 0)) = true then
 some r17
 else
 l0 n self t14 t15 K1 k (IntKind.i64.wrap (t16 + 1))
 else
 none
 else
 none
 else
 K1 ()
def G (n:Nat) (self:ByteArray → ByteArray → Option Int) (t1:ByteArray) (t2:ByteArray):Option Int :=
 (spec_TermKind.F n t1).bind fun r3 =>
 (spec_TermKind.F n t2).bind fun r4 =>
 if (!decide (r3 = r4)) = true then
 (spec_l01Sign.F n (IntKind.i64.wrap (r3 - r4))).bind fun r5 =>
 some r5
 else
 if decide (r3 = 1) = true then
 (spec_l01Number.F n t1).bind fun r6 =>
 (spec_l01Number.F n t2).bind fun r7 =>
 (spec_l01Sign.F n (IntKind.i64.wrap (r6.1 - r7.1))).bind fun r8 =>
 some r8
 else
 if decide (r3 = 2) = true then
 if (0:Int) ≤ 1 ∧ (1:Int) ≤ (IntKind.i64.wrap ((ByteArray.size t1:Int) - 1)) ∧ (IntKind.i64.wrap ((ByteArray.size t1:Int) - 1)) ≤ (ByteArray.size t1:Int) then
 if (0:Int) ≤ 1 ∧ (1:Int) ≤ (IntKind.i64.wrap ((ByteArray.size t2:Int) - 1)) ∧ (IntKind.i64.wrap ((ByteArray.size t2:Int) - 1)) ≤ (ByteArray.size t2:Int) then
 (spec_l01Texts.F n (ByteArray.extract t1 (Int.toNat 1) (Int.toNat (IntKind.i64.wrap ((ByteArray.size t1:Int) - 1)))) (ByteArray.extract t2 (Int.toNat 1) (Int.toNat (IntKind.i64.wrap ((ByteArray.size t2:Int) - 1))))).bind fun r9 =>
 some r9
 else
 none
 else
 none
 else
 (spec_TermParts.F n t1).bind fun r10 =>
 (spec_TermParts.F n t2).bind fun r11 =>
 if (!(Abs.seq r10.1 r11.1)) = true then
 (spec_l01Texts.F n r10.1 r11.1).bind fun r12 =>
 some r12
 else
 if (!decide ((List.length r10.2:Int) = (List.length r11.2:Int))) = true then
 (spec_l01Sign.F n (IntKind.i64.wrap ((List.length r10.2:Int) - (List.length r11.2:Int)))).bind fun r13 =>
 some r13
 else
 l0 n self r10.2 r11.2 (fun _ =>
 some 0) n 0
def F:Nat → ByteArray → ByteArray → Option Int
 | 0=>fun _ _=>none
 | n + 1=>G n (F n)
noncomputable def code:Code:=Tryz.f163.body.getD .skip
abbrev ash:List ASh:=[.ro .str,.ro .str]
abbrev rsh:List RSh:=[.ro (.int .i64)]
def ent (n:Nat):Z0W:=⟨ash,rsh,fun v=>F n v.1 v.2.1⟩
noncomputable def cx (n:Nat):Ctx:=Z0D Tryz.prog TYS [(119,spec_l01Number.ent n),(146,spec_TermKind.ent n),(164,spec_l01Sign.ent n),(186,spec_l01Texts.ent n),(187,spec_TermParts.ent n),(163,ent n)]
noncomputable def d:FnD:=⟨code,103,.nil,[(.tmp 4,.int .i64,.ro)]⟩
noncomputable def kr (n:Nat) (v:AVs ash):KN rsh:=Z1E (cx n) d (Z0Q ash v) (Z0b rsh)
noncomputable def b0:Code:=Code.l (Code.l (Code.r (Code.l (Code.r (Code.r (Code.r (Code.r (Code.r (Code.r (Code.r (Code.r code)))))))))))
def an:An:=.seq .nil (.seq .nil (.seq (.seq .nil (.cond (.seq .nil .nil) .nil)) (.seq (.seq .nil (.block (some [0,1]) (.seq .nil (.cond (.seq .nil (.seq .nil (.seq .nil .nil))) (.seq .nil (.cond (.seq .nil .nil) .nil)))))) (.seq .nil (.seq .nil (.seq (.seq .nil (.cond (.seq .nil .nil) .nil)) (.seq (.seq .nil (.cond (.seq .nil .nil) .nil)) (.seq (.seq .nil (.block (some []) (.cut 0 [12,14,15]))) (.seq .nil .nil)))))))))
def an0:An:=.seq (.seq .nil (.cond .nil .nil)) (.seq (.block (some [12,14,15]) (.seq .nil (.seq .nil (.cond (.seq .nil .nil) .nil)))) .nil)
abbrev sh0:ES:=⟨[(12,.v (.sl (.str))),(14,.v (.sl (.str))),(15,.v (.int .i64))],[]⟩
abbrev sh0_1:ES:=⟨[],[]⟩
def g0 (n m:Nat) (x:sh0.V) (kn:KN rsh) (kx:KX rsh):Option (RVs rsh):=l0 n (F n) x.1.1 x.1.2.1 (fun _=>kx 1 (sh0_1.enc ((()),(())))) m x.1.2.2.1
def T (n:Nat):Tab (RVs rsh):=fun j e kn kx=>match j with
 | 0=>ES.on sh0 e fun x=>g0 n n x kn kx
 | _=>none
theorem mk (n:Nat) (ih:Z07 Tryz.prog 163 (ent n)):MOk (cx n):=Z01 (mem_cons (spec_l01Number.ok n) (mem_cons (spec_TermKind.ok n) (mem_cons (spec_l01Sign.ok n) (mem_cons (spec_l01Texts.ok n) (mem_cons (spec_TermParts.ok n) (mem_cons ih Z00))))))
theorem u0 (n:Nat) (v:AVs ash) (ih:Z07 Tryz.prog 163 (ent n)):Z08 (cx n) 103 (T n) (kr n v) 0 (.loop b0) :=
 Z0O (n:=n) (CO _) (mk n ih) (MX _) an0 [(1,[])] [12,14,15] sh0 (g0 n) (fun _ _ _=>rfl) (fun _ _ _=>rfl) (fun m x kn kx=>by kernel_rfl) (l:=[]) (by kernel_rfl) (Z00)
theorem ok:(n:Nat) → Z07 Tryz.prog 163 (ent n)
 | 0=>Z2w Tryz.f163 (by kernel_rfl) (by kernel_rfl) (by kernel_rfl) (fun _=>rfl)
 | n + 1=>have ih:=ok n
  Z0E (c:=cx n) (e:=ent (n + 1)) (d:=d) (CO _) (mk n ih) (MX _) an Tryz.func163 (by kernel_rfl) (T n) (l:=[(0,.loop b0)]) (by kernel_rfl) (fun v=>mem_cons (u0 n v ih) Z00) (fun v=>by kernel_rfl)
end spec_l01Cmp
namespace spec_l02Cmp
def j1 (n:Nat) (i6:Int) (a7:List ByteArray) (b8:List ByteArray) (Kn:Int → Option Int):Option Int :=
 if (0:Int) ≤ i6 ∧ i6 < (List.length a7:Int) then
 if (0:Int) ≤ i6 ∧ i6 < (List.length b8:Int) then
 (spec_l01Cmp.F n (List.getD a7 (Int.toNat i6) ByteArray.empty) (List.getD b8 (Int.toNat i6) ByteArray.empty)).bind fun r9 =>
 if (!decide (r9 = 0)) = true then
 some r9
 else
 Kn (IntKind.i64.wrap (i6 + 1))
 else
 none
 else
 none
def l0 (n:Nat) (a4:List ByteArray) (b5:List ByteArray) (K0:Unit → Option Int):Nat → Int → Option Int
 | 0,_=>none
 | k + 1,i3 =>
 if (decide (i3 < (List.length a4:Int))) = true then
 if decide (i3 < (List.length b5:Int)) = true then
 j1 n i3 a4 b5 (fun i10 =>
 l0 n a4 b5 K0 k i10)
 else
 K0 ()
 else
 K0 ()
def F (n:Nat) (a1:List ByteArray) (b2:List ByteArray):Option Int :=
 l0 n a1 b2 (fun _ =>
 (spec_l01Sign.F n (IntKind.i64.wrap ((List.length a1:Int) - (List.length b2:Int)))).bind fun r11 =>
 some r11) n 0
noncomputable def code:Code:=Tryz.f128.body.getD .skip
abbrev ash:List ASh:=[.ro (.st (.sl (.str))),.ro (.st (.sl (.str)))]
abbrev rsh:List RSh:=[.ro (.int .i64)]
def ent (n:Nat):Z0W:=⟨ash,rsh,fun v=>F n v.1 v.2.1⟩
noncomputable def cx (n:Nat):Ctx:=Z0D Tryz.prog TYS [(163,spec_l01Cmp.ent n),(164,spec_l01Sign.ent n)]
noncomputable def d:FnD:=⟨code,43,.nil,[(.tmp 4,.int .i64,.ro)]⟩
noncomputable def kr (n:Nat) (v:AVs ash):KN rsh:=Z1E (cx n) d (Z0Q ash v) (Z0b rsh)
noncomputable def c1:Code:=(Code.r (Code.l (Code.l (Code.r (Code.l (Code.r code))))))
noncomputable def b0:Code:=Code.l (Code.l (Code.r (Code.l (Code.r code))))
def an:An:=.seq .nil (.seq (.seq .nil (.block (some [2,3]) (.cut 0 [2,3,5]))) (.seq .nil .nil))
def an1:An:=.seq (.block (some [2,3,5]) (.seq .nil (.seq .nil (.cond (.seq .nil .nil) .nil)))) .nil
abbrev sh1:ES:=⟨[(2,.pt 2 []),(3,.pt 3 []),(5,.v (.int .i64))],[⟨2,.st (.sl (.str)),.ro,true,false,none⟩,⟨3,.st (.sl (.str)),.ro,true,false,none⟩]⟩
abbrev sh1_n:ES:=⟨[(2,.pt 2 []),(3,.pt 3 []),(5,.v (.int .i64))],[⟨2,.st (.sl (.str)),.ro,true,false,none⟩,⟨3,.st (.sl (.str)),.ro,true,false,none⟩]⟩
def an0:An:=.seq (.seq .nil (.cond .nil .nil)) (.cut 1 [2,3,5])
abbrev sh0:ES:=⟨[(2,.pt 2 []),(3,.pt 3 []),(5,.v (.int .i64))],[⟨2,.st (.sl (.str)),.ro,true,false,none⟩,⟨3,.st (.sl (.str)),.ro,true,false,none⟩]⟩
abbrev sh0_0:ES:=⟨[(2,.pt 2 []),(3,.pt 3 [])],[⟨2,.st (.sl (.str)),.ro,true,false,none⟩,⟨3,.st (.sl (.str)),.ro,true,false,none⟩]⟩
def g1 (n m:Nat) (x:sh1.V) (kn:KN rsh) (kx:KX rsh):Option (RVs rsh):=j1 n x.1.2.2.1 x.2.1 x.2.2.1 (fun y0=>kn (sh1_n.enc (((()),(()),y0,()),(x.2.1,x.2.2.1,()))))
def g0 (n m:Nat) (x:sh0.V) (kn:KN rsh) (kx:KX rsh):Option (RVs rsh):=l0 n x.2.1 x.2.2.1 (fun _=>kx 0 (sh0_0.enc (((()),(()),()),(x.2.1,x.2.2.1,())))) m x.1.2.2.1
def T (n:Nat):Tab (RVs rsh):=fun j e kn kx=>match j with
 | 1=>ES.on sh1 e fun x=>g1 n n x kn kx
 | 0=>ES.on sh0 e fun x=>g0 n n x kn kx
 | _=>none
theorem mk (n:Nat):MOk (cx n):=Z01 (mem_cons (spec_l01Cmp.ok n) (mem_cons (spec_l01Sign.ok n) Z00))
theorem u1 (n:Nat) (v:AVs ash):Z08 (cx n) 43 (T n) (kr n v) 1 (c1) :=
 Z0p (CO _) (mk n) (MX _) an1 [(0,[2,3])] [2,3,5] sh1 (g1 n n) (fun _ _ _=>rfl) (fun x kn kx=>by kernel_rfl) (l:=[]) (by kernel_rfl) (Z00)
theorem u0 (n:Nat) (v:AVs ash):Z08 (cx n) 43 (T n) (kr n v) 0 (.loop b0) :=
 Z0O (n:=n) (CO _) (mk n) (MX _) an0 [(0,[2,3])] [2,3,5] sh0 (g0 n) (fun _ _ _=>rfl) (fun _ _ _=>rfl) (fun m x kn kx=>by kernel_rfl) (l:=[(1,c1)]) (by kernel_rfl) (mem_cons (u1 n v) Z00)
theorem ok (n:Nat):Z07 Tryz.prog 128 (ent n) :=
 Z0E (c:=cx n) (e:=ent n) (d:=d) (CO _) (mk n) (MX _) an Tryz.func128 (by kernel_rfl) (T n) (l:=[(0,.loop b0)]) (by kernel_rfl) (fun v=>mem_cons (u0 n v) Z00) (fun v=>by kernel_rfl)
end spec_l02Cmp
namespace spec_l02Tuple
def F (n:Nat) (t1:List ByteArray):Option (List ByteArray) :=
 if List.length ([]:List ByteArray) + List.length t1 ≤ lim then
 some ([] ++ t1)
 else
 none
noncomputable def code:Code:=Tryz.f117.body.getD .skip
abbrev ash:List ASh:=[.ro (.st (.sl (.str)))]
abbrev rsh:List RSh:=[.ro (.st (.sl (.str)))]
def ent (n:Nat):Z0W:=⟨ash,rsh,fun v=>F n v.1⟩
noncomputable def cx (n:Nat):Ctx:=Z0D Tryz.prog TYS []
noncomputable def d:FnD:=⟨code,8,.nil,[(.cell 2 49,.st (.sl (.str)),.ro)]⟩
def an:An:=.seq .nil (.seq (.reg [(3,.own .ro),(7,.own .ro)]) .nil)
theorem ok (n:Nat):Z07 Tryz.prog 117 (ent n) :=
 Z0H (c:=cx n) (e:=ent n) (d:=d) (CO _) (Z01 (Z00)) (MX _) an Tryz.func117 (by kernel_rfl) (by kernel_rfl) (fun v=>by kernel_rfl)
end spec_l02Tuple
namespace spec_l02Put
def l0 (n:Nat) (rows4:List (List ByteArray)) (t5:List ByteArray) (K0:Int → Option ((List (List ByteArray)) × Bool)):Nat → Int → Option ((List (List ByteArray)) × Bool)
 | 0,_=>none
 | k + 1,t3 =>
 if (decide (t3 < (List.length rows4:Int))) = true then
 if (0:Int) ≤ t3 ∧ t3 < (List.length rows4:Int) then
 (spec_l02Cmp.F n (List.getD rows4 (Int.toNat t3) []) t5).bind fun r6 =>
 if decide (r6 < 0) = true then
 l0 n rows4 t5 K0 k (IntKind.i64.wrap (t3 + 1))
 else
 K0 t3
 else
 none
 else
 K0 t3
def j1 (n:Nat) (t9:Int) (rows10:List (List ByteArray)) (t11:List ByteArray):Option ((List (List ByteArray)) × Bool) :=
 if (0:Int) ≤ 0 ∧ (0:Int) ≤ t9 ∧ t9 ≤ (List.length rows10:Int) then
 if List.length ([]:List (List ByteArray)) + List.length (List.drop (Int.toNat 0) (List.take (Int.toNat t9) rows10)) ≤ lim then
 (spec_l02Tuple.F n t11).bind fun r12 =>
 if List.length ([] ++ (List.drop (Int.toNat 0) (List.take (Int.toNat t9) rows10))) + List.length [r12] ≤ lim then
 if (0:Int) ≤ t9 ∧ t9 ≤ (List.length rows10:Int) ∧ (List.length rows10:Int) ≤ (List.length rows10:Int) then
 if List.length (([] ++ (List.drop (Int.toNat 0) (List.take (Int.toNat t9) rows10))) ++ [r12]) + List.length (List.drop (Int.toNat t9) (List.take (Int.toNat (List.length rows10:Int)) rows10)) ≤ lim then
 some ((([] ++ (List.drop (Int.toNat 0) (List.take (Int.toNat t9) rows10))) ++ [r12]) ++ (List.drop (Int.toNat t9) (List.take (Int.toNat (List.length rows10:Int)) rows10)),true)
 else
 none
 else
 none
 else
 none
 else
 none
 else
 none
def F (n:Nat) (rows1:List (List ByteArray)) (t2:List ByteArray):Option ((List (List ByteArray)) × Bool) :=
 l0 n rows1 t2 (fun t7 =>
 if (decide (t7 < (List.length rows1:Int))) = true then
 if (0:Int) ≤ t7 ∧ t7 < (List.length rows1:Int) then
 (spec_l02Cmp.F n (List.getD rows1 (Int.toNat t7) []) t2).bind fun r8 =>
 if decide (r8 = 0) = true then
 some (rows1,false)
 else
 j1 n t7 rows1 t2
 else
 none
 else
 j1 n t7 rows1 t2) n 0
noncomputable def code:Code:=Tryz.f97.body.getD .skip
abbrev ash:List ASh:=[.mv (.sl (.st (.sl (.str)))) (.own .ro),.ro (.st (.sl (.str)))]
abbrev rsh:List RSh:=[.own (.sl (.st (.sl (.str)))) (.own .ro),.ro .bool]
def ent (n:Nat):Z0W:=⟨ash,rsh,fun v=>F n v.1 v.2.1⟩
noncomputable def cx (n:Nat):Ctx:=Z0D Tryz.prog TYS [(117,spec_l02Tuple.ent n),(128,spec_l02Cmp.ent n)]
noncomputable def d:FnD:=⟨code,52,.nil,[(.tmp 4,.sl (.st (.sl (.str))),.own .ro),(.tmp 5,.bool,.ro)]⟩
noncomputable def kr (n:Nat) (v:AVs ash):KN rsh:=Z1E (cx n) d (Z0Q ash v) (Z0b rsh)
noncomputable def b0:Code:=Code.l (Code.l (Code.l (Code.r (Code.r code))))
noncomputable def c1:Code:=(Code.r (Code.r (Code.r (Code.r code))))
def an:An:=.seq .nil (.seq .nil (.seq (.block (some [0,3,6]) (.cut 0 [0,3,6])) (.seq (.seq .nil (.cond (.seq .nil .nil) .nil)) (.cut 1 [0,3,6]))))
def an0:An:=.seq (.seq .nil (.cond .nil .nil)) (.block (some [0,3,6]) .nil)
abbrev sh0:ES:=⟨[(0,.al 0 []),(3,.pt 3 []),(6,.v (.int .i64))],[⟨0,.sl (.st (.sl (.str))),.own .ro,false,false,none⟩,⟨3,.st (.sl (.str)),.ro,true,false,none⟩]⟩
abbrev sh0_0:ES:=⟨[(0,.al 0 []),(3,.pt 3 []),(6,.v (.int .i64))],[⟨0,.sl (.st (.sl (.str))),.own .ro,false,false,none⟩,⟨3,.st (.sl (.str)),.ro,true,false,none⟩]⟩
def an1:An:=.seq (.reg [(37,.own .ro),(40,.ro)]) (.seq .nil (.seq (.reg [(50,.ro)]) .nil))
abbrev sh1:ES:=⟨[(0,.al 0 []),(3,.pt 3 []),(6,.v (.int .i64))],[⟨0,.sl (.st (.sl (.str))),.own .ro,false,false,none⟩,⟨3,.st (.sl (.str)),.ro,true,false,none⟩]⟩
def g0 (n m:Nat) (x:sh0.V) (kn:KN rsh) (kx:KX rsh):Option (RVs rsh):=l0 n x.2.1 x.2.2.1 (fun y0=>kx 0 (sh0_0.enc (((()),(()),y0,()),(x.2.1,x.2.2.1,())))) m x.1.2.2.1
def g1 (n m:Nat) (x:sh1.V) (kn:KN rsh) (kx:KX rsh):Option (RVs rsh):=j1 n x.1.2.2.1 x.2.1 x.2.2.1
def T (n:Nat):Tab (RVs rsh):=fun j e kn kx=>match j with
 | 0=>ES.on sh0 e fun x=>g0 n n x kn kx
 | 1=>ES.on sh1 e fun x=>g1 n n x kn kx
 | _=>none
theorem mk (n:Nat):MOk (cx n):=Z01 (mem_cons (spec_l02Tuple.ok n) (mem_cons (spec_l02Cmp.ok n) Z00))
theorem u0 (n:Nat) (v:AVs ash):Z08 (cx n) 52 (T n) (kr n v) 0 (.loop b0) :=
 Z0O (n:=n) (CO _) (mk n) (MX _) an0 [(0,[0,3,6])] [0,3,6] sh0 (g0 n) (fun _ _ _=>rfl) (fun _ _ _=>rfl) (fun m x kn kx=>by kernel_rfl) (l:=[]) (by kernel_rfl) (Z00)
theorem u1 (n:Nat) (v:AVs ash):Z08 (cx n) 52 (T n) (kr n v) 1 (c1) :=
 Z0p (CO _) (mk n) (MX _) an1 [] [4,5] sh1 (g1 n n) (fun _ _ _=>rfl) (fun x kn kx=>by kernel_rfl) (l:=[]) (by kernel_rfl) (Z00)
theorem ok (n:Nat):Z07 Tryz.prog 97 (ent n) :=
 Z0E (c:=cx n) (e:=ent n) (d:=d) (CO _) (mk n) (MX _) an Tryz.func97 (by kernel_rfl) (T n) (l:=[(0,.loop b0),(1,c1)]) (by kernel_rfl) (fun v=>mem_cons (u0 n v) (mem_cons (u1 n v) Z00)) (fun v=>by kernel_rfl)
end spec_l02Put
namespace spec_l01Cur_once
def F (n:Nat) (c1:(List Int) × Int × Int) (t2:Int):Option (Bool × (List Int) × Int × Int) :=
 (spec_l01Cur_pick.F n c1 t2).bind fun r3 =>
 some (decide (r3.1 = (IntKind.i64.wrap (t2 - 1))),r3.2)
noncomputable def code:Code:=Tryz.f82.body.getD .skip
abbrev ash:List ASh:=[.mp (.st (.pair (.sl (.int .u8)) (.pair (.int .i64) (.int .i64)))) .ro,.ro (.int .i64)]
abbrev rsh:List RSh:=[.ro .bool,.out (.st (.pair (.sl (.int .u8)) (.pair (.int .i64) (.int .i64))))]
def ent (n:Nat):Z0W:=⟨ash,rsh,fun v=>F n v.1 v.2.1⟩
noncomputable def cx (n:Nat):Ctx:=Z0D Tryz.prog TYS [(83,spec_l01Cur_pick.ent n)]
noncomputable def d:FnD:=⟨code,11,.nil,[(.tmp 4,.bool,.ro)]⟩
def an:An:=.seq .nil (.seq .nil .nil)
theorem ok (n:Nat):Z07 Tryz.prog 82 (ent n) :=
 Z0H (c:=cx n) (e:=ent n) (d:=d) (CO _) (Z01 (mem_cons (spec_l01Cur_pick.ok n) Z00)) (MX _) an Tryz.func82 (by kernel_rfl) (by kernel_rfl) (fun v=>by kernel_rfl)
end spec_l01Cur_once
namespace spec_l01Cur_raw
def F (n:Nat) (c1:(List Int) × Int × Int):Option (Int × (List Int) × Int × Int) :=
 (spec_l01Cur_pick.F n c1 8).bind fun r2 =>
 if decide (r2.1 = 0) = true then
 (spec_l01Cur_pick.F n r2.2 256).bind fun r3 =>
 some (IntKind.i64.wrap (r3.1 - 128),r3.2)
 else
 if decide (r2.1 = 1) = true then
 (spec_l01Cur_pick.F n r2.2 8).bind fun r4 =>
 if (0:Int) ≤ r4.1 ∧ r4.1 < (List.length [9223372036854775807,(-9223372036854775808),4611686018427387904,1000,1001,(-1000),100000,100001]:Int) then
 some (List.getD [9223372036854775807,(-9223372036854775808),4611686018427387904,1000,1001,(-1000),100000,100001] (Int.toNat r4.1) 0,r4.2)
 else
 none
 else
 (spec_l01Cur_pick.F n r2.2 14).bind fun r5 =>
 some (IntKind.i64.wrap (r5.1 - 3),r5.2)
noncomputable def code:Code:=Tryz.f85.body.getD .skip
abbrev ash:List ASh:=[.mp (.st (.pair (.sl (.int .u8)) (.pair (.int .i64) (.int .i64)))) .ro]
abbrev rsh:List RSh:=[.ro (.int .i64),.out (.st (.pair (.sl (.int .u8)) (.pair (.int .i64) (.int .i64))))]
def ent (n:Nat):Z0W:=⟨ash,rsh,fun v=>F n v.1⟩
noncomputable def cx (n:Nat):Ctx:=Z0D Tryz.prog TYS [(83,spec_l01Cur_pick.ent n)]
noncomputable def d:FnD:=⟨code,20,.nil,[(.tmp 2,.int .i64,.ro)]⟩
def an:An:=.seq .nil (.seq (.seq .nil (.block (some [0]) (.seq .nil (.cond (.seq .nil .nil) (.seq .nil (.cond (.seq .nil .nil) .nil)))))) (.seq .nil .nil))
theorem ok (n:Nat):Z07 Tryz.prog 85 (ent n) :=
 Z0H (c:=cx n) (e:=ent n) (d:=d) (CO _) (Z01 (mem_cons (spec_l01Cur_pick.ok n) Z00)) (MX _) an Tryz.func85 (by kernel_rfl) (by kernel_rfl) (fun v=>by kernel_rfl)
end spec_l01Cur_raw
namespace spec_l01Cur_term
def j2 (n:Nat) (self:((List Int) × Int × Int) → Int → Option (ByteArray × (List Int) × Int × Int)) (t15:Int) (t16:Int) (t17:Bool) (t18:(List Int) × Int × Int) (Kn:Unit → Option (ByteArray × (List Int) × Int × Int)):Option (ByteArray × (List Int) × Int × Int) :=
 if t17 = true then
 (self t18 (IntKind.i64.wrap (t15 - 1))).bind fun r19 =>
 if ByteArray.size ⟨#[67,111,110,115,40]⟩ + ByteArray.size r19.1 ≤ lim then
 if ByteArray.size (⟨#[67,111,110,115,40]⟩ ++ r19.1) + ByteArray.size ⟨#[44]⟩ ≤ lim then
 (self r19.2 (IntKind.i64.wrap (t15 - 1))).bind fun r20 =>
 if ByteArray.size ((⟨#[67,111,110,115,40]⟩ ++ r19.1) ++ ⟨#[44]⟩) + ByteArray.size r20.1 ≤ lim then
 if ByteArray.size (((⟨#[67,111,110,115,40]⟩ ++ r19.1) ++ ⟨#[44]⟩) ++ r20.1) + ByteArray.size ⟨#[41]⟩ ≤ lim then
 some ((((⟨#[67,111,110,115,40]⟩ ++ r19.1) ++ ⟨#[44]⟩) ++ r20.1) ++ ⟨#[41]⟩,r20.2)
 else
 none
 else
 none
 else
 none
 else
 none
 else
 if decide (t16 = 7) = true then
 (self t18 (IntKind.i64.wrap (t15 - 1))).bind fun r21 =>
 if ByteArray.size ⟨#[83,40]⟩ + ByteArray.size r21.1 ≤ lim then
 if ByteArray.size (⟨#[83,40]⟩ ++ r21.1) + ByteArray.size ⟨#[41]⟩ ≤ lim then
 some ((⟨#[83,40]⟩ ++ r21.1) ++ ⟨#[41]⟩,r21.2)
 else
 none
 else
 none
 else
 Kn ()
def j1 (n:Nat) (self:((List Int) × Int × Int) → Int → Option (ByteArray × (List Int) × Int × Int)) (t7:Int) (t8:Int) (t9:Bool) (t10:(List Int) × Int × Int) (Kn:Unit → Option (ByteArray × (List Int) × Int × Int)):Option (ByteArray × (List Int) × Int × Int) :=
 if t9 = true then
 (spec_l01Cur_pick.F n t10 8).bind fun r11 =>
 if (0:Int) ≤ r11.1 ∧ r11.1 < (List.length [0,1,2,3,(-1),10,1000000,(-1000000)]:Int) then
 (spec_NumText.F n (List.getD [0,1,2,3,(-1),10,1000000,(-1000000)] (Int.toNat r11.1) 0)).bind fun r12 =>
 some (r12,r11.2)
 else
 none
 else
 if decide (t8 = 3) = true then
 (spec_l01Cur_pick.F n t10 5).bind fun r13 =>
 if (0:Int) ≤ r13.1 ∧ r13.1 < (List.length ([⟨#[34,34]⟩,⟨#[34,97,34]⟩,⟨#[34,98,32,99,34]⟩,⟨#[34,40,44,41,34]⟩,⟨#[34,120,34]⟩]:List ByteArray):Int) then
 some (List.getD ([⟨#[34,34]⟩,⟨#[34,97,34]⟩,⟨#[34,98,32,99,34]⟩,⟨#[34,40,44,41,34]⟩,⟨#[34,120,34]⟩]:List ByteArray) (Int.toNat r13.1) ByteArray.empty,r13.2)
 else
 none
 else
 if decide (t8 = 4) = true then
 (spec_l01Cur_pick.F n t10 4).bind fun r14 =>
 if (0:Int) ≤ r14.1 ∧ r14.1 < (List.length ([⟨#[78,105,108]⟩,⟨#[76,101,97,102]⟩,⟨#[65]⟩,⟨#[90,101,114,111]⟩]:List ByteArray):Int) then
 some (List.getD ([⟨#[78,105,108]⟩,⟨#[76,101,97,102]⟩,⟨#[65]⟩,⟨#[90,101,114,111]⟩]:List ByteArray) (Int.toNat r14.1) ByteArray.empty,r14.2)
 else
 none
 else
 if decide (t8 = 5) = true then
 j2 n self t7 t8 (decide (t8 = 5)) t10 (fun _ =>
 Kn ())
 else
 j2 n self t7 t8 (decide (t8 = 6)) t10 (fun _ =>
 Kn ())
def j3 (n:Nat) (self:((List Int) × Int × Int) → Int → Option (ByteArray × (List Int) × Int × Int)) (t22:Int) (t23:(List Int) × Int × Int):Option (ByteArray × (List Int) × Int × Int) :=
 (self t23 (IntKind.i64.wrap (t22 - 1))).bind fun r24 =>
 if ByteArray.size ⟨#[78,111,100,101,40]⟩ + ByteArray.size r24.1 ≤ lim then
 if ByteArray.size (⟨#[78,111,100,101,40]⟩ ++ r24.1) + ByteArray.size ⟨#[44]⟩ ≤ lim then
 (self r24.2 (IntKind.i64.wrap (t22 - 1))).bind fun r25 =>
 if ByteArray.size ((⟨#[78,111,100,101,40]⟩ ++ r24.1) ++ ⟨#[44]⟩) + ByteArray.size r25.1 ≤ lim then
 if ByteArray.size (((⟨#[78,111,100,101,40]⟩ ++ r24.1) ++ ⟨#[44]⟩) ++ r25.1) + ByteArray.size ⟨#[44]⟩ ≤ lim then
 (self r25.2 (IntKind.i64.wrap (t22 - 1))).bind fun r26 =>
 if ByteArray.size ((((⟨#[78,111,100,101,40]⟩ ++ r24.1) ++ ⟨#[44]⟩) ++ r25.1) ++ ⟨#[44]⟩) + ByteArray.size r26.1 ≤ lim then
 if ByteArray.size (((((⟨#[78,111,100,101,40]⟩ ++ r24.1) ++ ⟨#[44]⟩) ++ r25.1) ++ ⟨#[44]⟩) ++ r26.1) + ByteArray.size ⟨#[41]⟩ ≤ lim then
 some ((((((⟨#[78,111,100,101,40]⟩ ++ r24.1) ++ ⟨#[44]⟩) ++ r25.1) ++ ⟨#[44]⟩) ++ r26.1) ++ ⟨#[41]⟩,r26.2)
 else
 none
 else
 none
 else
 none
 else
 none
 else
 none
 else
 none
def j0 (n:Nat) (self:((List Int) × Int × Int) → Int → Option (ByteArray × (List Int) × Int × Int)) (t4:Int) (t5:Int) (t6:(List Int) × Int × Int):Option (ByteArray × (List Int) × Int × Int) :=
 if decide (t5 = 0) = true then
 j1 n self t4 t5 (decide (t5 = 0)) t6 (fun _ =>
 j3 n self t4 t6)
 else
 if decide (t5 = 1) = true then
 j1 n self t4 t5 (decide (t5 = 1)) t6 (fun _ =>
 j3 n self t4 t6)
 else
 j1 n self t4 t5 (decide (t5 = 2)) t6 (fun _ =>
 j3 n self t4 t6)
def G (n:Nat) (self:((List Int) × Int × Int) → Int → Option (ByteArray × (List Int) × Int × Int)) (t1:(List Int) × Int × Int) (t2:Int):Option (ByteArray × (List Int) × Int × Int) :=
 (spec_l01Cur_pick.F n t1 9).bind fun r3 =>
 if (decide (t2 ≤ 0)) = true then
 if decide (r3.1 > 4) = true then
 j0 n self t2 (IntKind.i64.wrap (r3.1 - 4)) r3.2
 else
 j0 n self t2 r3.1 r3.2
 else
 j0 n self t2 r3.1 r3.2
def F:Nat → ((List Int) × Int × Int) → Int → Option (ByteArray × (List Int) × Int × Int)
 | 0=>fun _ _=>none
 | n + 1=>G n (F n)
noncomputable def code:Code:=Tryz.f135.body.getD .skip
abbrev ash:List ASh:=[.mp (.st (.pair (.sl (.int .u8)) (.pair (.int .i64) (.int .i64)))) .ro,.ro (.int .i64)]
abbrev rsh:List RSh:=[.ro .str,.out (.st (.pair (.sl (.int .u8)) (.pair (.int .i64) (.int .i64))))]
def ent (n:Nat):Z0W:=⟨ash,rsh,fun v=>F n v.1 v.2.1⟩
noncomputable def cx (n:Nat):Ctx:=Z0D Tryz.prog TYS [(83,spec_l01Cur_pick.ent n),(106,spec_NumText.ent n),(135,ent n)]
noncomputable def d:FnD:=⟨code,82,.nil,[(.tmp 4,.str,.ro)]⟩
noncomputable def kr (n:Nat) (v:AVs ash):KN rsh:=Z1E (cx n) d (Z0Q ash v) (Z0b rsh)
noncomputable def c2:Code:=(Code.r (Code.r (Code.r (Code.r (Code.r (Code.r (Code.r (Code.l (Code.r (Code.l (Code.r (Code.r (Code.r code)))))))))))))
noncomputable def c1:Code:=(Code.r (Code.l (Code.r (Code.l (Code.r (Code.r (Code.r code)))))))
noncomputable def c3:Code:=(Code.r (Code.r (Code.r (Code.r code))))
noncomputable def c0:Code:=(Code.r (Code.r (Code.r code)))
def an:An:=.seq .nil (.seq .nil (.seq (.seq .nil (.cond .nil .nil)) (.cut 0 [0,1,5])))
def an2:An:=.cond (.seq .nil .nil) (.seq .nil (.cond (.seq .nil .nil) .nil))
abbrev sh2:ES:=⟨[(0,.pt 0 []),(1,.v (.int .i64)),(16,.v (.int .i64)),(41,.v .bool)],[⟨0,.st (.pair (.sl (.int .u8)) (.pair (.int .i64) (.int .i64))),.ro,true,true,none⟩]⟩
abbrev sh2_n:ES:=⟨[(0,.pt 0 []),(1,.v (.int .i64))],[⟨0,.st (.pair (.sl (.int .u8)) (.pair (.int .i64) (.int .i64))),.ro,true,true,none⟩]⟩
def an1:An:=.cond (.seq .nil .nil) (.seq .nil (.cond (.seq .nil .nil) (.seq .nil (.cond (.seq .nil .nil) (.seq (.seq .nil (.cond .nil .nil)) (.cut 2 [0,1,16,41]))))))
abbrev sh1:ES:=⟨[(0,.pt 0 []),(1,.v (.int .i64)),(16,.v (.int .i64)),(17,.v .bool)],[⟨0,.st (.pair (.sl (.int .u8)) (.pair (.int .i64) (.int .i64))),.ro,true,true,none⟩]⟩
abbrev sh1_n:ES:=⟨[(0,.pt 0 []),(1,.v (.int .i64))],[⟨0,.st (.pair (.sl (.int .u8)) (.pair (.int .i64) (.int .i64))),.ro,true,true,none⟩]⟩
def an3:An:=.seq .nil .nil
abbrev sh3:ES:=⟨[(0,.pt 0 []),(1,.v (.int .i64))],[⟨0,.st (.pair (.sl (.int .u8)) (.pair (.int .i64) (.int .i64))),.ro,true,true,none⟩]⟩
def an0:An:=.seq (.seq .nil (.block (some [0,1]) (.seq (.seq .nil (.cond .nil (.seq .nil (.cond .nil .nil)))) (.cut 1 [0,1,16,17])))) (.cut 3 [0,1])
abbrev sh0:ES:=⟨[(0,.pt 0 []),(1,.v (.int .i64)),(5,.v (.int .i64))],[⟨0,.st (.pair (.sl (.int .u8)) (.pair (.int .i64) (.int .i64))),.ro,true,true,none⟩]⟩
def g2 (n m:Nat) (x:sh2.V) (kn:KN rsh) (kx:KX rsh):Option (RVs rsh):=j2 n (F n) x.1.2.1 x.1.2.2.1 x.1.2.2.2.1 x.2.1 (fun _=>kn (sh2_n.enc (((()),x.1.2.1,()),(x.2.1,()))))
def g1 (n m:Nat) (x:sh1.V) (kn:KN rsh) (kx:KX rsh):Option (RVs rsh):=j1 n (F n) x.1.2.1 x.1.2.2.1 x.1.2.2.2.1 x.2.1 (fun _=>kn (sh1_n.enc (((()),x.1.2.1,()),(x.2.1,()))))
def g3 (n m:Nat) (x:sh3.V) (kn:KN rsh) (kx:KX rsh):Option (RVs rsh):=j3 n (F n) x.1.2.1 x.2.1
def g0 (n m:Nat) (x:sh0.V) (kn:KN rsh) (kx:KX rsh):Option (RVs rsh):=j0 n (F n) x.1.2.1 x.1.2.2.1 x.2.1
def T (n:Nat):Tab (RVs rsh):=fun j e kn kx=>match j with
 | 2=>ES.on sh2 e fun x=>g2 n n x kn kx
 | 1=>ES.on sh1 e fun x=>g1 n n x kn kx
 | 3=>ES.on sh3 e fun x=>g3 n n x kn kx
 | 0=>ES.on sh0 e fun x=>g0 n n x kn kx
 | _=>none
theorem mk (n:Nat) (ih:Z07 Tryz.prog 135 (ent n)):MOk (cx n):=Z01 (mem_cons (spec_l01Cur_pick.ok n) (mem_cons (spec_NumText.ok n) (mem_cons ih Z00)))
theorem u2 (n:Nat) (v:AVs ash) (ih:Z07 Tryz.prog 135 (ent n)):Z08 (cx n) 82 (T n) (kr n v) 2 (c2) :=
 Z0p (CO _) (mk n ih) (MX _) an2 [(0,[0,1])] [0,1] sh2 (g2 n n) (fun _ _ _=>rfl) (fun x kn kx=>by kernel_rfl) (l:=[]) (by kernel_rfl) (Z00)
theorem u1 (n:Nat) (v:AVs ash) (ih:Z07 Tryz.prog 135 (ent n)):Z08 (cx n) 82 (T n) (kr n v) 1 (c1) :=
 Z0p (CO _) (mk n ih) (MX _) an1 [(0,[0,1])] [0,1] sh1 (g1 n n) (fun _ _ _=>rfl) (fun x kn kx=>by kernel_rfl) (l:=[(2,c2)]) (by kernel_rfl) (mem_cons (u2 n v ih) Z00)
theorem u3 (n:Nat) (v:AVs ash) (ih:Z07 Tryz.prog 135 (ent n)):Z08 (cx n) 82 (T n) (kr n v) 3 (c3) :=
 Z0p (CO _) (mk n ih) (MX _) an3 [] [0,4] sh3 (g3 n n) (fun _ _ _=>rfl) (fun x kn kx=>by kernel_rfl) (l:=[]) (by kernel_rfl) (Z00)
theorem u0 (n:Nat) (v:AVs ash) (ih:Z07 Tryz.prog 135 (ent n)):Z08 (cx n) 82 (T n) (kr n v) 0 (c0) :=
 Z0p (CO _) (mk n ih) (MX _) an0 [] [0,4] sh0 (g0 n n) (fun _ _ _=>rfl) (fun x kn kx=>by kernel_rfl) (l:=[(1,c1),(3,c3)]) (by kernel_rfl) (mem_cons (u1 n v ih) (mem_cons (u3 n v ih) Z00))
theorem ok:(n:Nat) → Z07 Tryz.prog 135 (ent n)
 | 0=>Z2w Tryz.f135 (by kernel_rfl) (by kernel_rfl) (by kernel_rfl) (fun _=>rfl)
 | n + 1=>have ih:=ok n
  Z0E (c:=cx n) (e:=ent (n + 1)) (d:=d) (CO _) (mk n ih) (MX _) an Tryz.func135 (by kernel_rfl) (T n) (l:=[(0,c0)]) (by kernel_rfl) (fun v=>mem_cons (u0 n v ih) Z00) (fun v=>by kernel_rfl)
end spec_l01Cur_term
namespace spec_l01Cur_any
def l1 (n:Nat) (c11:(List Int) × Int × Int) (K1:ByteArray → Option (ByteArray × (List Int) × Int × Int)):Nat → ByteArray → Option (ByteArray × (List Int) × Int × Int)
 | 0,_=>none
 | k + 1,s10 =>
 if decide ((ByteArray.size s10:Int) ≤ 200) = true then
 if ByteArray.size ⟨#[83,40]⟩ + ByteArray.size s10 ≤ lim then
 if ByteArray.size (⟨#[83,40]⟩ ++ s10) + ByteArray.size ⟨#[41]⟩ ≤ lim then
 l1 n c11 K1 k ((⟨#[83,40]⟩ ++ s10) ++ ⟨#[41]⟩)
 else
 none
 else
 none
 else
 K1 s10
def j0 (n:Nat) (s3:ByteArray) (c4:(List Int) × Int × Int):Option (ByteArray × (List Int) × Int × Int) :=
 (spec_l01Cur_once.F n c4 5).bind fun r5 =>
 if r5.1 = true then
 (spec_l01Cur_pick.F n r5.2 3).bind fun r6 =>
 if decide (r6.1 = 0) = true then
 (spec_l01Cur_pick.F n r6.2 22).bind fun r7 =>
 if (0:Int) ≤ r7.1 ∧ r7.1 < (List.length ([ByteArray.empty,⟨#[48,49]⟩,⟨#[45,48]⟩,⟨#[49,48,48,48,48,48,49]⟩,⟨#[120]⟩,⟨#[78,105,108,40,41]⟩,⟨#[78,105,108,40]⟩,⟨#[67,111,110,115,40,49,44,41]⟩,⟨#[67,111,110,115,40,49]⟩,⟨#[34,97]⟩,⟨#[97,34]⟩,⟨#[34,97,34,98,34]⟩,⟨#[34,92,34]⟩,⟨#[83,32,40,49,41]⟩,⟨#[83,40,49,41,41]⟩,⟨#[83,40,120,41]⟩,⟨#[65,98,99,100,101,102,103,104,105,106,107,108,109,110,111,112,113,114,115,116,117]⟩,⟨#[34,97,98,99,100,101,102,103,104,105,106,107,108,109,110,111,112,113,114,115,116,117,34]⟩,⟨#[45]⟩,⟨#[45,45,49]⟩,⟨#[65,95,49,40,34,41,44,40,34,41]⟩,⟨#[43,49]⟩]:List ByteArray):Int) then
 some (List.getD ([ByteArray.empty,⟨#[48,49]⟩,⟨#[45,48]⟩,⟨#[49,48,48,48,48,48,49]⟩,⟨#[120]⟩,⟨#[78,105,108,40,41]⟩,⟨#[78,105,108,40]⟩,⟨#[67,111,110,115,40,49,44,41]⟩,⟨#[67,111,110,115,40,49]⟩,⟨#[34,97]⟩,⟨#[97,34]⟩,⟨#[34,97,34,98,34]⟩,⟨#[34,92,34]⟩,⟨#[83,32,40,49,41]⟩,⟨#[83,40,49,41,41]⟩,⟨#[83,40,120,41]⟩,⟨#[65,98,99,100,101,102,103,104,105,106,107,108,109,110,111,112,113,114,115,116,117]⟩,⟨#[34,97,98,99,100,101,102,103,104,105,106,107,108,109,110,111,112,113,114,115,116,117,34]⟩,⟨#[45]⟩,⟨#[45,45,49]⟩,⟨#[65,95,49,40,34,41,44,40,34,41]⟩,⟨#[43,49]⟩]:List ByteArray) (Int.toNat r7.1) ByteArray.empty,r7.2)
 else
 none
 else
 if decide (r6.1 = 1) = true then
 (spec_l01Cur_pick.F n r6.2 (IntKind.i64.wrap ((ByteArray.size s3:Int) + 1))).bind fun r8 =>
 if (0:Int) ≤ 0 ∧ (0:Int) ≤ r8.1 ∧ r8.1 ≤ (ByteArray.size s3:Int) then
 (spec_l01Cur_pick.F n r8.2 6).bind fun r9 =>
 if (0:Int) ≤ r9.1 ∧ r9.1 < (List.length ([⟨#[40]⟩,⟨#[41]⟩,⟨#[44]⟩,⟨#[34]⟩,⟨#[49]⟩,⟨#[32]⟩]:List ByteArray):Int) then
 if ByteArray.size (ByteArray.extract s3 (Int.toNat 0) (Int.toNat r8.1)) + ByteArray.size (List.getD ([⟨#[40]⟩,⟨#[41]⟩,⟨#[44]⟩,⟨#[34]⟩,⟨#[49]⟩,⟨#[32]⟩]:List ByteArray) (Int.toNat r9.1) ByteArray.empty) ≤ lim then
 if (0:Int) ≤ r8.1 ∧ r8.1 ≤ (ByteArray.size s3:Int) ∧ (ByteArray.size s3:Int) ≤ (ByteArray.size s3:Int) then
 if ByteArray.size ((ByteArray.extract s3 (Int.toNat 0) (Int.toNat r8.1)) ++ (List.getD ([⟨#[40]⟩,⟨#[41]⟩,⟨#[44]⟩,⟨#[34]⟩,⟨#[49]⟩,⟨#[32]⟩]:List ByteArray) (Int.toNat r9.1) ByteArray.empty)) + ByteArray.size (ByteArray.extract s3 (Int.toNat r8.1) (Int.toNat (ByteArray.size s3:Int))) ≤ lim then
 some (((ByteArray.extract s3 (Int.toNat 0) (Int.toNat r8.1)) ++ (List.getD ([⟨#[40]⟩,⟨#[41]⟩,⟨#[44]⟩,⟨#[34]⟩,⟨#[49]⟩,⟨#[32]⟩]:List ByteArray) (Int.toNat r9.1) ByteArray.empty)) ++ (ByteArray.extract s3 (Int.toNat r8.1) (Int.toNat (ByteArray.size s3:Int))),r9.2)
 else
 none
 else
 none
 else
 none
 else
 none
 else
 none
 else
 l1 n r6.2 (fun s12 =>
 some (s12,r6.2)) n s3
 else
 some (s3,r5.2)
def F (n:Nat) (c1:(List Int) × Int × Int):Option (ByteArray × (List Int) × Int × Int) :=
 (spec_l01Cur_term.F n c1 2).bind fun r2 =>
 if decide ((ByteArray.size r2.1:Int) > 200) = true then
 j0 n ⟨#[78,105,108]⟩ r2.2
 else
 j0 n r2.1 r2.2
noncomputable def code:Code:=Tryz.f136.body.getD .skip
abbrev ash:List ASh:=[.mp (.st (.pair (.sl (.int .u8)) (.pair (.int .i64) (.int .i64)))) .ro]
abbrev rsh:List RSh:=[.ro .str,.out (.st (.pair (.sl (.int .u8)) (.pair (.int .i64) (.int .i64))))]
def ent (n:Nat):Z0W:=⟨ash,rsh,fun v=>F n v.1⟩
noncomputable def cx (n:Nat):Ctx:=Z0D Tryz.prog TYS [(82,spec_l01Cur_once.ent n),(83,spec_l01Cur_pick.ent n),(135,spec_l01Cur_term.ent n)]
noncomputable def d:FnD:=⟨code,48,.nil,[(.tmp 2,.str,.ro)]⟩
noncomputable def kr (n:Nat) (v:AVs ash):KN rsh:=Z1E (cx n) d (Z0Q ash v) (Z0b rsh)
noncomputable def b1:Code:=Code.l (Code.l (Code.r (Code.l (Code.r (Code.l (Code.r (Code.r (Code.r code))))))))
noncomputable def c0:Code:=(Code.r (Code.r (Code.r code)))
def an:An:=.seq .nil (.seq .nil (.seq (.seq .nil (.cond .nil .nil)) (.cut 0 [0,3])))
def an1:An:=.seq (.seq .nil (.cond .nil .nil)) (.block (some [0,3]) .nil)
abbrev sh1:ES:=⟨[(0,.pt 0 []),(3,.v .str)],[⟨0,.st (.pair (.sl (.int .u8)) (.pair (.int .i64) (.int .i64))),.ro,true,true,none⟩]⟩
abbrev sh1_1:ES:=⟨[(0,.pt 0 []),(3,.v .str)],[⟨0,.st (.pair (.sl (.int .u8)) (.pair (.int .i64) (.int .i64))),.ro,true,true,none⟩]⟩
def an0:An:=.seq (.seq .nil (.cond (.seq (.seq .nil (.block (some [0,3]) (.seq .nil (.cond (.seq .nil .nil) (.seq .nil (.cond (.seq .nil (.seq .nil .nil)) .nil)))))) (.block (some [0,3]) (.cut 1 [0,3]))) .nil)) (.seq .nil .nil)
abbrev sh0:ES:=⟨[(0,.pt 0 []),(3,.v .str)],[⟨0,.st (.pair (.sl (.int .u8)) (.pair (.int .i64) (.int .i64))),.ro,true,true,none⟩]⟩
def g1 (n m:Nat) (x:sh1.V) (kn:KN rsh) (kx:KX rsh):Option (RVs rsh):=l1 n x.2.1 (fun y0=>kx 1 (sh1_1.enc (((()),y0,()),(x.2.1,())))) m x.1.2.1
def g0 (n m:Nat) (x:sh0.V) (kn:KN rsh) (kx:KX rsh):Option (RVs rsh):=j0 n x.1.2.1 x.2.1
def T (n:Nat):Tab (RVs rsh):=fun j e kn kx=>match j with
 | 1=>ES.on sh1 e fun x=>g1 n n x kn kx
 | 0=>ES.on sh0 e fun x=>g0 n n x kn kx
 | _=>none
theorem mk (n:Nat):MOk (cx n):=Z01 (mem_cons (spec_l01Cur_once.ok n) (mem_cons (spec_l01Cur_pick.ok n) (mem_cons (spec_l01Cur_term.ok n) Z00)))
theorem u1 (n:Nat) (v:AVs ash):Z08 (cx n) 48 (T n) (kr n v) 1 (.loop b1) :=
 Z0O (n:=n) (CO _) (mk n) (MX _) an1 [(1,[0,3])] [0,3] sh1 (g1 n) (fun _ _ _=>rfl) (fun _ _ _=>rfl) (fun m x kn kx=>by kernel_rfl) (l:=[]) (by kernel_rfl) (Z00)
theorem u0 (n:Nat) (v:AVs ash):Z08 (cx n) 48 (T n) (kr n v) 0 (c0) :=
 Z0p (CO _) (mk n) (MX _) an0 [] [0,2] sh0 (g0 n n) (fun _ _ _=>rfl) (fun x kn kx=>by kernel_rfl) (l:=[(1,.loop b1)]) (by kernel_rfl) (mem_cons (u1 n v) Z00)
theorem ok (n:Nat):Z07 Tryz.prog 136 (ent n) :=
 Z0E (c:=cx n) (e:=ent n) (d:=d) (CO _) (mk n) (MX _) an Tryz.func136 (by kernel_rfl) (T n) (l:=[(0,c0)]) (by kernel_rfl) (fun v=>mem_cons (u0 n v) Z00) (fun v=>by kernel_rfl)
end spec_l01Cur_any
namespace spec_l01Cur_tuple
def l0 (n:Nat) (t3:Int) (t6:List ByteArray) (K0:((List Int) × Int × Int) → (List ByteArray) → Option ((List ByteArray) × (List Int) × Int × Int)):Nat → Int → ((List Int) × Int × Int) → (List ByteArray) → Option ((List ByteArray) × (List Int) × Int × Int)
 | 0,_,_,_=>none
 | k + 1,k4,c5,t7 =>
 if decide (k4 < t3) = true then
 (spec_l01Cur_term.F n c5 1).bind fun r8 =>
 if List.length t7 + List.length [r8.1] ≤ lim then
 l0 n t3 t6 K0 k (IntKind.i64.wrap (k4 + 1)) r8.2 (t7 ++ [r8.1])
 else
 none
 else
 K0 c5 t7
def F (n:Nat) (c1:(List Int) × Int × Int) (t2:Int):Option ((List ByteArray) × (List Int) × Int × Int) :=
 l0 n t2 [] (fun c9 t10 =>
 (spec_l01Cur_once.F n c9 20).bind fun r11 =>
 if r11.1 = true then
 (spec_l01Cur_any.F n r11.2).bind fun r12 =>
 if List.length t10 + List.length [r12.1] ≤ lim then
 some (t10 ++ [r12.1],r12.2)
 else
 none
 else
 some (t10,r11.2)) n 0 c1 []
noncomputable def code:Code:=Tryz.f84.body.getD .skip
abbrev ash:List ASh:=[.mp (.st (.pair (.sl (.int .u8)) (.pair (.int .i64) (.int .i64)))) .ro,.ro (.int .i64)]
abbrev rsh:List RSh:=[.ro (.st (.sl (.str))),.out (.st (.pair (.sl (.int .u8)) (.pair (.int .i64) (.int .i64))))]
def ent (n:Nat):Z0W:=⟨ash,rsh,fun v=>F n v.1 v.2.1⟩
noncomputable def cx (n:Nat):Ctx:=Z0D Tryz.prog TYS [(82,spec_l01Cur_once.ent n),(135,spec_l01Cur_term.ent n),(136,spec_l01Cur_any.ent n)]
noncomputable def d:FnD:=⟨code,30,.nil,[(.cell 4 49,.st (.sl (.str)),.ro)]⟩
noncomputable def kr (n:Nat) (v:AVs ash):KN rsh:=Z1E (cx n) d (Z0Q ash v) (Z0b rsh)
noncomputable def b0:Code:=Code.l (Code.l (Code.r (Code.l (Code.r (Code.r code)))))
def an:An:=.seq .nil (.seq (.reg [(7,.own .ro),(5,.own .ro)]) (.seq (.seq .nil (.block (some [0,4,5]) (.cut 0 [0,1,4,5,6]))) (.seq (.seq .nil (.cond .nil .nil)) (.seq .nil .nil))))
def an0:An:=.seq (.seq .nil (.cond .nil .nil)) (.seq (.block (some [0,1,4,5,6]) .nil) .nil)
abbrev sh0:ES:=⟨[(0,.pt 0 []),(1,.v (.int .i64)),(4,.pt 4 []),(5,.pt 5 []),(6,.v (.int .i64))],[⟨0,.st (.pair (.sl (.int .u8)) (.pair (.int .i64) (.int .i64))),.ro,true,true,none⟩,⟨4,.st (.sl (.str)),.ro,true,false,none⟩,⟨5,.st (.sl (.str)),.own .ro,true,false,none⟩]⟩
abbrev sh0_0:ES:=⟨[(0,.pt 0 []),(4,.pt 4 []),(5,.pt 5 [])],[⟨0,.st (.pair (.sl (.int .u8)) (.pair (.int .i64) (.int .i64))),.ro,true,true,none⟩,⟨4,.st (.sl (.str)),.ro,true,false,none⟩,⟨5,.st (.sl (.str)),.own .ro,true,false,none⟩]⟩
def g0 (n m:Nat) (x:sh0.V) (kn:KN rsh) (kx:KX rsh):Option (RVs rsh):=l0 n x.1.2.1 x.2.2.1 (fun y0 y1=>kx 0 (sh0_0.enc (((()),(()),(()),()),(y0,x.2.2.1,y1,())))) m x.1.2.2.2.2.1 x.2.1 x.2.2.2.1
def T (n:Nat):Tab (RVs rsh):=fun j e kn kx=>match j with
 | 0=>ES.on sh0 e fun x=>g0 n n x kn kx
 | _=>none
theorem mk (n:Nat):MOk (cx n):=Z01 (mem_cons (spec_l01Cur_once.ok n) (mem_cons (spec_l01Cur_term.ok n) (mem_cons (spec_l01Cur_any.ok n) Z00)))
theorem u0 (n:Nat) (v:AVs ash):Z08 (cx n) 30 (T n) (kr n v) 0 (.loop b0) :=
 Z0O (n:=n) (CO _) (mk n) (MX _) an0 [(0,[0,4,5])] [0,1,4,5,6] sh0 (g0 n) (fun _ _ _=>rfl) (fun _ _ _=>rfl) (fun m x kn kx=>by kernel_rfl) (l:=[]) (by kernel_rfl) (Z00)
theorem ok (n:Nat):Z07 Tryz.prog 84 (ent n) :=
 Z0E (c:=cx n) (e:=ent n) (d:=d) (CO _) (mk n) (MX _) an Tryz.func84 (by kernel_rfl) (T n) (l:=[(0,.loop b0)]) (by kernel_rfl) (fun v=>mem_cons (u0 n v) Z00) (fun v=>by kernel_rfl)
end spec_l01Cur_tuple
namespace spec_l01Cur_rel
def l1 (n:Nat) (t9:Int) (t10:Int) (t13:Int × List (List ByteArray)) (t14:Int × List (List ByteArray)) (K2:((List Int) × Int × Int) → (List ByteArray) → Option ((Int × List (List ByteArray)) × (List Int) × Int × Int)):Nat → Int → ((List Int) × Int × Int) → (List ByteArray) → Option ((Int × List (List ByteArray)) × (List Int) × Int × Int)
 | 0,_,_,_=>none
 | k + 1,t11,t12,t15 =>
 if decide (t11 < t9) = true then
 (spec_l01Cur_pick.F n t12 8).bind fun r16 =>
 if (0:Int) ≤ r16.1 ∧ r16.1 < (List.length ([⟨#[49]⟩,⟨#[50]⟩,⟨#[34,97,34]⟩,⟨#[78,105,108]⟩,⟨#[83,40,49,41]⟩,⟨#[49,48]⟩,⟨#[67,111,110,115,40,49,44,78,105,108,41]⟩,⟨#[45,49]⟩]:List ByteArray):Int) then
 if List.length t15 + List.length ([List.getD ([⟨#[49]⟩,⟨#[50]⟩,⟨#[34,97,34]⟩,⟨#[78,105,108]⟩,⟨#[83,40,49,41]⟩,⟨#[49,48]⟩,⟨#[67,111,110,115,40,49,44,78,105,108,41]⟩,⟨#[45,49]⟩]:List ByteArray) (Int.toNat r16.1) ByteArray.empty]:List ByteArray) ≤ lim then
 l1 n t9 t10 t13 t14 K2 k (IntKind.i64.wrap (t11 + 1)) r16.2 (t15 ++ ([List.getD ([⟨#[49]⟩,⟨#[50]⟩,⟨#[34,97,34]⟩,⟨#[78,105,108]⟩,⟨#[83,40,49,41]⟩,⟨#[49,48]⟩,⟨#[67,111,110,115,40,49,44,78,105,108,41]⟩,⟨#[45,49]⟩]:List ByteArray) (Int.toNat r16.1) ByteArray.empty]:List ByteArray))
 else
 none
 else
 none
 else
 K2 t12 t15
def l0 (n:Nat) (t4:Int) (t7:Int × List (List ByteArray)) (K0:((List Int) × Int × Int) → (Int × List (List ByteArray)) → Option ((Int × List (List ByteArray)) × (List Int) × Int × Int)):Nat → Int → ((List Int) × Int × Int) → (Int × List (List ByteArray)) → Option ((Int × List (List ByteArray)) × (List Int) × Int × Int)
 | 0,_,_,_=>none
 | k + 1,t5,t6,t8 =>
 if decide (t5 > 0) = true then
 l1 n t4 t5 t7 t8 (fun t17 t18 =>
 (spec_l02Put.F n t8.2 t18).bind fun r19 =>
 l0 n t4 t7 K0 k (IntKind.i64.wrap (t5 - 1)) t17 (t8.1,r19.1)) n 0 t6 []
 else
 K0 t6 t8
def l2 (n:Nat) (t28:Int × List (List ByteArray)) (K5:((List Int) × Int × Int) → (Int × List (List ByteArray)) → Option ((Int × List (List ByteArray)) × (List Int) × Int × Int)):Nat → Int → ((List Int) × Int × Int) → (Int × List (List ByteArray)) → Option ((Int × List (List ByteArray)) × (List Int) × Int × Int)
 | 0,_,_,_=>none
 | k + 1,t26,t27,t29 =>
 (spec_l01Cur_pick.F n t27 3).bind fun r30 =>
 if decide (t26 < (IntKind.i64.wrap (399 + r30.1))) = true then
 (spec_NumText.F n t26).bind fun r31 =>
 if List.length t29.2 + List.length [[r31]] ≤ lim then
 l2 n t28 K5 k (IntKind.i64.wrap (t26 + 1)) r30.2 (t29.1,t29.2 ++ [[r31]])
 else
 none
 else
 K5 r30.2 t29
def F (n:Nat) (t1:(List Int) × Int × Int) (t2:Int):Option ((Int × List (List ByteArray)) × (List Int) × Int × Int) :=
 (spec_l01Cur_size.F n t1 7).bind fun r3 =>
 l0 n t2 (0,[]) (fun t20 t21 =>
 (spec_l01Cur_once.F n t20 16).bind fun r22 =>
 if r22.1 = true then
 (spec_l01Cur_pick.F n r22.2 4).bind fun r23 =>
 if decide (r23.1 = 0) = true then
 (spec_l01Cur_raw.F n r23.2).bind fun r24 =>
 some ((r24.1,t21.2),r24.2)
 else
 if decide (r23.1 = 1) = true then
 (spec_l01Cur_tuple.F n r23.2 t2).bind fun r25 =>
 if List.length t21.2 + List.length [r25.1] ≤ lim then
 some ((t21.1,t21.2 ++ [r25.1]),r25.2)
 else
 none
 else
 if decide (r23.1 = 2) = true then
 if List.length t21.2 + List.length ([([⟨#[120]⟩]:List ByteArray)]:List (List ByteArray)) ≤ lim then
 some ((t21.1,t21.2 ++ ([([⟨#[120]⟩]:List ByteArray)]:List (List ByteArray))),r23.2)
 else
 none
 else
 l2 n (0,[]) (fun t32 t33 =>
 some (t33,t32)) n 0 r23.2 (1,[])
 else
 some (t21,r22.2)) n r3.1 r3.2 (t2,[])
noncomputable def code:Code:=Tryz.f134.body.getD .skip
abbrev ash:List ASh:=[.mp (.st (.pair (.sl (.int .u8)) (.pair (.int .i64) (.int .i64)))) .ro,.ro (.int .i64)]
abbrev rsh:List RSh:=[.ro (.st (.pair (.int .i64) (.sl (.st (.sl (.str)))))),.out (.st (.pair (.sl (.int .u8)) (.pair (.int .i64) (.int .i64))))]
def ent (n:Nat):Z0W:=⟨ash,rsh,fun v=>F n v.1 v.2.1⟩
noncomputable def cx (n:Nat):Ctx:=Z0D Tryz.prog TYS [(82,spec_l01Cur_once.ent n),(83,spec_l01Cur_pick.ent n),(84,spec_l01Cur_tuple.ent n),(85,spec_l01Cur_raw.ent n),(97,spec_l02Put.ent n),(106,spec_NumText.ent n),(157,spec_l01Cur_size.ent n)]
noncomputable def d:FnD:=⟨code,91,.nil,[(.cell 4 65,.st (.pair (.int .i64) (.sl (.st (.sl (.str))))),.ro)]⟩
noncomputable def kr (n:Nat) (v:AVs ash):KN rsh:=Z1E (cx n) d (Z0Q ash v) (Z0b rsh)
noncomputable def b1:Code:=Code.l (Code.l (Code.r (Code.l (Code.r (Code.l (Code.l (Code.r (Code.l (Code.l (Code.r (Code.l (Code.r (Code.r code)))))))))))))
noncomputable def b0:Code:=Code.l (Code.l (Code.r (Code.l (Code.r (Code.r code)))))
noncomputable def b2:Code:=Code.l (Code.l (Code.r (Code.r (Code.r (Code.r (Code.r (Code.r (Code.r (Code.r (Code.l (Code.r (Code.l (Code.r (Code.l (Code.r (Code.r (Code.r code)))))))))))))))))
def an:An:=.seq .nil (.seq (.reg [(13,.pr .ro (.own .ro)),(5,.pr .ro (.own .ro))]) (.seq (.seq .nil (.block (some [0,1,4,5]) (.cut 0 [0,1,4,5,6]))) (.seq (.seq .nil (.cond (.seq .nil (.block (some [0,4,5]) (.seq .nil (.cond .nil (.seq .nil (.cond .nil (.seq .nil (.cond .nil (.seq (.reg [(49,.pr .ro (.own .ro))]) (.seq .nil (.block (some [0,4,5]) (.cut 2 [0,4,5,11])))))))))))) .nil)) (.seq .nil .nil))))
def an1:An:=.seq (.seq .nil (.cond .nil .nil)) (.seq (.block (some [0,1,4,5,6,7,8]) .nil) .nil)
abbrev sh1:ES:=⟨[(0,.pt 0 []),(1,.v (.int .i64)),(4,.pt 4 []),(5,.pt 5 []),(6,.v (.int .i64)),(7,.pt 7 []),(8,.v (.int .i64))],[⟨0,.st (.pair (.sl (.int .u8)) (.pair (.int .i64) (.int .i64))),.ro,true,true,none⟩,⟨4,.st (.pair (.int .i64) (.sl (.st (.sl (.str))))),.ro,true,false,none⟩,⟨5,.st (.pair (.int .i64) (.sl (.st (.sl (.str))))),.pr .ro (.own .ro),true,false,none⟩,⟨7,.st (.sl (.str)),.own .ro,true,false,none⟩]⟩
abbrev sh1_2:ES:=⟨[(0,.pt 0 []),(1,.v (.int .i64)),(4,.pt 4 []),(5,.pt 5 []),(6,.v (.int .i64)),(7,.pt 7 [])],[⟨0,.st (.pair (.sl (.int .u8)) (.pair (.int .i64) (.int .i64))),.ro,true,true,none⟩,⟨4,.st (.pair (.int .i64) (.sl (.st (.sl (.str))))),.ro,true,false,none⟩,⟨5,.st (.pair (.int .i64) (.sl (.st (.sl (.str))))),.pr .ro (.own .ro),true,false,none⟩,⟨7,.st (.sl (.str)),.own .ro,true,false,none⟩]⟩
def an0:An:=.seq (.seq .nil (.cond .nil .nil)) (.seq (.block (some [0,1,4,5,6]) (.seq (.reg [(20,.own .ro),(7,.own .ro)]) (.seq (.seq .nil (.block (some [0,1,4,5,6,7]) (.cut 1 [0,1,4,5,6,7,8]))) (.seq (.reg [(39,.ro),(4136,.own .ro)]) .nil)))) .nil)
abbrev sh0:ES:=⟨[(0,.pt 0 []),(1,.v (.int .i64)),(4,.pt 4 []),(5,.pt 5 []),(6,.v (.int .i64))],[⟨0,.st (.pair (.sl (.int .u8)) (.pair (.int .i64) (.int .i64))),.ro,true,true,none⟩,⟨4,.st (.pair (.int .i64) (.sl (.st (.sl (.str))))),.ro,true,false,none⟩,⟨5,.st (.pair (.int .i64) (.sl (.st (.sl (.str))))),.pr .ro (.own .ro),true,false,none⟩]⟩
abbrev sh0_0:ES:=⟨[(0,.pt 0 []),(1,.v (.int .i64)),(4,.pt 4 []),(5,.pt 5 [])],[⟨0,.st (.pair (.sl (.int .u8)) (.pair (.int .i64) (.int .i64))),.ro,true,true,none⟩,⟨4,.st (.pair (.int .i64) (.sl (.st (.sl (.str))))),.ro,true,false,none⟩,⟨5,.st (.pair (.int .i64) (.sl (.st (.sl (.str))))),.pr .ro (.own .ro),true,false,none⟩]⟩
def an2:An:=.seq (.seq .nil (.cond .nil .nil)) (.seq (.block (some [0,4,5,11]) .nil) .nil)
abbrev sh2:ES:=⟨[(0,.pt 0 []),(4,.pt 4 []),(5,.pt 5 []),(11,.v (.int .i64))],[⟨0,.st (.pair (.sl (.int .u8)) (.pair (.int .i64) (.int .i64))),.ro,true,true,none⟩,⟨4,.st (.pair (.int .i64) (.sl (.st (.sl (.str))))),.ro,true,false,none⟩,⟨5,.st (.pair (.int .i64) (.sl (.st (.sl (.str))))),.pr .ro (.own .ro),true,false,none⟩]⟩
abbrev sh2_5:ES:=⟨[(0,.pt 0 []),(4,.pt 4 []),(5,.pt 5 [])],[⟨0,.st (.pair (.sl (.int .u8)) (.pair (.int .i64) (.int .i64))),.ro,true,true,none⟩,⟨4,.st (.pair (.int .i64) (.sl (.st (.sl (.str))))),.ro,true,false,none⟩,⟨5,.st (.pair (.int .i64) (.sl (.st (.sl (.str))))),.pr .ro (.own .ro),true,false,none⟩]⟩
def g1 (n m:Nat) (x:sh1.V) (kn:KN rsh) (kx:KX rsh):Option (RVs rsh):=l1 n x.1.2.1 x.1.2.2.2.2.1 x.2.2.1 x.2.2.2.1 (fun y0 y1=>kx 2 (sh1_2.enc (((()),x.1.2.1,(()),(()),x.1.2.2.2.2.1,(()),()),(y0,x.2.2.1,x.2.2.2.1,y1,())))) m x.1.2.2.2.2.2.2.1 x.2.1 x.2.2.2.2.1
def g0 (n m:Nat) (x:sh0.V) (kn:KN rsh) (kx:KX rsh):Option (RVs rsh):=l0 n x.1.2.1 x.2.2.1 (fun y0 y1=>kx 0 (sh0_0.enc (((()),x.1.2.1,(()),(()),()),(y0,x.2.2.1,y1,())))) m x.1.2.2.2.2.1 x.2.1 x.2.2.2.1
def g2 (n m:Nat) (x:sh2.V) (kn:KN rsh) (kx:KX rsh):Option (RVs rsh):=l2 n x.2.2.1 (fun y0 y1=>kx 5 (sh2_5.enc (((()),(()),(()),()),(y0,x.2.2.1,y1,())))) m x.1.2.2.2.1 x.2.1 x.2.2.2.1
def T (n:Nat):Tab (RVs rsh):=fun j e kn kx=>match j with
 | 1=>ES.on sh1 e fun x=>g1 n n x kn kx
 | 0=>ES.on sh0 e fun x=>g0 n n x kn kx
 | 2=>ES.on sh2 e fun x=>g2 n n x kn kx
 | _=>none
theorem mk (n:Nat):MOk (cx n):=Z01 (mem_cons (spec_l01Cur_once.ok n) (mem_cons (spec_l01Cur_pick.ok n) (mem_cons (spec_l01Cur_tuple.ok n) (mem_cons (spec_l01Cur_raw.ok n) (mem_cons (spec_l02Put.ok n) (mem_cons (spec_NumText.ok n) (mem_cons (spec_l01Cur_size.ok n) Z00)))))))
theorem u1 (n:Nat) (v:AVs ash):Z08 (cx n) 91 (T n) (kr n v) 1 (.loop b1) :=
 Z0O (n:=n) (CO _) (mk n) (MX _) an1 [(0,[0,1,4,5]),(1,[0,1,4,5,6]),(2,[0,1,4,5,6,7])] [0,1,4,5,6,7,8] sh1 (g1 n) (fun _ _ _=>rfl) (fun _ _ _=>rfl) (fun m x kn kx=>by kernel_rfl) (l:=[]) (by kernel_rfl) (Z00)
theorem u0 (n:Nat) (v:AVs ash):Z08 (cx n) 91 (T n) (kr n v) 0 (.loop b0) :=
 Z0O (n:=n) (CO _) (mk n) (MX _) an0 [(0,[0,1,4,5])] [0,1,4,5,6] sh0 (g0 n) (fun _ _ _=>rfl) (fun _ _ _=>rfl) (fun m x kn kx=>by kernel_rfl) (l:=[(1,.loop b1)]) (by kernel_rfl) (mem_cons (u1 n v) Z00)
theorem u2 (n:Nat) (v:AVs ash):Z08 (cx n) 91 (T n) (kr n v) 2 (.loop b2) :=
 Z0O (n:=n) (CO _) (mk n) (MX _) an2 [(4,[0,4,5]),(5,[0,4,5])] [0,4,5,11] sh2 (g2 n) (fun _ _ _=>rfl) (fun _ _ _=>rfl) (fun m x kn kx=>by kernel_rfl) (l:=[]) (by kernel_rfl) (Z00)
theorem ok (n:Nat):Z07 Tryz.prog 134 (ent n) :=
 Z0E (c:=cx n) (e:=ent n) (d:=d) (CO _) (mk n) (MX _) an Tryz.func134 (by kernel_rfl) (T n) (l:=[(0,.loop b0),(2,.loop b2)]) (by kernel_rfl) (fun v=>mem_cons (u0 n v) (mem_cons (u2 n v) Z00)) (fun v=>by kernel_rfl)
end spec_l01Cur_rel
namespace spec_l01Cur_shaped
def l0 (n:Nat) (t4:List (Int × List (List ByteArray))) (K0:((List Int) × Int × Int) → (List (Int × List (List ByteArray))) → Option ((List (Int × List (List ByteArray))) × (List Int) × Int × Int)):Nat → Int → ((List Int) × Int × Int) → (List (Int × List (List ByteArray))) → Option ((List (Int × List (List ByteArray))) × (List Int) × Int × Int)
 | 0,_,_,_=>none
 | k + 1,t2,c3,d5 =>
 if decide (t2 < 3) = true then
 (spec_l01Cur_rel.F n c3 t2).bind fun r6 =>
 if List.length d5 + List.length [r6.1] ≤ lim then
 l0 n t4 K0 k (IntKind.i64.wrap (t2 + 1)) r6.2 (d5 ++ [r6.1])
 else
 none
 else
 K0 c3 d5
def F (n:Nat) (c1:(List Int) × Int × Int):Option ((List (Int × List (List ByteArray))) × (List Int) × Int × Int) :=
 l0 n [] (fun c7 d8 =>
 some (d8,c7)) n 0 c1 []
noncomputable def code:Code:=Tryz.f81.body.getD .skip
abbrev ash:List ASh:=[.mp (.st (.pair (.sl (.int .u8)) (.pair (.int .i64) (.int .i64)))) .ro]
abbrev rsh:List RSh:=[.ro (.st (.sl (.st (.pair (.int .i64) (.sl (.st (.sl (.str)))))))),.out (.st (.pair (.sl (.int .u8)) (.pair (.int .i64) (.int .i64))))]
def ent (n:Nat):Z0W:=⟨ash,rsh,fun v=>F n v.1⟩
noncomputable def cx (n:Nat):Ctx:=Z0D Tryz.prog TYS [(134,spec_l01Cur_rel.ent n)]
noncomputable def d:FnD:=⟨code,19,.nil,[(.cell 2 31,.st (.sl (.st (.pair (.int .i64) (.sl (.st (.sl (.str))))))),.ro)]⟩
noncomputable def kr (n:Nat) (v:AVs ash):KN rsh:=Z1E (cx n) d (Z0Q ash v) (Z0b rsh)
noncomputable def b0:Code:=Code.l (Code.l (Code.r (Code.l (Code.r (Code.r code)))))
def an:An:=.seq .nil (.seq (.reg [(5,.own .ro),(3,.own .ro)]) (.seq (.seq .nil (.block (some [0,2,3]) (.cut 0 [0,2,3,4]))) (.seq .nil .nil)))
def an0:An:=.seq (.seq .nil (.cond .nil .nil)) (.seq (.block (some [0,2,3,4]) .nil) .nil)
abbrev sh0:ES:=⟨[(0,.pt 0 []),(2,.pt 2 []),(3,.pt 3 []),(4,.v (.int .i64))],[⟨0,.st (.pair (.sl (.int .u8)) (.pair (.int .i64) (.int .i64))),.ro,true,true,none⟩,⟨2,.st (.sl (.st (.pair (.int .i64) (.sl (.st (.sl (.str))))))),.ro,true,false,none⟩,⟨3,.st (.sl (.st (.pair (.int .i64) (.sl (.st (.sl (.str))))))),.own .ro,true,false,none⟩]⟩
abbrev sh0_0:ES:=⟨[(0,.pt 0 []),(2,.pt 2 []),(3,.pt 3 [])],[⟨0,.st (.pair (.sl (.int .u8)) (.pair (.int .i64) (.int .i64))),.ro,true,true,none⟩,⟨2,.st (.sl (.st (.pair (.int .i64) (.sl (.st (.sl (.str))))))),.ro,true,false,none⟩,⟨3,.st (.sl (.st (.pair (.int .i64) (.sl (.st (.sl (.str))))))),.own .ro,true,false,none⟩]⟩
def g0 (n m:Nat) (x:sh0.V) (kn:KN rsh) (kx:KX rsh):Option (RVs rsh):=l0 n x.2.2.1 (fun y0 y1=>kx 0 (sh0_0.enc (((()),(()),(()),()),(y0,x.2.2.1,y1,())))) m x.1.2.2.2.1 x.2.1 x.2.2.2.1
def T (n:Nat):Tab (RVs rsh):=fun j e kn kx=>match j with
 | 0=>ES.on sh0 e fun x=>g0 n n x kn kx
 | _=>none
theorem mk (n:Nat):MOk (cx n):=Z01 (mem_cons (spec_l01Cur_rel.ok n) Z00)
theorem u0 (n:Nat) (v:AVs ash):Z08 (cx n) 19 (T n) (kr n v) 0 (.loop b0) :=
 Z0O (n:=n) (CO _) (mk n) (MX _) an0 [(0,[0,2,3])] [0,2,3,4] sh0 (g0 n) (fun _ _ _=>rfl) (fun _ _ _=>rfl) (fun m x kn kx=>by kernel_rfl) (l:=[]) (by kernel_rfl) (Z00)
theorem ok (n:Nat):Z07 Tryz.prog 81 (ent n) :=
 Z0E (c:=cx n) (e:=ent n) (d:=d) (CO _) (mk n) (MX _) an Tryz.func81 (by kernel_rfl) (T n) (l:=[(0,.loop b0)]) (by kernel_rfl) (fun v=>mem_cons (u0 n v) Z00) (fun v=>by kernel_rfl)
end spec_l01Cur_shaped
namespace spec_TupleOk
def l0 (n:Nat) (t3:List ByteArray) (K0:Unit → Option Bool):Nat → Int → Option Bool
 | 0,_=>none
 | k + 1,i2 =>
 if decide (i2 < (List.length t3:Int)) = true then
 if (0:Int) ≤ i2 ∧ i2 < (List.length t3:Int) then
 (spec_TermKind.F n (List.getD t3 (Int.toNat i2) ByteArray.empty)).bind fun r4 =>
 if decide (r4 = 0) = true then
 some false
 else
 l0 n t3 K0 k (IntKind.i64.wrap (i2 + 1))
 else
 none
 else
 K0 ()
def F (n:Nat) (t1:List ByteArray):Option Bool :=
 if decide ((List.length t1:Int) > 6) = true then
 some false
 else
 l0 n t1 (fun _ =>
 some true) n 0
noncomputable def code:Code:=Tryz.f95.body.getD .skip
abbrev ash:List ASh:=[.ro (.st (.sl (.str)))]
abbrev rsh:List RSh:=[.ro .bool]
def ent (n:Nat):Z0W:=⟨ash,rsh,fun v=>F n v.1⟩
noncomputable def cx (n:Nat):Ctx:=Z0D Tryz.prog TYS [(146,spec_TermKind.ent n)]
noncomputable def d:FnD:=⟨code,22,.nil,[(.tmp 2,.bool,.ro)]⟩
noncomputable def kr (n:Nat) (v:AVs ash):KN rsh:=Z1E (cx n) d (Z0Q ash v) (Z0b rsh)
noncomputable def b0:Code:=Code.l (Code.l (Code.r (Code.l (Code.r (Code.r code)))))
def an:An:=.seq .nil (.seq (.seq .nil (.cond (.seq .nil .nil) .nil)) (.seq (.seq .nil (.block (some []) (.cut 0 [1,3]))) (.seq .nil .nil)))
def an0:An:=.seq (.seq .nil (.cond .nil .nil)) (.seq (.block (some [1,3]) (.seq .nil (.cond (.seq .nil .nil) .nil))) .nil)
abbrev sh0:ES:=⟨[(1,.pt 1 []),(3,.v (.int .i64))],[⟨1,.st (.sl (.str)),.ro,true,false,none⟩]⟩
abbrev sh0_0:ES:=⟨[],[]⟩
def g0 (n m:Nat) (x:sh0.V) (kn:KN rsh) (kx:KX rsh):Option (RVs rsh):=l0 n x.2.1 (fun _=>kx 0 (sh0_0.enc ((()),(())))) m x.1.2.1
def T (n:Nat):Tab (RVs rsh):=fun j e kn kx=>match j with
 | 0=>ES.on sh0 e fun x=>g0 n n x kn kx
 | _=>none
theorem mk (n:Nat):MOk (cx n):=Z01 (mem_cons (spec_TermKind.ok n) Z00)
theorem u0 (n:Nat) (v:AVs ash):Z08 (cx n) 22 (T n) (kr n v) 0 (.loop b0) :=
 Z0O (n:=n) (CO _) (mk n) (MX _) an0 [(0,[])] [1,3] sh0 (g0 n) (fun _ _ _=>rfl) (fun _ _ _=>rfl) (fun m x kn kx=>by kernel_rfl) (l:=[]) (by kernel_rfl) (Z00)
theorem ok (n:Nat):Z07 Tryz.prog 95 (ent n) :=
 Z0E (c:=cx n) (e:=ent n) (d:=d) (CO _) (mk n) (MX _) an Tryz.func95 (by kernel_rfl) (T n) (l:=[(0,.loop b0)]) (by kernel_rfl) (fun v=>mem_cons (u0 n v) Z00) (fun v=>by kernel_rfl)
end spec_TupleOk
namespace spec_RelOk
def l1 (n:Nat) (r5:Int × List (List ByteArray)) (K0:Unit → Option Bool):Nat → Int → Option Bool
 | 0,_=>none
 | k + 1,i4 =>
 if decide (i4 < (List.length r5.2:Int)) = true then
 if (0:Int) ≤ i4 ∧ i4 < (List.length r5.2:Int) then
 if (!decide ((List.length (List.getD r5.2 (Int.toNat i4) []):Int) = r5.1)) = false then
 if (0:Int) ≤ i4 ∧ i4 < (List.length r5.2:Int) then
 (spec_TupleOk.F n (List.getD r5.2 (Int.toNat i4) [])).bind fun r6 =>
 if (!r6) = false then
 if (decide (i4 > 0)) = true then
 if (0:Int) ≤ (IntKind.i64.wrap (i4 - 1)) ∧ (IntKind.i64.wrap (i4 - 1)) < (List.length r5.2:Int) then
 if (0:Int) ≤ i4 ∧ i4 < (List.length r5.2:Int) then
 (spec_l02Cmp.F n (List.getD r5.2 (Int.toNat (IntKind.i64.wrap (i4 - 1))) []) (List.getD r5.2 (Int.toNat i4) [])).bind fun r7 =>
 if decide (r7 ≥ 0) = true then
 some false
 else
 l1 n r5 K0 k (IntKind.i64.wrap (i4 + 1))
 else
 none
 else
 none
 else
 l1 n r5 K0 k (IntKind.i64.wrap (i4 + 1))
 else
 some false
 else
 none
 else
 some false
 else
 none
 else
 K0 ()
def j0 (n:Nat) (r3:Int × List (List ByteArray)):Option Bool :=
 l1 n r3 (fun _ =>
 some true) n 0
def F (n:Nat) (r1:Int × List (List ByteArray)):Option Bool :=
 (spec_l01Between.F n r1.1 0 6).bind fun r2 =>
 if (!r2) = false then
 if decide ((List.length r1.2:Int) > 400) = true then
 some false
 else
 j0 n r1
 else
 some false
noncomputable def code:Code:=Tryz.f118.body.getD .skip
abbrev ash:List ASh:=[.ro (.st (.pair (.int .i64) (.sl (.st (.sl (.str))))))]
abbrev rsh:List RSh:=[.ro .bool]
def ent (n:Nat):Z0W:=⟨ash,rsh,fun v=>F n v.1⟩
noncomputable def cx (n:Nat):Ctx:=Z0D Tryz.prog TYS [(94,spec_l01Between.ent n),(95,spec_TupleOk.ent n),(128,spec_l02Cmp.ent n)]
noncomputable def d:FnD:=⟨code,59,.nil,[(.tmp 2,.bool,.ro)]⟩
noncomputable def kr (n:Nat) (v:AVs ash):KN rsh:=Z1E (cx n) d (Z0Q ash v) (Z0b rsh)
noncomputable def b1:Code:=Code.l (Code.l (Code.r (Code.l (Code.r (Code.r code)))))
noncomputable def c0:Code:=(Code.r (Code.r code))
def an:An:=.seq .nil (.seq (.seq .nil (.cond (.seq .nil .nil) .nil)) (.cut 0 [1]))
def an1:An:=.seq (.seq .nil (.cond .nil .nil)) (.seq (.block (some [1,3]) (.seq .nil (.cond (.seq .nil .nil) .nil))) .nil)
abbrev sh1:ES:=⟨[(1,.pt 1 []),(3,.v (.int .i64))],[⟨1,.st (.pair (.int .i64) (.sl (.st (.sl (.str))))),.ro,true,false,none⟩]⟩
abbrev sh1_0:ES:=⟨[],[]⟩
def an0:An:=.seq (.seq .nil (.block (some []) (.cut 1 [1,3]))) (.seq .nil .nil)
abbrev sh0:ES:=⟨[(1,.pt 1 [])],[⟨1,.st (.pair (.int .i64) (.sl (.st (.sl (.str))))),.ro,true,false,none⟩]⟩
def g1 (n m:Nat) (x:sh1.V) (kn:KN rsh) (kx:KX rsh):Option (RVs rsh):=l1 n x.2.1 (fun _=>kx 0 (sh1_0.enc ((()),(())))) m x.1.2.1
def g0 (n m:Nat) (x:sh0.V) (kn:KN rsh) (kx:KX rsh):Option (RVs rsh):=j0 n x.2.1
def T (n:Nat):Tab (RVs rsh):=fun j e kn kx=>match j with
 | 1=>ES.on sh1 e fun x=>g1 n n x kn kx
 | 0=>ES.on sh0 e fun x=>g0 n n x kn kx
 | _=>none
theorem mk (n:Nat):MOk (cx n):=Z01 (mem_cons (spec_l01Between.ok n) (mem_cons (spec_TupleOk.ok n) (mem_cons (spec_l02Cmp.ok n) Z00)))
theorem u1 (n:Nat) (v:AVs ash):Z08 (cx n) 59 (T n) (kr n v) 1 (.loop b1) :=
 Z0O (n:=n) (CO _) (mk n) (MX _) an1 [(0,[])] [1,3] sh1 (g1 n) (fun _ _ _=>rfl) (fun _ _ _=>rfl) (fun m x kn kx=>by kernel_rfl) (l:=[]) (by kernel_rfl) (Z00)
theorem u0 (n:Nat) (v:AVs ash):Z08 (cx n) 59 (T n) (kr n v) 0 (c0) :=
 Z0p (CO _) (mk n) (MX _) an0 [] [2] sh0 (g0 n n) (fun _ _ _=>rfl) (fun x kn kx=>by kernel_rfl) (l:=[(1,.loop b1)]) (by kernel_rfl) (mem_cons (u1 n v) Z00)
theorem ok (n:Nat):Z07 Tryz.prog 118 (ent n) :=
 Z0E (c:=cx n) (e:=ent n) (d:=d) (CO _) (mk n) (MX _) an Tryz.func118 (by kernel_rfl) (T n) (l:=[(0,c0)]) (by kernel_rfl) (fun v=>mem_cons (u0 n v) Z00) (fun v=>by kernel_rfl)
end spec_RelOk
namespace spec_DbShape
def l0 (n:Nat) (d3:List (Int × List (List ByteArray))) (K0:Unit → Option Bool):Nat → Int → Option Bool
 | 0,_=>none
 | k + 1,i2 =>
 if decide (i2 < (List.length d3:Int)) = true then
 if (0:Int) ≤ i2 ∧ i2 < (List.length d3:Int) then
 (spec_RelOk.F n (List.getD d3 (Int.toNat i2) (0,[]))).bind fun r4 =>
 if (!r4) = true then
 some false
 else
 l0 n d3 K0 k (IntKind.i64.wrap (i2 + 1))
 else
 none
 else
 K0 ()
def F (n:Nat) (d1:List (Int × List (List ByteArray))):Option Bool :=
 if decide ((List.length d1:Int) > 20) = true then
 some false
 else
 l0 n d1 (fun _ =>
 some true) n 0
noncomputable def code:Code:=Tryz.f69.body.getD .skip
abbrev ash:List ASh:=[.ro (.st (.sl (.st (.pair (.int .i64) (.sl (.st (.sl (.str))))))))]
abbrev rsh:List RSh:=[.ro .bool]
def ent (n:Nat):Z0W:=⟨ash,rsh,fun v=>F n v.1⟩
noncomputable def cx (n:Nat):Ctx:=Z0D Tryz.prog TYS [(118,spec_RelOk.ent n)]
noncomputable def d:FnD:=⟨code,22,.nil,[(.tmp 2,.bool,.ro)]⟩
noncomputable def kr (n:Nat) (v:AVs ash):KN rsh:=Z1E (cx n) d (Z0Q ash v) (Z0b rsh)
noncomputable def b0:Code:=Code.l (Code.l (Code.r (Code.l (Code.r (Code.r code)))))
def an:An:=.seq .nil (.seq (.seq .nil (.cond (.seq .nil .nil) .nil)) (.seq (.seq .nil (.block (some []) (.cut 0 [1,3]))) (.seq .nil .nil)))
def an0:An:=.seq (.seq .nil (.cond .nil .nil)) (.seq (.block (some [1,3]) (.seq .nil (.cond (.seq .nil .nil) .nil))) .nil)
abbrev sh0:ES:=⟨[(1,.pt 1 []),(3,.v (.int .i64))],[⟨1,.st (.sl (.st (.pair (.int .i64) (.sl (.st (.sl (.str))))))),.ro,true,false,none⟩]⟩
abbrev sh0_0:ES:=⟨[],[]⟩
def g0 (n m:Nat) (x:sh0.V) (kn:KN rsh) (kx:KX rsh):Option (RVs rsh):=l0 n x.2.1 (fun _=>kx 0 (sh0_0.enc ((()),(())))) m x.1.2.1
def T (n:Nat):Tab (RVs rsh):=fun j e kn kx=>match j with
 | 0=>ES.on sh0 e fun x=>g0 n n x kn kx
 | _=>none
theorem mk (n:Nat):MOk (cx n):=Z01 (mem_cons (spec_RelOk.ok n) Z00)
theorem u0 (n:Nat) (v:AVs ash):Z08 (cx n) 22 (T n) (kr n v) 0 (.loop b0) :=
 Z0O (n:=n) (CO _) (mk n) (MX _) an0 [(0,[])] [1,3] sh0 (g0 n) (fun _ _ _=>rfl) (fun _ _ _=>rfl) (fun m x kn kx=>by kernel_rfl) (l:=[]) (by kernel_rfl) (Z00)
theorem ok (n:Nat):Z07 Tryz.prog 69 (ent n) :=
 Z0E (c:=cx n) (e:=ent n) (d:=d) (CO _) (mk n) (MX _) an Tryz.func69 (by kernel_rfl) (T n) (l:=[(0,.loop b0)]) (by kernel_rfl) (fun v=>mem_cons (u0 n v) Z00) (fun v=>by kernel_rfl)
end spec_DbShape
namespace spec_l02Same
def l0 (n:Nat) (a4:List ByteArray) (b5:List ByteArray) (K0:Unit → Option Bool):Nat → Int → Option Bool
 | 0,_=>none
 | k + 1,i3 =>
 if decide (i3 < (List.length a4:Int)) = true then
 if (0:Int) ≤ i3 ∧ i3 < (List.length a4:Int) then
 if (0:Int) ≤ i3 ∧ i3 < (List.length b5:Int) then
 if (!(Abs.seq (List.getD a4 (Int.toNat i3) ByteArray.empty) (List.getD b5 (Int.toNat i3) ByteArray.empty))) = true then
 some false
 else
 l0 n a4 b5 K0 k (IntKind.i64.wrap (i3 + 1))
 else
 none
 else
 none
 else
 K0 ()
def F (n:Nat) (a1:List ByteArray) (b2:List ByteArray):Option Bool :=
 if (!decide ((List.length a1:Int) = (List.length b2:Int))) = true then
 some false
 else
 l0 n a1 b2 (fun _ =>
 some true) n 0
noncomputable def code:Code:=Tryz.f116.body.getD .skip
abbrev ash:List ASh:=[.ro (.st (.sl (.str))),.ro (.st (.sl (.str)))]
abbrev rsh:List RSh:=[.ro .bool]
def ent (n:Nat):Z0W:=⟨ash,rsh,fun v=>F n v.1 v.2.1⟩
noncomputable def cx (n:Nat):Ctx:=Z0D Tryz.prog TYS []
noncomputable def d:FnD:=⟨code,31,.nil,[(.tmp 4,.bool,.ro)]⟩
noncomputable def kr (n:Nat) (v:AVs ash):KN rsh:=Z1E (cx n) d (Z0Q ash v) (Z0b rsh)
noncomputable def b0:Code:=Code.l (Code.l (Code.r (Code.l (Code.r (Code.r code)))))
def an:An:=.seq .nil (.seq (.seq .nil (.cond (.seq .nil .nil) .nil)) (.seq (.seq .nil (.block (some []) (.cut 0 [2,3,5]))) (.seq .nil .nil)))
def an0:An:=.seq (.seq .nil (.cond .nil .nil)) (.seq (.block (some [2,3,5]) (.seq .nil (.cond (.seq .nil .nil) .nil))) .nil)
abbrev sh0:ES:=⟨[(2,.pt 2 []),(3,.pt 3 []),(5,.v (.int .i64))],[⟨2,.st (.sl (.str)),.ro,true,false,none⟩,⟨3,.st (.sl (.str)),.ro,true,false,none⟩]⟩
abbrev sh0_0:ES:=⟨[],[]⟩
def g0 (n m:Nat) (x:sh0.V) (kn:KN rsh) (kx:KX rsh):Option (RVs rsh):=l0 n x.2.1 x.2.2.1 (fun _=>kx 0 (sh0_0.enc ((()),(())))) m x.1.2.2.1
def T (n:Nat):Tab (RVs rsh):=fun j e kn kx=>match j with
 | 0=>ES.on sh0 e fun x=>g0 n n x kn kx
 | _=>none
theorem mk (n:Nat):MOk (cx n):=Z01 (Z00)
theorem u0 (n:Nat) (v:AVs ash):Z08 (cx n) 31 (T n) (kr n v) 0 (.loop b0) :=
 Z0O (n:=n) (CO _) (mk n) (MX _) an0 [(0,[])] [2,3,5] sh0 (g0 n) (fun _ _ _=>rfl) (fun _ _ _=>rfl) (fun m x kn kx=>by kernel_rfl) (l:=[]) (by kernel_rfl) (Z00)
theorem ok (n:Nat):Z07 Tryz.prog 116 (ent n) :=
 Z0E (c:=cx n) (e:=ent n) (d:=d) (CO _) (mk n) (MX _) an Tryz.func116 (by kernel_rfl) (T n) (l:=[(0,.loop b0)]) (by kernel_rfl) (fun v=>mem_cons (u0 n v) Z00) (fun v=>by kernel_rfl)
end spec_l02Same
namespace spec_l02Has
def l0 (n:Nat) (rows3:List (List ByteArray)) (t5:List ByteArray) (K0:Unit → Option Bool):Nat → Int → Option Bool
 | 0,_=>none
 | k + 1,i4 =>
 if decide (i4 < (List.length rows3:Int)) = true then
 if (0:Int) ≤ i4 ∧ i4 < (List.length rows3:Int) then
 (spec_l02Same.F n (List.getD rows3 (Int.toNat i4) []) t5).bind fun r6 =>
 if r6 = true then
 some true
 else
 l0 n rows3 t5 K0 k (IntKind.i64.wrap (i4 + 1))
 else
 none
 else
 K0 ()
def F (n:Nat) (rows1:List (List ByteArray)) (t2:List ByteArray):Option Bool :=
 l0 n rows1 t2 (fun _ =>
 some false) n 0
noncomputable def code:Code:=Tryz.f96.body.getD .skip
abbrev ash:List ASh:=[.ro (.sl (.st (.sl (.str)))),.ro (.st (.sl (.str)))]
abbrev rsh:List RSh:=[.ro .bool]
def ent (n:Nat):Z0W:=⟨ash,rsh,fun v=>F n v.1 v.2.1⟩
noncomputable def cx (n:Nat):Ctx:=Z0D Tryz.prog TYS [(116,spec_l02Same.ent n)]
noncomputable def d:FnD:=⟨code,18,.nil,[(.tmp 4,.bool,.ro)]⟩
noncomputable def kr (n:Nat) (v:AVs ash):KN rsh:=Z1E (cx n) d (Z0Q ash v) (Z0b rsh)
noncomputable def b0:Code:=Code.l (Code.l (Code.r (Code.l (Code.r code))))
def an:An:=.seq .nil (.seq (.seq .nil (.block (some []) (.cut 0 [0,3,5]))) (.seq .nil .nil))
def an0:An:=.seq (.seq .nil (.cond .nil .nil)) (.seq (.block (some [0,3,5]) (.seq .nil (.cond (.seq .nil .nil) .nil))) .nil)
abbrev sh0:ES:=⟨[(0,.v (.sl (.st (.sl (.str))))),(3,.pt 3 []),(5,.v (.int .i64))],[⟨3,.st (.sl (.str)),.ro,true,false,none⟩]⟩
abbrev sh0_0:ES:=⟨[],[]⟩
def g0 (n m:Nat) (x:sh0.V) (kn:KN rsh) (kx:KX rsh):Option (RVs rsh):=l0 n x.1.1 x.2.1 (fun _=>kx 0 (sh0_0.enc ((()),(())))) m x.1.2.2.1
def T (n:Nat):Tab (RVs rsh):=fun j e kn kx=>match j with
 | 0=>ES.on sh0 e fun x=>g0 n n x kn kx
 | _=>none
theorem mk (n:Nat):MOk (cx n):=Z01 (mem_cons (spec_l02Same.ok n) Z00)
theorem u0 (n:Nat) (v:AVs ash):Z08 (cx n) 18 (T n) (kr n v) 0 (.loop b0) :=
 Z0O (n:=n) (CO _) (mk n) (MX _) an0 [(0,[])] [0,3,5] sh0 (g0 n) (fun _ _ _=>rfl) (fun _ _ _=>rfl) (fun m x kn kx=>by kernel_rfl) (l:=[]) (by kernel_rfl) (Z00)
theorem ok (n:Nat):Z07 Tryz.prog 96 (ent n) :=
 Z0E (c:=cx n) (e:=ent n) (d:=d) (CO _) (mk n) (MX _) an Tryz.func96 (by kernel_rfl) (T n) (l:=[(0,.loop b0)]) (by kernel_rfl) (fun v=>mem_cons (u0 n v) Z00) (fun v=>by kernel_rfl)
end spec_l02Has
namespace spec_RelLess
def l1 (n:Nat) (a9:Int × List (List ByteArray)) (b10:Int × List (List ByteArray)) (t11:Int × List (List ByteArray)) (K0:(Int × List (List ByteArray)) → Option (Int × List (List ByteArray))):Nat → Int → (Int × List (List ByteArray)) → Option (Int × List (List ByteArray))
 | 0,_,_=>none
 | k + 1,i8,out12 =>
 if decide (i8 < (List.length a9.2:Int)) = true then
 if (0:Int) ≤ i8 ∧ i8 < (List.length a9.2:Int) then
 (spec_l02Has.F n b10.2 (List.getD a9.2 (Int.toNat i8) [])).bind fun r13 =>
 if (!r13) = true then
 if (0:Int) ≤ i8 ∧ i8 < (List.length a9.2:Int) then
 (spec_l02Tuple.F n (List.getD a9.2 (Int.toNat i8) [])).bind fun r14 =>
 if List.length out12.2 + List.length [r14] ≤ lim then
 l1 n a9 b10 t11 K0 k (IntKind.i64.wrap (i8 + 1)) (out12.1,out12.2 ++ [r14])
 else
 none
 else
 none
 else
 l1 n a9 b10 t11 K0 k (IntKind.i64.wrap (i8 + 1)) out12
 else
 none
 else
 K0 out12
def j0 (n:Nat) (a5:Int × List (List ByteArray)) (b6:Int × List (List ByteArray)) (t7:Int × List (List ByteArray)):Option (Int × List (List ByteArray)) :=
 l1 n a5 b6 t7 (fun out15 =>
 some out15) n 0 (a5.1,[])
def F (n:Nat) (a1:Int × List (List ByteArray)) (b2:Int × List (List ByteArray)):Option (Int × List (List ByteArray)) :=
 (spec_RelOk.F n a1).bind fun r3 =>
 if (!r3) = false then
 (spec_RelOk.F n b2).bind fun r4 =>
 if (!r4) = false then
 if (!decide (a1.1 = b2.1)) = true then
 some (0,[])
 else
 j0 n a1 b2 (0,[])
 else
 some (0,[])
 else
 some (0,[])
noncomputable def code:Code:=Tryz.f67.body.getD .skip
abbrev ash:List ASh:=[.ro (.st (.pair (.int .i64) (.sl (.st (.sl (.str)))))),.ro (.st (.pair (.int .i64) (.sl (.st (.sl (.str))))))]
abbrev rsh:List RSh:=[.ro (.st (.pair (.int .i64) (.sl (.st (.sl (.str))))))]
def ent (n:Nat):Z0W:=⟨ash,rsh,fun v=>F n v.1 v.2.1⟩
noncomputable def cx (n:Nat):Ctx:=Z0D Tryz.prog TYS [(96,spec_l02Has.ent n),(117,spec_l02Tuple.ent n),(118,spec_RelOk.ent n)]
noncomputable def d:FnD:=⟨code,54,.nil,[(.cell 4 65,.st (.pair (.int .i64) (.sl (.st (.sl (.str))))),.ro)]⟩
noncomputable def kr (n:Nat) (v:AVs ash):KN rsh:=Z1E (cx n) d (Z0Q ash v) (Z0b rsh)
noncomputable def b1:Code:=Code.l (Code.l (Code.r (Code.l (Code.r (Code.r (Code.r code))))))
noncomputable def c0:Code:=(Code.r (Code.r code))
def an:An:=.seq .nil (.seq (.seq .nil (.cond (.seq .nil .nil) .nil)) (.cut 0 [2,3,4]))
def an1:An:=.seq (.seq .nil (.cond .nil .nil)) (.seq (.block (some [2,3,4,5,6]) (.seq .nil (.cond .nil .nil))) .nil)
abbrev sh1:ES:=⟨[(2,.pt 2 []),(3,.pt 3 []),(4,.pt 4 []),(5,.pt 5 []),(6,.v (.int .i64))],[⟨2,.st (.pair (.int .i64) (.sl (.st (.sl (.str))))),.ro,true,false,none⟩,⟨3,.st (.pair (.int .i64) (.sl (.st (.sl (.str))))),.ro,true,false,none⟩,⟨4,.st (.pair (.int .i64) (.sl (.st (.sl (.str))))),.ro,true,false,none⟩,⟨5,.st (.pair (.int .i64) (.sl (.st (.sl (.str))))),.pr .ro (.own .ro),true,false,none⟩]⟩
abbrev sh1_0:ES:=⟨[(4,.pt 4 []),(5,.pt 5 [])],[⟨4,.st (.pair (.int .i64) (.sl (.st (.sl (.str))))),.ro,true,false,none⟩,⟨5,.st (.pair (.int .i64) (.sl (.st (.sl (.str))))),.pr .ro (.own .ro),true,false,none⟩]⟩
def an0:An:=.seq (.reg [(25,.pr .ro (.own .ro)),(5,.pr .ro (.own .ro))]) (.seq (.seq .nil (.block (some [4,5]) (.cut 1 [2,3,4,5,6]))) (.seq .nil .nil))
abbrev sh0:ES:=⟨[(2,.pt 2 []),(3,.pt 3 []),(4,.pt 4 [])],[⟨2,.st (.pair (.int .i64) (.sl (.st (.sl (.str))))),.ro,true,false,none⟩,⟨3,.st (.pair (.int .i64) (.sl (.st (.sl (.str))))),.ro,true,false,none⟩,⟨4,.st (.pair (.int .i64) (.sl (.st (.sl (.str))))),.ro,true,false,none⟩]⟩
def g1 (n m:Nat) (x:sh1.V) (kn:KN rsh) (kx:KX rsh):Option (RVs rsh):=l1 n x.2.1 x.2.2.1 x.2.2.2.1 (fun y0=>kx 0 (sh1_0.enc (((()),(()),()),(x.2.2.2.1,y0,())))) m x.1.2.2.2.2.1 x.2.2.2.2.1
def g0 (n m:Nat) (x:sh0.V) (kn:KN rsh) (kx:KX rsh):Option (RVs rsh):=j0 n x.2.1 x.2.2.1 x.2.2.2.1
def T (n:Nat):Tab (RVs rsh):=fun j e kn kx=>match j with
 | 1=>ES.on sh1 e fun x=>g1 n n x kn kx
 | 0=>ES.on sh0 e fun x=>g0 n n x kn kx
 | _=>none
theorem mk (n:Nat):MOk (cx n):=Z01 (mem_cons (spec_l02Has.ok n) (mem_cons (spec_l02Tuple.ok n) (mem_cons (spec_RelOk.ok n) Z00)))
theorem u1 (n:Nat) (v:AVs ash):Z08 (cx n) 54 (T n) (kr n v) 1 (.loop b1) :=
 Z0O (n:=n) (CO _) (mk n) (MX _) an1 [(0,[4,5])] [2,3,4,5,6] sh1 (g1 n) (fun _ _ _=>rfl) (fun _ _ _=>rfl) (fun m x kn kx=>by kernel_rfl) (l:=[]) (by kernel_rfl) (Z00)
theorem u0 (n:Nat) (v:AVs ash):Z08 (cx n) 54 (T n) (kr n v) 0 (c0) :=
 Z0p (CO _) (mk n) (MX _) an0 [] [4] sh0 (g0 n n) (fun _ _ _=>rfl) (fun x kn kx=>by kernel_rfl) (l:=[(1,.loop b1)]) (by kernel_rfl) (mem_cons (u1 n v) Z00)
theorem ok (n:Nat):Z07 Tryz.prog 67 (ent n) :=
 Z0E (c:=cx n) (e:=ent n) (d:=d) (CO _) (mk n) (MX _) an Tryz.func67 (by kernel_rfl) (T n) (l:=[(0,c0)]) (by kernel_rfl) (fun v=>mem_cons (u0 n v) Z00) (fun v=>by kernel_rfl)
end spec_RelLess
namespace spec_Changes
def l2 (n:Nat) (t14:Int) (t15:List (List ByteArray)) (t16:List (List ByteArray)) (t18:List (Int × List (List ByteArray))) (t19:List (Int × List (List ByteArray))) (K2:(List (Int × (List ByteArray) × Bool)) → Option ((List (Int × (List ByteArray) × Bool)) × Bool)):Nat → Int → (List (Int × (List ByteArray) × Bool)) → Option ((List (Int × (List ByteArray) × Bool)) × Bool)
 | 0,_,_=>none
 | k + 1,t17,t20 =>
 if decide (t17 < (List.length t15:Int)) = true then
 if (0:Int) ≤ t17 ∧ t17 < (List.length t15:Int) then
 if List.length t20 + List.length ([(t14,(List.getD t15 (Int.toNat t17) [],false))]:List (Int × (List ByteArray) × Bool)) ≤ lim then
 l2 n t14 t15 t16 t18 t19 K2 k (IntKind.i64.wrap (t17 + 1)) (t20 ++ [(t14,(List.getD t15 (Int.toNat t17) [],false))])
 else
 none
 else
 none
 else
 K2 t20
def l3 (n:Nat) (t22:Int) (t23:List (List ByteArray)) (t25:List (Int × List (List ByteArray))) (t26:List (Int × List (List ByteArray))) (K4:(List (Int × (List ByteArray) × Bool)) → Option ((List (Int × (List ByteArray) × Bool)) × Bool)):Nat → Int → (List (Int × (List ByteArray) × Bool)) → Option ((List (Int × (List ByteArray) × Bool)) × Bool)
 | 0,_,_=>none
 | k + 1,t24,t27 =>
 if decide (t24 < (List.length t23:Int)) = true then
 if (0:Int) ≤ t24 ∧ t24 < (List.length t23:Int) then
 if List.length t27 + List.length ([(t22,(List.getD t23 (Int.toNat t24) [],true))]:List (Int × (List ByteArray) × Bool)) ≤ lim then
 l3 n t22 t23 t25 t26 K4 k (IntKind.i64.wrap (t24 + 1)) (t27 ++ [(t22,(List.getD t23 (Int.toNat t24) [],true))])
 else
 none
 else
 none
 else
 K4 t27
def l1 (n:Nat) (t9:List (Int × List (List ByteArray))) (t10:List (Int × List (List ByteArray))) (K0:(List (Int × (List ByteArray) × Bool)) → Option ((List (Int × (List ByteArray) × Bool)) × Bool)):Nat → Int → (List (Int × (List ByteArray) × Bool)) → Option ((List (Int × (List ByteArray) × Bool)) × Bool)
 | 0,_,_=>none
 | k + 1,t8,t11 =>
 if decide (t8 < (List.length t9:Int)) = true then
 if (0:Int) ≤ t8 ∧ t8 < (List.length t9:Int) then
 if (0:Int) ≤ t8 ∧ t8 < (List.length t10:Int) then
 if (!decide (((List.getD t9 (Int.toNat t8) (0,[])).1) = ((List.getD t10 (Int.toNat t8) (0,[])).1))) = true then
 some ([],false)
 else
 if (0:Int) ≤ t8 ∧ t8 < (List.length t9:Int) then
 if (0:Int) ≤ t8 ∧ t8 < (List.length t10:Int) then
 (spec_RelLess.F n (List.getD t9 (Int.toNat t8) (0,[])) (List.getD t10 (Int.toNat t8) (0,[]))).bind fun r12 =>
 if (0:Int) ≤ t8 ∧ t8 < (List.length t10:Int) then
 if (0:Int) ≤ t8 ∧ t8 < (List.length t9:Int) then
 (spec_RelLess.F n (List.getD t10 (Int.toNat t8) (0,[])) (List.getD t9 (Int.toNat t8) (0,[]))).bind fun r13 =>
 l2 n t8 r12.2 r13.2 t9 t10 (fun t21 =>
 l3 n t8 r13.2 t9 t10 (fun t28 =>
 l1 n t9 t10 K0 k (IntKind.i64.wrap (t8 + 1)) t28) n 0 t21) n 0 t11
 else
 none
 else
 none
 else
 none
 else
 none
 else
 none
 else
 none
 else
 K0 t11
def j0 (n:Nat) (t5:List (Int × List (List ByteArray))) (t6:List (Int × List (List ByteArray))) (t7:List (Int × (List ByteArray) × Bool)):Option ((List (Int × (List ByteArray) × Bool)) × Bool) :=
 l1 n t5 t6 (fun t29 =>
 some (t29,true)) n 0 t7
def F (n:Nat) (t1:List (Int × List (List ByteArray))) (t2:List (Int × List (List ByteArray))):Option ((List (Int × (List ByteArray) × Bool)) × Bool) :=
 (spec_DbShape.F n t1).bind fun r3 =>
 if (!r3) = false then
 (spec_DbShape.F n t2).bind fun r4 =>
 if (!r4) = false then
 if (!decide ((List.length t1:Int) = (List.length t2:Int))) = true then
 some ([],false)
 else
 j0 n t1 t2 []
 else
 some ([],false)
 else
 some ([],false)
noncomputable def code:Code:=Tryz.f16.body.getD .skip
abbrev ash:List ASh:=[.ro (.st (.sl (.st (.pair (.int .i64) (.sl (.st (.sl (.str)))))))),.ro (.st (.sl (.st (.pair (.int .i64) (.sl (.st (.sl (.str))))))))]
abbrev rsh:List RSh:=[.own (.sl (.st (.pair (.int .i64) (.pair (.st (.sl (.str))) (.bool))))) (.own .ro),.ro .bool]
def ent (n:Nat):Z0W:=⟨ash,rsh,fun v=>F n v.1 v.2.1⟩
noncomputable def cx (n:Nat):Ctx:=Z0D Tryz.prog TYS [(67,spec_RelLess.ent n),(69,spec_DbShape.ent n)]
noncomputable def d:FnD:=⟨code,107,.nil,[(.tmp 4,.sl (.st (.pair (.int .i64) (.pair (.st (.sl (.str))) (.bool)))),.own .ro),(.tmp 5,.bool,.ro)]⟩
noncomputable def kr (n:Nat) (v:AVs ash):KN rsh:=Z1E (cx n) d (Z0Q ash v) (Z0b rsh)
noncomputable def b2:Code:=Code.l (Code.l (Code.r (Code.l (Code.r (Code.r (Code.r (Code.l (Code.l (Code.r (Code.l (Code.l (Code.r (Code.l (Code.r (Code.r (Code.r code))))))))))))))))
noncomputable def b3:Code:=Code.l (Code.l (Code.r (Code.r (Code.r (Code.r (Code.r (Code.l (Code.l (Code.r (Code.l (Code.l (Code.r (Code.l (Code.r (Code.r (Code.r code))))))))))))))))
noncomputable def b1:Code:=Code.l (Code.l (Code.r (Code.l (Code.r (Code.r (Code.r code))))))
noncomputable def c0:Code:=(Code.r (Code.r (Code.r code)))
def an:An:=.seq .nil (.seq (.reg [(12,.own .ro)]) (.seq (.seq .nil (.cond (.seq .nil .nil) .nil)) (.cut 0 [2,3,6])))
def an2:An:=.seq (.seq .nil (.cond .nil .nil)) (.seq (.block (some [2,3,6,7,8,9,10]) .nil) .nil)
abbrev sh2:ES:=⟨[(2,.pt 2 []),(3,.pt 3 []),(6,.al 6 []),(7,.v (.int .i64)),(8,.v (.sl (.st (.sl (.str))))),(9,.v (.sl (.st (.sl (.str))))),(10,.v (.int .i64))],[⟨2,.st (.sl (.st (.pair (.int .i64) (.sl (.st (.sl (.str))))))),.ro,true,false,none⟩,⟨3,.st (.sl (.st (.pair (.int .i64) (.sl (.st (.sl (.str))))))),.ro,true,false,none⟩,⟨6,.sl (.st (.pair (.int .i64) (.pair (.st (.sl (.str))) (.bool)))),.own .ro,false,false,none⟩]⟩
abbrev sh2_2:ES:=⟨[(2,.pt 2 []),(3,.pt 3 []),(6,.al 6 []),(7,.v (.int .i64)),(9,.v (.sl (.st (.sl (.str)))))],[⟨2,.st (.sl (.st (.pair (.int .i64) (.sl (.st (.sl (.str))))))),.ro,true,false,none⟩,⟨3,.st (.sl (.st (.pair (.int .i64) (.sl (.st (.sl (.str))))))),.ro,true,false,none⟩,⟨6,.sl (.st (.pair (.int .i64) (.pair (.st (.sl (.str))) (.bool)))),.own .ro,false,false,none⟩]⟩
def an3:An:=.seq (.seq .nil (.cond .nil .nil)) (.seq (.block (some [2,3,6,7,9,11]) .nil) .nil)
abbrev sh3:ES:=⟨[(2,.pt 2 []),(3,.pt 3 []),(6,.al 6 []),(7,.v (.int .i64)),(9,.v (.sl (.st (.sl (.str))))),(11,.v (.int .i64))],[⟨2,.st (.sl (.st (.pair (.int .i64) (.sl (.st (.sl (.str))))))),.ro,true,false,none⟩,⟨3,.st (.sl (.st (.pair (.int .i64) (.sl (.st (.sl (.str))))))),.ro,true,false,none⟩,⟨6,.sl (.st (.pair (.int .i64) (.pair (.st (.sl (.str))) (.bool)))),.own .ro,false,false,none⟩]⟩
abbrev sh3_4:ES:=⟨[(2,.pt 2 []),(3,.pt 3 []),(6,.al 6 []),(7,.v (.int .i64))],[⟨2,.st (.sl (.st (.pair (.int .i64) (.sl (.st (.sl (.str))))))),.ro,true,false,none⟩,⟨3,.st (.sl (.st (.pair (.int .i64) (.sl (.st (.sl (.str))))))),.ro,true,false,none⟩,⟨6,.sl (.st (.pair (.int .i64) (.pair (.st (.sl (.str))) (.bool)))),.own .ro,false,false,none⟩]⟩
def an1:An:=.seq (.seq .nil (.cond .nil .nil)) (.seq (.block (some [2,3,6,7]) (.seq (.seq .nil (.cond (.seq (.reg [(51,.own .ro)]) .nil) .nil)) (.seq .nil (.seq .nil (.seq (.seq .nil (.block (some [2,3,6,7,9]) (.cut 2 [2,3,6,7,8,9,10]))) (.seq .nil (.block (some [2,3,6,7]) (.cut 3 [2,3,6,7,9,11])))))))) .nil)
abbrev sh1:ES:=⟨[(2,.pt 2 []),(3,.pt 3 []),(6,.al 6 []),(7,.v (.int .i64))],[⟨2,.st (.sl (.st (.pair (.int .i64) (.sl (.st (.sl (.str))))))),.ro,true,false,none⟩,⟨3,.st (.sl (.st (.pair (.int .i64) (.sl (.st (.sl (.str))))))),.ro,true,false,none⟩,⟨6,.sl (.st (.pair (.int .i64) (.pair (.st (.sl (.str))) (.bool)))),.own .ro,false,false,none⟩]⟩
abbrev sh1_0:ES:=⟨[(6,.al 6 [])],[⟨6,.sl (.st (.pair (.int .i64) (.pair (.st (.sl (.str))) (.bool)))),.own .ro,false,false,none⟩]⟩
def an0:An:=.seq (.seq .nil (.block (some [6]) (.cut 1 [2,3,6,7]))) (.seq .nil .nil)
abbrev sh0:ES:=⟨[(2,.pt 2 []),(3,.pt 3 []),(6,.al 6 [])],[⟨2,.st (.sl (.st (.pair (.int .i64) (.sl (.st (.sl (.str))))))),.ro,true,false,none⟩,⟨3,.st (.sl (.st (.pair (.int .i64) (.sl (.st (.sl (.str))))))),.ro,true,false,none⟩,⟨6,.sl (.st (.pair (.int .i64) (.pair (.st (.sl (.str))) (.bool)))),.own .ro,false,false,none⟩]⟩
def g2 (n m:Nat) (x:sh2.V) (kn:KN rsh) (kx:KX rsh):Option (RVs rsh):=l2 n x.1.2.2.2.1 x.1.2.2.2.2.1 x.1.2.2.2.2.2.1 x.2.1 x.2.2.1 (fun y0=>kx 2 (sh2_2.enc (((()),(()),(()),x.1.2.2.2.1,x.1.2.2.2.2.2.1,()),(x.2.1,x.2.2.1,y0,())))) m x.1.2.2.2.2.2.2.1 x.2.2.2.1
def g3 (n m:Nat) (x:sh3.V) (kn:KN rsh) (kx:KX rsh):Option (RVs rsh):=l3 n x.1.2.2.2.1 x.1.2.2.2.2.1 x.2.1 x.2.2.1 (fun y0=>kx 4 (sh3_4.enc (((()),(()),(()),x.1.2.2.2.1,()),(x.2.1,x.2.2.1,y0,())))) m x.1.2.2.2.2.2.1 x.2.2.2.1
def g1 (n m:Nat) (x:sh1.V) (kn:KN rsh) (kx:KX rsh):Option (RVs rsh):=l1 n x.2.1 x.2.2.1 (fun y0=>kx 0 (sh1_0.enc (((()),()),(y0,())))) m x.1.2.2.2.1 x.2.2.2.1
def g0 (n m:Nat) (x:sh0.V) (kn:KN rsh) (kx:KX rsh):Option (RVs rsh):=j0 n x.2.1 x.2.2.1 x.2.2.2.1
def T (n:Nat):Tab (RVs rsh):=fun j e kn kx=>match j with
 | 2=>ES.on sh2 e fun x=>g2 n n x kn kx
 | 3=>ES.on sh3 e fun x=>g3 n n x kn kx
 | 1=>ES.on sh1 e fun x=>g1 n n x kn kx
 | 0=>ES.on sh0 e fun x=>g0 n n x kn kx
 | _=>none
theorem mk (n:Nat):MOk (cx n):=Z01 (mem_cons (spec_RelLess.ok n) (mem_cons (spec_DbShape.ok n) Z00))
theorem u2 (n:Nat) (v:AVs ash):Z08 (cx n) 107 (T n) (kr n v) 2 (.loop b2) :=
 Z0O (n:=n) (CO _) (mk n) (MX _) an2 [(0,[6]),(1,[2,3,6,7]),(2,[2,3,6,7,9])] [2,3,6,7,8,9,10] sh2 (g2 n) (fun _ _ _=>rfl) (fun _ _ _=>rfl) (fun m x kn kx=>by kernel_rfl) (l:=[]) (by kernel_rfl) (Z00)
theorem u3 (n:Nat) (v:AVs ash):Z08 (cx n) 107 (T n) (kr n v) 3 (.loop b3) :=
 Z0O (n:=n) (CO _) (mk n) (MX _) an3 [(0,[6]),(1,[2,3,6,7]),(4,[2,3,6,7])] [2,3,6,7,9,11] sh3 (g3 n) (fun _ _ _=>rfl) (fun _ _ _=>rfl) (fun m x kn kx=>by kernel_rfl) (l:=[]) (by kernel_rfl) (Z00)
theorem u1 (n:Nat) (v:AVs ash):Z08 (cx n) 107 (T n) (kr n v) 1 (.loop b1) :=
 Z0O (n:=n) (CO _) (mk n) (MX _) an1 [(0,[6])] [2,3,6,7] sh1 (g1 n) (fun _ _ _=>rfl) (fun _ _ _=>rfl) (fun m x kn kx=>by kernel_rfl) (l:=[(2,.loop b2),(3,.loop b3)]) (by kernel_rfl) (mem_cons (u2 n v) (mem_cons (u3 n v) Z00))
theorem u0 (n:Nat) (v:AVs ash):Z08 (cx n) 107 (T n) (kr n v) 0 (c0) :=
 Z0p (CO _) (mk n) (MX _) an0 [] [4,5] sh0 (g0 n n) (fun _ _ _=>rfl) (fun x kn kx=>by kernel_rfl) (l:=[(1,.loop b1)]) (by kernel_rfl) (mem_cons (u1 n v) Z00)
theorem ok (n:Nat):Z07 Tryz.prog 16 (ent n) :=
 Z0E (c:=cx n) (e:=ent n) (d:=d) (CO _) (mk n) (MX _) an Tryz.func16 (by kernel_rfl) (T n) (l:=[(0,c0)]) (by kernel_rfl) (fun v=>mem_cons (u0 n v) Z00) (fun v=>by kernel_rfl)
end spec_Changes
namespace spec_DrawApply
def F (n:Nat) (code1:List Int):Option ((List (Int × List (List ByteArray))) × List (Int × (List ByteArray) × Bool)) :=
 (spec_l01Open.F n code1).bind fun r2 =>
 (spec_l01Cur_shaped.F n r2).bind fun r3 =>
 (spec_l01Cur_shaped.F n r3.2).bind fun r4 =>
 (spec_Changes.F n r3.1 r4.1).bind fun r5 =>
 (spec_l01Cur_once.F n r4.2 5).bind fun r6 =>
 if r6.1 = true then
 (spec_l01Cur_pick.F n r6.2 4).bind fun r7 =>
 (spec_l01Cur_pick.F n r7.2 3).bind fun r8 =>
 (spec_l01Cur_tuple.F n r8.2 r8.1).bind fun r9 =>
 (spec_l01Cur_pick.F n r9.2 2).bind fun r10 =>
 if List.length r5.1 + List.length [(r7.1,(r9.1,decide (r10.1 = 0)))] ≤ lim then
 (spec_l01Cur_once.F n r10.2 16).bind fun r11 =>
 if r11.1 = true then
 (spec_l01Cur_raw.F n r11.2).bind fun r12 =>
 if List.length (r5.1 ++ [(r7.1,(r9.1,decide (r10.1 = 0)))]) + List.length ([(r12.1,([],false))]:List (Int × (List ByteArray) × Bool)) ≤ lim then
 some (r3.1,(r5.1 ++ [(r7.1,(r9.1,decide (r10.1 = 0)))]) ++ [(r12.1,([],false))])
 else
 none
 else
 some (r3.1,r5.1 ++ [(r7.1,(r9.1,decide (r10.1 = 0)))])
 else
 none
 else
 (spec_l01Cur_once.F n r6.2 16).bind fun r13 =>
 if r13.1 = true then
 (spec_l01Cur_raw.F n r13.2).bind fun r14 =>
 if List.length r5.1 + List.length ([(r14.1,([],false))]:List (Int × (List ByteArray) × Bool)) ≤ lim then
 some (r3.1,r5.1 ++ [(r14.1,([],false))])
 else
 none
 else
 some (r3.1,r5.1)
noncomputable def code:Code:=Tryz.f25.body.getD .skip
abbrev ash:List ASh:=[.ro (.sl (.int .u8))]
abbrev rsh:List RSh:=[.ro (.st (.sl (.st (.pair (.int .i64) (.sl (.st (.sl (.str)))))))),.ro (.sl (.st (.pair (.int .i64) (.pair (.st (.sl (.str))) (.bool)))))]
def ent (n:Nat):Z0W:=⟨ash,rsh,fun v=>F n v.1⟩
noncomputable def cx (n:Nat):Ctx:=Z0D Tryz.prog TYS [(16,spec_Changes.ent n),(80,spec_l01Open.ent n),(81,spec_l01Cur_shaped.ent n),(82,spec_l01Cur_once.ent n),(83,spec_l01Cur_pick.ent n),(84,spec_l01Cur_tuple.ent n),(85,spec_l01Cur_raw.ent n)]
noncomputable def d:FnD:=⟨code,44,.nil,[(.cell 2 31,.st (.sl (.st (.pair (.int .i64) (.sl (.st (.sl (.str))))))),.ro),(.tmp 3,.sl (.st (.pair (.int .i64) (.pair (.st (.sl (.str))) (.bool)))),.ro)]⟩
def an:An:=.seq .nil (.seq .nil (.seq .nil (.seq (.reg [(4112,.own .ro)]) (.seq (.seq .nil (.cond .nil .nil)) (.seq (.seq .nil (.cond .nil .nil)) (.seq .nil .nil))))))
theorem ok (n:Nat):Z07 Tryz.prog 25 (ent n) :=
 Z0H (c:=cx n) (e:=ent n) (d:=d) (CO _) (Z01 (mem_cons (spec_Changes.ok n) (mem_cons (spec_l01Open.ok n) (mem_cons (spec_l01Cur_shaped.ok n) (mem_cons (spec_l01Cur_once.ok n) (mem_cons (spec_l01Cur_pick.ok n) (mem_cons (spec_l01Cur_tuple.ok n) (mem_cons (spec_l01Cur_raw.ok n) Z00)))))))) (MX _) an Tryz.func25 (by kernel_rfl) (by kernel_rfl) (fun v=>by kernel_rfl)
end spec_DrawApply
namespace slices_IndexFunc_Rel_Rel
def l0 (n:Nat) (s3:List (Int × List (List ByteArray))) (f4:((Int × List (List ByteArray)) × Unit) → Option Bool) (t5:Int) (K0:Unit → Option Int):Nat → Int → Option Int
 | 0,_=>none
 | k + 1,t6 =>
 if decide (t6 < t5) = true then
 if (0:Int) ≤ t6 ∧ t6 < (List.length s3:Int) then
 (f4 (List.getD s3 (Int.toNat t6) (0,[]),())).bind fun r7 =>
 if r7 = true then
 some t6
 else
 l0 n s3 f4 t5 K0 k (IntKind.i64.wrap (t6 + 1))
 else
 none
 else
 K0 ()
def F (n:Nat) (s1:List (Int × List (List ByteArray))) (f2:((Int × List (List ByteArray)) × Unit) → Option Bool):Option Int :=
 l0 n s1 f2 (List.length s1:Int) (fun _ =>
 some (-1)) n 0
noncomputable def code:Code:=Tryz.f165.body.getD .skip
abbrev ash:List ASh:=[.ro (.sl (.st (.pair (.int .i64) (.sl (.st (.sl (.str))))))),.fn [.st (.pair (.int .i64) (.sl (.st (.sl (.str)))))] .bool]
abbrev rsh:List RSh:=[.ro (.int .i64)]
def ent (n:Nat):Z0W:=⟨ash,rsh,fun v=>F n v.1 v.2.1⟩
noncomputable def cx (n:Nat):Ctx:=Z0D Tryz.prog TYS []
noncomputable def d:FnD:=⟨code,19,.nil,[(.tmp 4,.int .i64,.ro)]⟩
noncomputable def kr (n:Nat) (v:AVs ash):KN rsh:=Z1E (cx n) d (Z0Q ash v) (Z0b rsh)
noncomputable def b0:Code:=Code.l (Code.l (Code.r (Code.l (Code.r code))))
def an:An:=.seq .nil (.seq (.seq .nil (.block (some []) (.cut 0 [0,1,7,8]))) (.seq .nil .nil))
def an0:An:=.seq .nil (.seq (.cond .nil .nil) (.seq (.block (some [0,1,7,8]) (.seq .nil (.seq .nil (.cond (.seq .nil .nil) .nil)))) .nil))
abbrev sh0:ES:=⟨[(0,.v (.sl (.st (.pair (.int .i64) (.sl (.st (.sl (.str)))))))),(1,.clo [.st (.pair (.int .i64) (.sl (.st (.sl (.str)))))] .bool),(7,.v (.int .i64)),(8,.v (.int .i64))],[]⟩
abbrev sh0_0:ES:=⟨[],[]⟩
def g0 (n m:Nat) (x:sh0.V) (kn:KN rsh) (kx:KX rsh):Option (RVs rsh):=l0 n x.1.1 x.1.2.1 x.1.2.2.1 (fun _=>kx 0 (sh0_0.enc ((()),(())))) m x.1.2.2.2.1
def T (n:Nat):Tab (RVs rsh):=fun j e kn kx=>match j with
 | 0=>ES.on sh0 e fun x=>g0 n n x kn kx
 | _=>none
theorem mk (n:Nat):MOk (cx n):=Z01 (Z00)
theorem u0 (n:Nat) (v:AVs ash):Z08 (cx n) 19 (T n) (kr n v) 0 (.loop b0) :=
 Z0O (n:=n) (CO _) (mk n) (MX _) an0 [(0,[])] [0,1,7,8] sh0 (g0 n) (fun _ _ _=>rfl) (fun _ _ _=>rfl) (fun m x kn kx=>by kernel_rfl) (l:=[]) (by kernel_rfl) (Z00)
theorem ok (n:Nat):Z07 Tryz.prog 165 (ent n) :=
 Z0E (c:=cx n) (e:=ent n) (d:=d) (CO _) (mk n) (MX _) an Tryz.func165 (by kernel_rfl) (T n) (l:=[(0,.loop b0)]) (by kernel_rfl) (fun v=>mem_cons (u0 n v) Z00) (fun v=>by kernel_rfl)
end slices_IndexFunc_Rel_Rel
namespace slices_ContainsFunc_Rel_Rel
def F (n:Nat) (s1:List (Int × List (List ByteArray))) (f2:((Int × List (List ByteArray)) × Unit) → Option Bool):Option Bool :=
 (slices_IndexFunc_Rel_Rel.F n s1 f2).bind fun r3 =>
 some (decide (r3 ≥ 0))
noncomputable def code:Code:=Tryz.f129.body.getD .skip
abbrev ash:List ASh:=[.ro (.sl (.st (.pair (.int .i64) (.sl (.st (.sl (.str))))))),.fn [.st (.pair (.int .i64) (.sl (.st (.sl (.str)))))] .bool]
abbrev rsh:List RSh:=[.ro .bool]
def ent (n:Nat):Z0W:=⟨ash,rsh,fun v=>F n v.1 v.2.1⟩
noncomputable def cx (n:Nat):Ctx:=Z0D Tryz.prog TYS [(165,slices_IndexFunc_Rel_Rel.ent n)]
noncomputable def d:FnD:=⟨code,9,.nil,[(.tmp 4,.bool,.ro)]⟩
def an:An:=.seq .nil (.seq .nil .nil)
theorem ok (n:Nat):Z07 Tryz.prog 129 (ent n) :=
 Z0H (c:=cx n) (e:=ent n) (d:=d) (CO _) (Z01 (mem_cons (slices_IndexFunc_Rel_Rel.ok n) Z00)) (MX _) an Tryz.func129 (by kernel_rfl) (by kernel_rfl) (fun v=>by kernel_rfl)
end slices_ContainsFunc_Rel_Rel
namespace impl_in
def F (n:Nat) (t1:Int) (low2:Int) (high3:Int):Option Bool :=
 if (decide (t1 ≥ low2)) = true then
 some (decide (t1 ≤ high3))
 else
 some false
noncomputable def code:Code:=Tryz.f87.body.getD .skip
abbrev ash:List ASh:=[.ro (.int .i64),.ro (.int .i64),.ro (.int .i64)]
abbrev rsh:List RSh:=[.ro .bool]
def ent (n:Nat):Z0W:=⟨ash,rsh,fun v=>F n v.1 v.2.1 v.2.2.1⟩
noncomputable def cx (n:Nat):Ctx:=Z0D Tryz.prog TYS []
noncomputable def d:FnD:=⟨code,15,.nil,[(.tmp 6,.bool,.ro)]⟩
def an:An:=.seq .nil (.seq .nil .nil)
theorem ok (n:Nat):Z07 Tryz.prog 87 (ent n) :=
 Z0H (c:=cx n) (e:=ent n) (d:=d) (CO _) (Z01 (Z00)) (MX _) an Tryz.func87 (by kernel_rfl) (by kernel_rfl) (fun v=>by kernel_rfl)
end impl_in
namespace slices_IndexFunc_string_string
def l0 (n:Nat) (s3:List ByteArray) (f4:(ByteArray × Unit) → Option Bool) (t5:Int) (K0:Unit → Option Int):Nat → Int → Option Int
 | 0,_=>none
 | k + 1,t6 =>
 if decide (t6 < t5) = true then
 if (0:Int) ≤ t6 ∧ t6 < (List.length s3:Int) then
 (f4 (List.getD s3 (Int.toNat t6) ByteArray.empty,())).bind fun r7 =>
 if r7 = true then
 some t6
 else
 l0 n s3 f4 t5 K0 k (IntKind.i64.wrap (t6 + 1))
 else
 none
 else
 K0 ()
def F (n:Nat) (s1:List ByteArray) (f2:(ByteArray × Unit) → Option Bool):Option Int :=
 l0 n s1 f2 (List.length s1:Int) (fun _ =>
 some (-1)) n 0
noncomputable def code:Code:=Tryz.f188.body.getD .skip
abbrev ash:List ASh:=[.ro (.sl (.str)),.fn [.str] .bool]
abbrev rsh:List RSh:=[.ro (.int .i64)]
def ent (n:Nat):Z0W:=⟨ash,rsh,fun v=>F n v.1 v.2.1⟩
noncomputable def cx (n:Nat):Ctx:=Z0D Tryz.prog TYS []
noncomputable def d:FnD:=⟨code,19,.nil,[(.tmp 4,.int .i64,.ro)]⟩
noncomputable def kr (n:Nat) (v:AVs ash):KN rsh:=Z1E (cx n) d (Z0Q ash v) (Z0b rsh)
noncomputable def b0:Code:=Code.l (Code.l (Code.r (Code.l (Code.r code))))
def an:An:=.seq .nil (.seq (.seq .nil (.block (some []) (.cut 0 [0,1,7,8]))) (.seq .nil .nil))
def an0:An:=.seq .nil (.seq (.cond .nil .nil) (.seq (.block (some [0,1,7,8]) (.seq .nil (.seq .nil (.cond (.seq .nil .nil) .nil)))) .nil))
abbrev sh0:ES:=⟨[(0,.v (.sl (.str))),(1,.clo [.str] .bool),(7,.v (.int .i64)),(8,.v (.int .i64))],[]⟩
abbrev sh0_0:ES:=⟨[],[]⟩
def g0 (n m:Nat) (x:sh0.V) (kn:KN rsh) (kx:KX rsh):Option (RVs rsh):=l0 n x.1.1 x.1.2.1 x.1.2.2.1 (fun _=>kx 0 (sh0_0.enc ((()),(())))) m x.1.2.2.2.1
def T (n:Nat):Tab (RVs rsh):=fun j e kn kx=>match j with
 | 0=>ES.on sh0 e fun x=>g0 n n x kn kx
 | _=>none
theorem mk (n:Nat):MOk (cx n):=Z01 (Z00)
theorem u0 (n:Nat) (v:AVs ash):Z08 (cx n) 19 (T n) (kr n v) 0 (.loop b0) :=
 Z0O (n:=n) (CO _) (mk n) (MX _) an0 [(0,[])] [0,1,7,8] sh0 (g0 n) (fun _ _ _=>rfl) (fun _ _ _=>rfl) (fun m x kn kx=>by kernel_rfl) (l:=[]) (by kernel_rfl) (Z00)
theorem ok (n:Nat):Z07 Tryz.prog 188 (ent n) :=
 Z0E (c:=cx n) (e:=ent n) (d:=d) (CO _) (mk n) (MX _) an Tryz.func188 (by kernel_rfl) (T n) (l:=[(0,.loop b0)]) (by kernel_rfl) (fun v=>mem_cons (u0 n v) Z00) (fun v=>by kernel_rfl)
end slices_IndexFunc_string_string
namespace slices_ContainsFunc_string_string
def F (n:Nat) (s1:List ByteArray) (f2:(ByteArray × Unit) → Option Bool):Option Bool :=
 (slices_IndexFunc_string_string.F n s1 f2).bind fun r3 =>
 some (decide (r3 ≥ 0))
noncomputable def code:Code:=Tryz.f166.body.getD .skip
abbrev ash:List ASh:=[.ro (.sl (.str)),.fn [.str] .bool]
abbrev rsh:List RSh:=[.ro .bool]
def ent (n:Nat):Z0W:=⟨ash,rsh,fun v=>F n v.1 v.2.1⟩
noncomputable def cx (n:Nat):Ctx:=Z0D Tryz.prog TYS [(188,slices_IndexFunc_string_string.ent n)]
noncomputable def d:FnD:=⟨code,9,.nil,[(.tmp 4,.bool,.ro)]⟩
def an:An:=.seq .nil (.seq .nil .nil)
theorem ok (n:Nat):Z07 Tryz.prog 166 (ent n) :=
 Z0H (c:=cx n) (e:=ent n) (d:=d) (CO _) (Z01 (mem_cons (slices_IndexFunc_string_string.ok n) Z00)) (MX _) an Tryz.func166 (by kernel_rfl) (by kernel_rfl) (fun v=>by kernel_rfl)
end slices_ContainsFunc_string_string
namespace impl_symbolLong
def j1 (n:Nat) (s4:ByteArray) (t5:Int) (Kn:Int → Option Int):Option Int :=
 if (0:Int) ≤ t5 ∧ t5 < (ByteArray.size s4:Int) then
 if decide ((Z0M s4 t5) = 34) = true then
 some (IntKind.i64.wrap (t5 + 1))
 else
 if (0:Int) ≤ t5 ∧ t5 < (ByteArray.size s4:Int) then
 if (decide ((Z0M s4 t5) < 32)) = false then
 if (0:Int) ≤ t5 ∧ t5 < (ByteArray.size s4:Int) then
 if (decide ((Z0M s4 t5) > 126)) = false then
 if (0:Int) ≤ t5 ∧ t5 < (ByteArray.size s4:Int) then
 if decide ((Z0M s4 t5) = 92) = true then
 some 0
 else
 Kn (IntKind.i64.wrap (t5 + 1))
 else
 none
 else
 some 0
 else
 none
 else
 some 0
 else
 none
 else
 none
def l0 (n:Nat) (s2:ByteArray) (K0:Unit → Option Int):Nat → Int → Option Int
 | 0,_=>none
 | k + 1,t3 =>
 if (decide (t3 < (ByteArray.size s2:Int))) = true then
 if decide (t3 ≤ 21) = true then
 j1 n s2 t3 (fun t6 =>
 l0 n s2 K0 k t6)
 else
 K0 ()
 else
 K0 ()
def F (n:Nat) (s1:ByteArray):Option Int :=
 l0 n s1 (fun _ =>
 some 0) n 1
noncomputable def code:Code:=Tryz.f181.body.getD .skip
abbrev ash:List ASh:=[.ro .str]
abbrev rsh:List RSh:=[.ro (.int .i64)]
def ent (n:Nat):Z0W:=⟨ash,rsh,fun v=>F n v.1⟩
noncomputable def cx (n:Nat):Ctx:=Z0D Tryz.prog TYS []
noncomputable def d:FnD:=⟨code,38,.nil,[(.tmp 2,.int .i64,.ro)]⟩
noncomputable def kr (n:Nat) (v:AVs ash):KN rsh:=Z1E (cx n) d (Z0Q ash v) (Z0b rsh)
noncomputable def c1:Code:=(Code.r (Code.l (Code.l (Code.r (Code.l (Code.r code))))))
noncomputable def b0:Code:=Code.l (Code.l (Code.r (Code.l (Code.r code))))
def an:An:=.seq .nil (.seq (.seq .nil (.block (some []) (.cut 0 [0,3]))) (.seq .nil .nil))
def an1:An:=.seq (.block (some [0,3]) (.block (some [0,3]) (.seq .nil (.cond (.seq .nil .nil) (.seq .nil (.cond (.seq .nil .nil) .nil)))))) .nil
abbrev sh1:ES:=⟨[(0,.v .str),(3,.v (.int .i64))],[]⟩
abbrev sh1_n:ES:=⟨[(0,.v .str),(3,.v (.int .i64))],[]⟩
def an0:An:=.seq (.seq .nil (.cond .nil .nil)) (.cut 1 [0,3])
abbrev sh0:ES:=⟨[(0,.v .str),(3,.v (.int .i64))],[]⟩
abbrev sh0_0:ES:=⟨[],[]⟩
def g1 (n m:Nat) (x:sh1.V) (kn:KN rsh) (kx:KX rsh):Option (RVs rsh):=j1 n x.1.1 x.1.2.1 (fun y0=>kn (sh1_n.enc ((x.1.1,y0,()),(()))))
def g0 (n m:Nat) (x:sh0.V) (kn:KN rsh) (kx:KX rsh):Option (RVs rsh):=l0 n x.1.1 (fun _=>kx 0 (sh0_0.enc ((()),(())))) m x.1.2.1
def T (n:Nat):Tab (RVs rsh):=fun j e kn kx=>match j with
 | 1=>ES.on sh1 e fun x=>g1 n n x kn kx
 | 0=>ES.on sh0 e fun x=>g0 n n x kn kx
 | _=>none
theorem mk (n:Nat):MOk (cx n):=Z01 (Z00)
theorem u1 (n:Nat) (v:AVs ash):Z08 (cx n) 38 (T n) (kr n v) 1 (c1) :=
 Z0p (CO _) (mk n) (MX _) an1 [(0,[])] [0,3] sh1 (g1 n n) (fun _ _ _=>rfl) (fun x kn kx=>by kernel_rfl) (l:=[]) (by kernel_rfl) (Z00)
theorem u0 (n:Nat) (v:AVs ash):Z08 (cx n) 38 (T n) (kr n v) 0 (.loop b0) :=
 Z0O (n:=n) (CO _) (mk n) (MX _) an0 [(0,[])] [0,3] sh0 (g0 n) (fun _ _ _=>rfl) (fun _ _ _=>rfl) (fun m x kn kx=>by kernel_rfl) (l:=[(1,c1)]) (by kernel_rfl) (mem_cons (u1 n v) Z00)
theorem ok (n:Nat):Z07 Tryz.prog 181 (ent n) :=
 Z0E (c:=cx n) (e:=ent n) (d:=d) (CO _) (mk n) (MX _) an Tryz.func181 (by kernel_rfl) (T n) (l:=[(0,.loop b0)]) (by kernel_rfl) (fun v=>mem_cons (u0 n v) Z00) (fun v=>by kernel_rfl)
end impl_symbolLong
namespace impl_isDigit
def F (n:Nat) (b1:Int):Option Bool :=
 if (decide (b1 ≥ 48)) = true then
 some (decide (b1 ≤ 57))
 else
 some false
noncomputable def code:Code:=Tryz.f182.body.getD .skip
abbrev ash:List ASh:=[.ro (.int .u8)]
abbrev rsh:List RSh:=[.ro .bool]
def ent (n:Nat):Z0W:=⟨ash,rsh,fun v=>F n v.1⟩
noncomputable def cx (n:Nat):Ctx:=Z0D Tryz.prog TYS []
noncomputable def d:FnD:=⟨code,9,.nil,[(.tmp 2,.bool,.ro)]⟩
def an:An:=.seq .nil (.seq .nil .nil)
theorem ok (n:Nat):Z07 Tryz.prog 182 (ent n) :=
 Z0H (c:=cx n) (e:=ent n) (d:=d) (CO _) (Z01 (Z00)) (MX _) an Tryz.func182 (by kernel_rfl) (by kernel_rfl) (fun v=>by kernel_rfl)
end impl_isDigit
namespace impl_isLetter
def F (n:Nat) (b1:Int):Option Bool :=
 if (decide (b1 ≥ 97)) = true then
 if (decide (b1 ≤ 122)) = false then
 if (decide (b1 ≥ 65)) = true then
 some (decide (b1 ≤ 90))
 else
 some false
 else
 some true
 else
 if (decide (b1 ≥ 65)) = true then
 some (decide (b1 ≤ 90))
 else
 some false
noncomputable def code:Code:=Tryz.f220.body.getD .skip
abbrev ash:List ASh:=[.ro (.int .u8)]
abbrev rsh:List RSh:=[.ro .bool]
def ent (n:Nat):Z0W:=⟨ash,rsh,fun v=>F n v.1⟩
noncomputable def cx (n:Nat):Ctx:=Z0D Tryz.prog TYS []
noncomputable def d:FnD:=⟨code,17,.nil,[(.tmp 2,.bool,.ro)]⟩
def an:An:=.seq .nil (.seq .nil .nil)
theorem ok (n:Nat):Z07 Tryz.prog 220 (ent n) :=
 Z0H (c:=cx n) (e:=ent n) (d:=d) (CO _) (Z01 (Z00)) (MX _) an Tryz.func220 (by kernel_rfl) (by kernel_rfl) (fun v=>by kernel_rfl)
end impl_isLetter
namespace impl_isWordByte
def F (n:Nat) (b1:Int):Option Bool :=
 (impl_isLetter.F n b1).bind fun r2 =>
 if r2 = false then
 (impl_isDigit.F n b1).bind fun r3 =>
 if r3 = false then
 some (decide (b1 = 95))
 else
 some true
 else
 some true
noncomputable def code:Code:=Tryz.f219.body.getD .skip
abbrev ash:List ASh:=[.ro (.int .u8)]
abbrev rsh:List RSh:=[.ro .bool]
def ent (n:Nat):Z0W:=⟨ash,rsh,fun v=>F n v.1⟩
noncomputable def cx (n:Nat):Ctx:=Z0D Tryz.prog TYS [(182,impl_isDigit.ent n),(220,impl_isLetter.ent n)]
noncomputable def d:FnD:=⟨code,13,.nil,[(.tmp 2,.bool,.ro)]⟩
def an:An:=.seq .nil (.seq .nil .nil)
theorem ok (n:Nat):Z07 Tryz.prog 219 (ent n) :=
 Z0H (c:=cx n) (e:=ent n) (d:=d) (CO _) (Z01 (mem_cons (impl_isDigit.ok n) (mem_cons (impl_isLetter.ok n) Z00))) (MX _) an Tryz.func219 (by kernel_rfl) (by kernel_rfl) (fun v=>by kernel_rfl)
end impl_isWordByte
namespace impl_nameLong
def l0 (n:Nat) (s2:ByteArray) (K0:Int → Option Int):Nat → Int → Option Int
 | 0,_=>none
 | k + 1,t3 =>
 if (decide (t3 < (ByteArray.size s2:Int))) = true then
 if (0:Int) ≤ t3 ∧ t3 < (ByteArray.size s2:Int) then
 (impl_isWordByte.F n (Z0M s2 t3)).bind fun r4 =>
 if r4 = true then
 if (decide (t3 > 0)) = false then
 if (0:Int) ≤ 0 ∧ 0 < (ByteArray.size s2:Int) then
 (impl_isLetter.F n (Z0M s2 0)).bind fun r5 =>
 if r5 = true then
 l0 n s2 K0 k (IntKind.i64.wrap (t3 + 1))
 else
 K0 t3
 else
 none
 else
 l0 n s2 K0 k (IntKind.i64.wrap (t3 + 1))
 else
 K0 t3
 else
 none
 else
 K0 t3
def F (n:Nat) (s1:ByteArray):Option Int :=
 l0 n s1 (fun t6 =>
 some t6) n 0
noncomputable def code:Code:=Tryz.f183.body.getD .skip
abbrev ash:List ASh:=[.ro .str]
abbrev rsh:List RSh:=[.ro (.int .i64)]
def ent (n:Nat):Z0W:=⟨ash,rsh,fun v=>F n v.1⟩
noncomputable def cx (n:Nat):Ctx:=Z0D Tryz.prog TYS [(219,impl_isWordByte.ent n),(220,impl_isLetter.ent n)]
noncomputable def d:FnD:=⟨code,26,.nil,[(.tmp 2,.int .i64,.ro)]⟩
noncomputable def kr (n:Nat) (v:AVs ash):KN rsh:=Z1E (cx n) d (Z0Q ash v) (Z0b rsh)
noncomputable def b0:Code:=Code.l (Code.l (Code.l (Code.r (Code.r code))))
def an:An:=.seq .nil (.seq .nil (.seq (.block (some [3]) (.cut 0 [0,3])) (.seq .nil .nil)))
def an0:An:=.seq (.seq .nil (.cond .nil .nil)) (.block (some [0,3]) .nil)
abbrev sh0:ES:=⟨[(0,.v .str),(3,.v (.int .i64))],[]⟩
abbrev sh0_0:ES:=⟨[(3,.v (.int .i64))],[]⟩
def g0 (n m:Nat) (x:sh0.V) (kn:KN rsh) (kx:KX rsh):Option (RVs rsh):=l0 n x.1.1 (fun y0=>kx 0 (sh0_0.enc ((y0,()),(())))) m x.1.2.1
def T (n:Nat):Tab (RVs rsh):=fun j e kn kx=>match j with
 | 0=>ES.on sh0 e fun x=>g0 n n x kn kx
 | _=>none
theorem mk (n:Nat):MOk (cx n):=Z01 (mem_cons (impl_isWordByte.ok n) (mem_cons (impl_isLetter.ok n) Z00))
theorem u0 (n:Nat) (v:AVs ash):Z08 (cx n) 26 (T n) (kr n v) 0 (.loop b0) :=
 Z0O (n:=n) (CO _) (mk n) (MX _) an0 [(0,[3])] [0,3] sh0 (g0 n) (fun _ _ _=>rfl) (fun _ _ _=>rfl) (fun m x kn kx=>by kernel_rfl) (l:=[]) (by kernel_rfl) (Z00)
theorem ok (n:Nat):Z07 Tryz.prog 183 (ent n) :=
 Z0E (c:=cx n) (e:=ent n) (d:=d) (CO _) (mk n) (MX _) an Tryz.func183 (by kernel_rfl) (T n) (l:=[(0,.loop b0)]) (by kernel_rfl) (fun v=>mem_cons (u0 n v) Z00) (fun v=>by kernel_rfl)
end impl_nameLong
namespace impl_termAt
def l1 (n:Nat) (self:ByteArray → Option (Int × Int)) (t6:ByteArray) (K1:Int → Option (Int × Int)):Nat → Int → Option (Int × Int)
 | 0,_=>none
 | k + 1,t7 =>
 if (decide (t7 < (ByteArray.size t6:Int))) = true then
 if (0:Int) ≤ t7 ∧ t7 < (ByteArray.size t6:Int) then
 (impl_isDigit.F n (Z0M t6 t7)).bind fun r8 =>
 if r8 = true then
 l1 n self t6 K1 k (IntKind.i64.wrap (t7 + 1))
 else
 K1 t7
 else
 none
 else
 K1 t7
def l4 (n:Nat) (self:ByteArray → Option (Int × Int)) (t18:ByteArray) (K3:Int → Option (Int × Int)):Nat → Int → Bool → Option (Int × Int)
 | 0,_,_=>none
 | k + 1,t19,t20 =>
 if t20 = true then
 if (0:Int) ≤ (IntKind.i64.wrap (t19 + 1)) ∧ (IntKind.i64.wrap (t19 + 1)) ≤ (ByteArray.size t18:Int) ∧ (ByteArray.size t18:Int) ≤ (ByteArray.size t18:Int) then
 (self (ByteArray.extract t18 (Int.toNat (IntKind.i64.wrap (t19 + 1))) (Int.toNat (ByteArray.size t18:Int)))).bind fun r21 =>
 if decide (r21.1 = 0) = true then
 some (0,0)
 else
 if (decide ((IntKind.i64.wrap (t19 + (IntKind.i64.wrap (1 + r21.2)))) < (ByteArray.size t18:Int))) = true then
 if (0:Int) ≤ (IntKind.i64.wrap (t19 + (IntKind.i64.wrap (1 + r21.2)))) ∧ (IntKind.i64.wrap (t19 + (IntKind.i64.wrap (1 + r21.2)))) < (ByteArray.size t18:Int) then
 l4 n self t18 K3 k (IntKind.i64.wrap (t19 + (IntKind.i64.wrap (1 + r21.2)))) (decide ((Z0M t18 (IntKind.i64.wrap (t19 + (IntKind.i64.wrap (1 + r21.2))))) = 44))
 else
 none
 else
 l4 n self t18 K3 k (IntKind.i64.wrap (t19 + (IntKind.i64.wrap (1 + r21.2)))) false
 else
 none
 else
 K3 t19
def j3 (n:Nat) (self:ByteArray → Option (Int × Int)) (t16:ByteArray) (t17:Int) (Kn:Unit → Option (Int × Int)):Option (Int × Int) :=
 l4 n self t16 (fun t22 =>
 if (decide (t22 < (ByteArray.size t16:Int))) = true then
 if (0:Int) ≤ t22 ∧ t22 < (ByteArray.size t16:Int) then
 if decide ((Z0M t16 t22) = 41) = true then
 some (3,IntKind.i64.wrap (t22 + 1))
 else
 Kn ()
 else
 none
 else
 Kn ()) n t17 true
def j2 (n:Nat) (self:ByteArray → Option (Int × Int)) (t13:ByteArray) (t14:Bool) (Kn:Unit → Option (Int × Int)):Option (Int × Int) :=
 if t14 = true then
 (impl_nameLong.F n t13).bind fun r15 =>
 if decide (r15 > 20) = true then
 some (0,0)
 else
 if (decide (r15 = (ByteArray.size t13:Int))) = false then
 if (0:Int) ≤ r15 ∧ r15 < (ByteArray.size t13:Int) then
 if (!decide ((Z0M t13 r15) = 40)) = true then
 some (3,r15)
 else
 j3 n self t13 r15 (fun _ =>
 Kn ())
 else
 none
 else
 some (3,r15)
 else
 Kn ()
def j0 (n:Nat) (self:ByteArray → Option (Int × Int)) (t4:ByteArray) (t5:Bool) (Kn:Unit → Option (Int × Int)):Option (Int × Int) :=
 if t5 = true then
 l1 n self t4 (fun t9 =>
 if (0:Int) ≤ 0 ∧ (0:Int) ≤ t9 ∧ t9 ≤ (ByteArray.size t4:Int) then
 (strconv_Atoi.F n (ByteArray.extract t4 (Int.toNat 0) (Int.toNat t9))).bind fun r10 =>
 if (r10.2 && false) = true then
 none
 else
 if (r10.2 == false) = true then
 (impl_in.F n r10.1 (-1000000) 1000000).bind fun r11 =>
 if r11 = true then
 (strconv_Itoa.F n r10.1).bind fun r12 =>
 if (0:Int) ≤ 0 ∧ (0:Int) ≤ t9 ∧ t9 ≤ (ByteArray.size t4:Int) then
 if (Abs.seq r12 (ByteArray.extract t4 (Int.toNat 0) (Int.toNat t9))) = true then
 some (1,t9)
 else
 Kn ()
 else
 none
 else
 Kn ()
 else
 Kn ()
 else
 none) n 1
 else
 if (0:Int) ≤ 0 ∧ 0 < (ByteArray.size t4:Int) then
 if (decide ((Z0M t4 0) ≥ 65)) = true then
 if (0:Int) ≤ 0 ∧ 0 < (ByteArray.size t4:Int) then
 j2 n self t4 (decide ((Z0M t4 0) ≤ 90)) (fun _ =>
 Kn ())
 else
 none
 else
 j2 n self t4 false (fun _ =>
 Kn ())
 else
 none
def G (n:Nat) (self:ByteArray → Option (Int × Int)) (t1:ByteArray):Option (Int × Int) :=
 if (Abs.seq t1 ByteArray.empty) = true then
 some (0,0)
 else
 if (0:Int) ≤ 0 ∧ 0 < (ByteArray.size t1:Int) then
 if decide ((Z0M t1 0) = 34) = true then
 (impl_symbolLong.F n t1).bind fun r2 =>
 if decide (r2 > 0) = true then
 some (2,r2)
 else
 some (0,0)
 else
 if (0:Int) ≤ 0 ∧ 0 < (ByteArray.size t1:Int) then
 if (decide ((Z0M t1 0) = 45)) = false then
 if (0:Int) ≤ 0 ∧ 0 < (ByteArray.size t1:Int) then
 (impl_isDigit.F n (Z0M t1 0)).bind fun r3 =>
 j0 n self t1 r3 (fun _ =>
 some (0,0))
 else
 none
 else
 j0 n self t1 true (fun _ =>
 some (0,0))
 else
 none
 else
 none
def F:Nat → ByteArray → Option (Int × Int)
 | 0=>fun _=>none
 | n + 1=>G n (F n)
noncomputable def code:Code:=Tryz.f160.body.getD .skip
abbrev ash:List ASh:=[.ro .str]
abbrev rsh:List RSh:=[.ro (.int .i64),.ro (.int .i64)]
def ent (n:Nat):Z0W:=⟨ash,rsh,fun v=>F n v.1⟩
noncomputable def cx (n:Nat):Ctx:=Z0D Tryz.prog TYS [(87,impl_in.ent n),(110,strconv_Itoa.ent n),(161,strconv_Atoi.ent n),(181,impl_symbolLong.ent n),(182,impl_isDigit.ent n),(183,impl_nameLong.ent n),(160,ent n)]
noncomputable def d:FnD:=⟨code,127,.nil,[(.tmp 2,.int .i64,.ro),(.tmp 3,.int .i64,.ro)]⟩
noncomputable def kr (n:Nat) (v:AVs ash):KN rsh:=Z1E (cx n) d (Z0Q ash v) (Z0b rsh)
noncomputable def b1:Code:=Code.l (Code.l (Code.l (Code.r (Code.l (Code.r (Code.r (Code.r (Code.l (Code.l (Code.r (Code.r code)))))))))))
noncomputable def b4:Code:=Code.l (Code.l (Code.r (Code.l (Code.r (Code.r (Code.r (Code.l (Code.r (Code.r (Code.r (Code.r (Code.r (Code.l (Code.l (Code.r (Code.r code))))))))))))))))
noncomputable def c3:Code:=(Code.r (Code.r (Code.r (Code.l (Code.r (Code.r (Code.r (Code.r (Code.r (Code.l (Code.l (Code.r (Code.r code)))))))))))))
noncomputable def c2:Code:=(Code.r (Code.r (Code.r (Code.r (Code.r (Code.l (Code.l (Code.r (Code.r code)))))))))
noncomputable def c0:Code:=(Code.r (Code.r (Code.r (Code.l (Code.l (Code.r (Code.r code)))))))
def an:An:=.seq .nil (.seq (.seq .nil (.cond (.seq .nil .nil) .nil)) (.seq (.block (some []) (.seq .nil (.cond (.seq .nil (.seq .nil (.cond (.seq .nil .nil) .nil))) (.seq .nil (.cut 0 [0,23]))))) (.seq .nil .nil)))
def an1:An:=.seq (.seq .nil (.cond .nil .nil)) (.block (some [0,5]) .nil)
abbrev sh1:ES:=⟨[(0,.v .str),(5,.v (.int .i64))],[]⟩
abbrev sh1_1:ES:=⟨[(0,.v .str),(5,.v (.int .i64))],[]⟩
def an4:An:=.seq (.seq .nil (.cond .nil .nil)) (.seq (.block (some [0,8]) (.seq .nil (.seq (.seq .nil (.cond (.seq .nil .nil) .nil)) .nil))) .nil)
abbrev sh4:ES:=⟨[(0,.v .str),(8,.v (.int .i64)),(9,.v .bool)],[]⟩
abbrev sh4_3:ES:=⟨[(0,.v .str),(8,.v (.int .i64))],[]⟩
def an3:An:=.seq (.seq .nil (.block (some [0,8]) (.cut 4 [0,8,9]))) (.seq .nil (.cond (.seq .nil .nil) .nil))
abbrev sh3:ES:=⟨[(0,.v .str),(8,.v (.int .i64))],[]⟩
abbrev sh3_n:ES:=⟨[],[]⟩
def an2:An:=.cond (.seq .nil (.seq (.seq .nil (.cond (.seq .nil .nil) .nil)) (.seq (.seq .nil (.cond (.seq .nil .nil) .nil)) (.cut 3 [0,8])))) .nil
abbrev sh2:ES:=⟨[(0,.v .str),(66,.v .bool)],[]⟩
abbrev sh2_n:ES:=⟨[],[]⟩
def an0:An:=.cond (.seq .nil (.seq (.block (some [0,5]) (.cut 1 [0,5])) (.seq .nil (.seq .nil (.cond (.seq .nil .nil) .nil))))) (.seq .nil (.cut 2 [0,66]))
abbrev sh0:ES:=⟨[(0,.v .str),(23,.v .bool)],[]⟩
abbrev sh0_n:ES:=⟨[],[]⟩
def g1 (n m:Nat) (x:sh1.V) (kn:KN rsh) (kx:KX rsh):Option (RVs rsh):=l1 n (F n) x.1.1 (fun y0=>kx 1 (sh1_1.enc ((x.1.1,y0,()),(())))) m x.1.2.1
def g4 (n m:Nat) (x:sh4.V) (kn:KN rsh) (kx:KX rsh):Option (RVs rsh):=l4 n (F n) x.1.1 (fun y0=>kx 3 (sh4_3.enc ((x.1.1,y0,()),(())))) m x.1.2.1 x.1.2.2.1
def g3 (n m:Nat) (x:sh3.V) (kn:KN rsh) (kx:KX rsh):Option (RVs rsh):=j3 n (F n) x.1.1 x.1.2.1 (fun _=>kn (sh3_n.enc ((()),(()))))
def g2 (n m:Nat) (x:sh2.V) (kn:KN rsh) (kx:KX rsh):Option (RVs rsh):=j2 n (F n) x.1.1 x.1.2.1 (fun _=>kn (sh2_n.enc ((()),(()))))
def g0 (n m:Nat) (x:sh0.V) (kn:KN rsh) (kx:KX rsh):Option (RVs rsh):=j0 n (F n) x.1.1 x.1.2.1 (fun _=>kn (sh0_n.enc ((()),(()))))
def T (n:Nat):Tab (RVs rsh):=fun j e kn kx=>match j with
 | 1=>ES.on sh1 e fun x=>g1 n n x kn kx
 | 4=>ES.on sh4 e fun x=>g4 n n x kn kx
 | 3=>ES.on sh3 e fun x=>g3 n n x kn kx
 | 2=>ES.on sh2 e fun x=>g2 n n x kn kx
 | 0=>ES.on sh0 e fun x=>g0 n n x kn kx
 | _=>none
theorem mk (n:Nat) (ih:Z07 Tryz.prog 160 (ent n)):MOk (cx n):=Z01 (mem_cons (impl_in.ok n) (mem_cons (strconv_Itoa.ok n) (mem_cons (strconv_Atoi.ok n) (mem_cons (impl_symbolLong.ok n) (mem_cons (impl_isDigit.ok n) (mem_cons (impl_nameLong.ok n) (mem_cons ih Z00)))))))
theorem u1 (n:Nat) (v:AVs ash) (ih:Z07 Tryz.prog 160 (ent n)):Z08 (cx n) 127 (T n) (kr n v) 1 (.loop b1) :=
 Z0O (n:=n) (CO _) (mk n ih) (MX _) an1 [(0,[]),(1,[0,5])] [0,5] sh1 (g1 n) (fun _ _ _=>rfl) (fun _ _ _=>rfl) (fun m x kn kx=>by kernel_rfl) (l:=[]) (by kernel_rfl) (Z00)
theorem u4 (n:Nat) (v:AVs ash) (ih:Z07 Tryz.prog 160 (ent n)):Z08 (cx n) 127 (T n) (kr n v) 4 (.loop b4) :=
 Z0O (n:=n) (CO _) (mk n ih) (MX _) an4 [(0,[]),(3,[0,8])] [0,8,9] sh4 (g4 n) (fun _ _ _=>rfl) (fun _ _ _=>rfl) (fun m x kn kx=>by kernel_rfl) (l:=[]) (by kernel_rfl) (Z00)
theorem u3 (n:Nat) (v:AVs ash) (ih:Z07 Tryz.prog 160 (ent n)):Z08 (cx n) 127 (T n) (kr n v) 3 (c3) :=
 Z0p (CO _) (mk n ih) (MX _) an3 [(0,[])] [] sh3 (g3 n n) (fun _ _ _=>rfl) (fun x kn kx=>by kernel_rfl) (l:=[(4,.loop b4)]) (by kernel_rfl) (mem_cons (u4 n v ih) Z00)
theorem u2 (n:Nat) (v:AVs ash) (ih:Z07 Tryz.prog 160 (ent n)):Z08 (cx n) 127 (T n) (kr n v) 2 (c2) :=
 Z0p (CO _) (mk n ih) (MX _) an2 [(0,[])] [] sh2 (g2 n n) (fun _ _ _=>rfl) (fun x kn kx=>by kernel_rfl) (l:=[(3,c3)]) (by kernel_rfl) (mem_cons (u3 n v ih) Z00)
theorem u0 (n:Nat) (v:AVs ash) (ih:Z07 Tryz.prog 160 (ent n)):Z08 (cx n) 127 (T n) (kr n v) 0 (c0) :=
 Z0p (CO _) (mk n ih) (MX _) an0 [(0,[])] [] sh0 (g0 n n) (fun _ _ _=>rfl) (fun x kn kx=>by kernel_rfl) (l:=[(1,.loop b1),(2,c2)]) (by kernel_rfl) (mem_cons (u1 n v ih) (mem_cons (u2 n v ih) Z00))
theorem ok:(n:Nat) → Z07 Tryz.prog 160 (ent n)
 | 0=>Z2w Tryz.f160 (by kernel_rfl) (by kernel_rfl) (by kernel_rfl) (fun _=>rfl)
 | n + 1=>have ih:=ok n
  Z0E (c:=cx n) (e:=ent (n + 1)) (d:=d) (CO _) (mk n ih) (MX _) an Tryz.func160 (by kernel_rfl) (T n) (l:=[(0,c0)]) (by kernel_rfl) (fun v=>mem_cons (u0 n v ih) Z00) (fun v=>by kernel_rfl)
end impl_termAt
namespace impl_kindOf
def F (n:Nat) (s1:ByteArray):Option Int :=
 (impl_termAt.F n s1).bind fun r2 =>
 if (decide ((ByteArray.size s1:Int) > 200)) = false then
 if (!decide (r2.2 = (ByteArray.size s1:Int))) = true then
 some 0
 else
 some r2.1
 else
 some 0
noncomputable def code:Code:=Tryz.f125.body.getD .skip
abbrev ash:List ASh:=[.ro .str]
abbrev rsh:List RSh:=[.ro (.int .i64)]
def ent (n:Nat):Z0W:=⟨ash,rsh,fun v=>F n v.1⟩
noncomputable def cx (n:Nat):Ctx:=Z0D Tryz.prog TYS [(160,impl_termAt.ent n)]
noncomputable def d:FnD:=⟨code,20,.nil,[(.tmp 2,.int .i64,.ro)]⟩
def an:An:=.seq .nil (.seq .nil (.seq (.seq .nil (.cond (.seq .nil .nil) .nil)) (.seq .nil .nil)))
theorem ok (n:Nat):Z07 Tryz.prog 125 (ent n) :=
 Z0H (c:=cx n) (e:=ent n) (d:=d) (CO _) (Z01 (mem_cons (impl_termAt.ok n) Z00)) (MX _) an Tryz.func125 (by kernel_rfl) (by kernel_rfl) (fun v=>by kernel_rfl)
end impl_kindOf
namespace impl_isTuple_1
def F (n:Nat) (s1:ByteArray):Option Bool :=
 (impl_kindOf.F n s1).bind fun r2 =>
 some (decide (r2 = 0))
noncomputable def code:Code:=Tryz.f167.body.getD .skip
abbrev ash:List ASh:=[.ro .str]
abbrev rsh:List RSh:=[.ro .bool]
def ent (n:Nat):Z0W:=⟨ash,rsh,fun v=>F n v.1⟩
noncomputable def cx (n:Nat):Ctx:=Z0D Tryz.prog TYS [(125,impl_kindOf.ent n)]
noncomputable def d:FnD:=⟨code,6,.nil,[(.tmp 2,.bool,.ro)]⟩
def an:An:=.seq .nil (.seq .nil .nil)
theorem ok (n:Nat):Z07 Tryz.prog 167 (ent n) :=
 Z0H (c:=cx n) (e:=ent n) (d:=d) (CO _) (Z01 (mem_cons (impl_kindOf.ok n) Z00)) (MX _) an Tryz.func167 (by kernel_rfl) (by kernel_rfl) (fun v=>by kernel_rfl)
end impl_isTuple_1
namespace impl_isTuple
def F (n:Nat) (t1:List ByteArray):Option Bool :=
 if (decide ((List.length t1:Int) ≤ 6)) = true then
 (slices_ContainsFunc_string_string.F n t1 (fun a2=>(impl_isTuple_1.F n a2.1).bind some)).bind fun r3 =>
 some (!r3)
 else
 some false
noncomputable def code:Code:=Tryz.f137.body.getD .skip
abbrev ash:List ASh:=[.ro (.st (.sl (.str)))]
abbrev rsh:List RSh:=[.ro .bool]
def ent (n:Nat):Z0W:=⟨ash,rsh,fun v=>F n v.1⟩
noncomputable def cx (n:Nat):Ctx:=Z0D Tryz.prog TYS [(166,slices_ContainsFunc_string_string.ent n),(167,impl_isTuple_1.ent n)]
noncomputable def d:FnD:=⟨code,13,.nil,[(.tmp 2,.bool,.ro)]⟩
def an:An:=.seq .nil (.seq .nil .nil)
theorem ok (n:Nat):Z07 Tryz.prog 137 (ent n) :=
 Z0H (c:=cx n) (e:=ent n) (d:=d) (CO _) (Z01 (mem_cons (slices_ContainsFunc_string_string.ok n) (mem_cons (impl_isTuple_1.ok n) Z00))) (MX _) an Tryz.func137 (by kernel_rfl) (by kernel_rfl) (fun v=>by kernel_rfl)
end impl_isTuple
namespace slices_CompareFunc_string_string_string_string
def l0 (n:Nat) (s14:List ByteArray) (s25:List ByteArray) (cmp6:(ByteArray × ByteArray × Unit) → Option Int) (t7:List ByteArray) (t8:Int) (K0:Unit → Option Int):Nat → Int → Option Int
 | 0,_=>none
 | k + 1,t9 =>
 if decide (t9 < t8) = true then
 if (0:Int) ≤ t9 ∧ t9 < (List.length t7:Int) then
 if decide (t9 ≥ (List.length s25:Int)) = true then
 some 1
 else
 if (0:Int) ≤ t9 ∧ t9 < (List.length s25:Int) then
 (cmp6 (List.getD t7 (Int.toNat t9) ByteArray.empty,List.getD s25 (Int.toNat t9) ByteArray.empty,())).bind fun r10 =>
 if (!decide (r10 = 0)) = true then
 some r10
 else
 l0 n s14 s25 cmp6 t7 t8 K0 k (IntKind.i64.wrap (t9 + 1))
 else
 none
 else
 none
 else
 K0 ()
def F (n:Nat) (s11:List ByteArray) (s22:List ByteArray) (cmp3:(ByteArray × ByteArray × Unit) → Option Int):Option Int :=
 l0 n s11 s22 cmp3 s11 (List.length s11:Int) (fun _ =>
 if decide ((List.length s11:Int) < (List.length s22:Int)) = true then
 some (-1)
 else
 some 0) n 0
noncomputable def code:Code:=Tryz.f154.body.getD .skip
abbrev ash:List ASh:=[.ro (.sl (.str)),.ro (.sl (.str)),.fn [.str,.str] (.int .i64)]
abbrev rsh:List RSh:=[.ro (.int .i64)]
def ent (n:Nat):Z0W:=⟨ash,rsh,fun v=>F n v.1 v.2.1 v.2.2.1⟩
noncomputable def cx (n:Nat):Ctx:=Z0D Tryz.prog TYS []
noncomputable def d:FnD:=⟨code,39,.nil,[(.tmp 6,.int .i64,.ro)]⟩
noncomputable def kr (n:Nat) (v:AVs ash):KN rsh:=Z1E (cx n) d (Z0Q ash v) (Z0b rsh)
noncomputable def b0:Code:=Code.l (Code.l (Code.r (Code.l (Code.r code))))
def an:An:=.seq .nil (.seq (.seq .nil (.block (some [0,1]) (.cut 0 [0,1,2,11,12,13]))) (.seq (.seq .nil (.cond (.seq .nil .nil) .nil)) (.seq .nil .nil)))
def an0:An:=.seq .nil (.seq (.cond .nil .nil) (.seq (.block (some [0,1,2,11,12,13]) (.seq .nil (.seq (.seq .nil (.cond (.seq .nil .nil) .nil)) (.seq .nil (.seq .nil (.seq .nil (.cond (.seq .nil .nil) .nil))))))) .nil))
abbrev sh0:ES:=⟨[(0,.v (.sl (.str))),(1,.v (.sl (.str))),(2,.clo [.str,.str] (.int .i64)),(11,.v (.sl (.str))),(12,.v (.int .i64)),(13,.v (.int .i64))],[]⟩
abbrev sh0_0:ES:=⟨[(0,.v (.sl (.str))),(1,.v (.sl (.str)))],[]⟩
def g0 (n m:Nat) (x:sh0.V) (kn:KN rsh) (kx:KX rsh):Option (RVs rsh):=l0 n x.1.1 x.1.2.1 x.1.2.2.1 x.1.2.2.2.1 x.1.2.2.2.2.1 (fun _=>kx 0 (sh0_0.enc ((x.1.1,x.1.2.1,()),(())))) m x.1.2.2.2.2.2.1
def T (n:Nat):Tab (RVs rsh):=fun j e kn kx=>match j with
 | 0=>ES.on sh0 e fun x=>g0 n n x kn kx
 | _=>none
theorem mk (n:Nat):MOk (cx n):=Z01 (Z00)
theorem u0 (n:Nat) (v:AVs ash):Z08 (cx n) 39 (T n) (kr n v) 0 (.loop b0) :=
 Z0O (n:=n) (CO _) (mk n) (MX _) an0 [(0,[0,1])] [0,1,2,11,12,13] sh0 (g0 n) (fun _ _ _=>rfl) (fun _ _ _=>rfl) (fun m x kn kx=>by kernel_rfl) (l:=[]) (by kernel_rfl) (Z00)
theorem ok (n:Nat):Z07 Tryz.prog 154 (ent n) :=
 Z0E (c:=cx n) (e:=ent n) (d:=d) (CO _) (mk n) (MX _) an Tryz.func154 (by kernel_rfl) (T n) (l:=[(0,.loop b0)]) (by kernel_rfl) (fun v=>mem_cons (u0 n v) Z00) (fun v=>by kernel_rfl)
end slices_CompareFunc_string_string_string_string
namespace cmp_isNaN_int
def F (n:Nat) (x1:Int):Option Bool :=
 some (!decide (x1 = x1))
noncomputable def code:Code:=Tryz.f203.body.getD .skip
abbrev ash:List ASh:=[.ro (.int .i64)]
abbrev rsh:List RSh:=[.ro .bool]
def ent (n:Nat):Z0W:=⟨ash,rsh,fun v=>F n v.1⟩
noncomputable def cx (n:Nat):Ctx:=Z0D Tryz.prog TYS []
noncomputable def d:FnD:=⟨code,6,.nil,[(.tmp 2,.bool,.ro)]⟩
def an:An:=.seq .nil (.seq .nil .nil)
theorem ok (n:Nat):Z07 Tryz.prog 203 (ent n) :=
 Z0H (c:=cx n) (e:=ent n) (d:=d) (CO _) (Z01 (Z00)) (MX _) an Tryz.func203 (by kernel_rfl) (by kernel_rfl) (fun v=>by kernel_rfl)
end cmp_isNaN_int
namespace cmp_Compare_int
def F (n:Nat) (x1:Int) (y2:Int):Option Int :=
 (cmp_isNaN_int.F n x1).bind fun r3 =>
 (cmp_isNaN_int.F n y2).bind fun r4 =>
 if r3 = true then
 if r4 = true then
 some 0
 else
 some (-1)
 else
 if r4 = true then
 some 1
 else
 if decide (x1 < y2) = true then
 some (-1)
 else
 if decide (x1 > y2) = true then
 some 1
 else
 some 0
noncomputable def code:Code:=Tryz.f176.body.getD .skip
abbrev ash:List ASh:=[.ro (.int .i64),.ro (.int .i64)]
abbrev rsh:List RSh:=[.ro (.int .i64)]
def ent (n:Nat):Z0W:=⟨ash,rsh,fun v=>F n v.1 v.2.1⟩
noncomputable def cx (n:Nat):Ctx:=Z0D Tryz.prog TYS [(203,cmp_isNaN_int.ent n)]
noncomputable def d:FnD:=⟨code,20,.nil,[(.tmp 4,.int .i64,.ro)]⟩
def an:An:=.seq .nil (.seq .nil (.seq .nil (.seq (.seq .nil (.cond (.seq (.seq .nil (.cond (.seq .nil .nil) .nil)) (.seq .nil .nil)) .nil)) (.seq (.seq .nil (.cond (.seq .nil .nil) .nil)) (.seq (.seq .nil (.cond (.seq .nil .nil) .nil)) (.seq (.seq .nil (.cond (.seq .nil .nil) .nil)) (.seq .nil .nil)))))))
theorem ok (n:Nat):Z07 Tryz.prog 176 (ent n) :=
 Z0H (c:=cx n) (e:=ent n) (d:=d) (CO _) (Z01 (mem_cons (cmp_isNaN_int.ok n) Z00)) (MX _) an Tryz.func176 (by kernel_rfl) (by kernel_rfl) (fun v=>by kernel_rfl)
end cmp_Compare_int
namespace impl_numOf
def F (n:Nat) (s1:ByteArray):Option Int :=
 (strconv_Atoi.F n s1).bind fun r2 =>
 some r2.1
noncomputable def code:Code:=Tryz.f126.body.getD .skip
abbrev ash:List ASh:=[.ro .str]
abbrev rsh:List RSh:=[.ro (.int .i64)]
def ent (n:Nat):Z0W:=⟨ash,rsh,fun v=>F n v.1⟩
noncomputable def cx (n:Nat):Ctx:=Z0D Tryz.prog TYS [(161,strconv_Atoi.ent n)]
noncomputable def d:FnD:=⟨code,11,.nil,[(.tmp 2,.int .i64,.ro)]⟩
def an:An:=.seq .nil (.seq .nil (.seq .nil .nil))
theorem ok (n:Nat):Z07 Tryz.prog 126 (ent n) :=
 Z0H (c:=cx n) (e:=ent n) (d:=d) (CO _) (Z01 (mem_cons (strconv_Atoi.ok n) Z00)) (MX _) an Tryz.func126 (by kernel_rfl) (by kernel_rfl) (fun v=>by kernel_rfl)
end impl_numOf
namespace cmp_isNaN_string
def F (n:Nat) (x1:ByteArray):Option Bool :=
 some (!(Abs.seq x1 x1))
noncomputable def code:Code:=Tryz.f204.body.getD .skip
abbrev ash:List ASh:=[.ro .str]
abbrev rsh:List RSh:=[.ro .bool]
def ent (n:Nat):Z0W:=⟨ash,rsh,fun v=>F n v.1⟩
noncomputable def cx (n:Nat):Ctx:=Z0D Tryz.prog TYS []
noncomputable def d:FnD:=⟨code,6,.nil,[(.tmp 2,.bool,.ro)]⟩
def an:An:=.seq .nil (.seq .nil .nil)
theorem ok (n:Nat):Z07 Tryz.prog 204 (ent n) :=
 Z0H (c:=cx n) (e:=ent n) (d:=d) (CO _) (Z01 (Z00)) (MX _) an Tryz.func204 (by kernel_rfl) (by kernel_rfl) (fun v=>by kernel_rfl)
end cmp_isNaN_string
namespace cmp_Compare_string
def F (n:Nat) (x1:ByteArray) (y2:ByteArray):Option Int :=
 (cmp_isNaN_string.F n x1).bind fun r3 =>
 (cmp_isNaN_string.F n y2).bind fun r4 =>
 if r3 = true then
 if r4 = true then
 some 0
 else
 some (-1)
 else
 if r4 = true then
 some 1
 else
 if (slt x1 y2) = true then
 some (-1)
 else
 if (!(slt x1 y2 || Abs.seq x1 y2)) = true then
 some 1
 else
 some 0
noncomputable def code:Code:=Tryz.f177.body.getD .skip
abbrev ash:List ASh:=[.ro .str,.ro .str]
abbrev rsh:List RSh:=[.ro (.int .i64)]
def ent (n:Nat):Z0W:=⟨ash,rsh,fun v=>F n v.1 v.2.1⟩
noncomputable def cx (n:Nat):Ctx:=Z0D Tryz.prog TYS [(204,cmp_isNaN_string.ent n)]
noncomputable def d:FnD:=⟨code,20,.nil,[(.tmp 4,.int .i64,.ro)]⟩
def an:An:=.seq .nil (.seq .nil (.seq .nil (.seq (.seq .nil (.cond (.seq (.seq .nil (.cond (.seq .nil .nil) .nil)) (.seq .nil .nil)) .nil)) (.seq (.seq .nil (.cond (.seq .nil .nil) .nil)) (.seq (.seq .nil (.cond (.seq .nil .nil) .nil)) (.seq (.seq .nil (.cond (.seq .nil .nil) .nil)) (.seq .nil .nil)))))))
theorem ok (n:Nat):Z07 Tryz.prog 177 (ent n) :=
 Z0H (c:=cx n) (e:=ent n) (d:=d) (CO _) (Z01 (mem_cons (cmp_isNaN_string.ok n) Z00)) (MX _) an Tryz.func177 (by kernel_rfl) (by kernel_rfl) (fun v=>by kernel_rfl)
end cmp_Compare_string
namespace impl_isBigName
def F (n:Nat) (s1:ByteArray):Option Bool :=
 (impl_in.F n (ByteArray.size s1:Int) 1 20).bind fun r2 =>
 if r2 = true then
 (impl_nameLong.F n s1).bind fun r3 =>
 if (decide (r3 = (ByteArray.size s1:Int))) = true then
 if (0:Int) ≤ 0 ∧ 0 < (ByteArray.size s1:Int) then
 some (decide ((Z0M s1 0) ≤ 90))
 else
 none
 else
 some false
 else
 some false
noncomputable def code:Code:=Tryz.f233.body.getD .skip
abbrev ash:List ASh:=[.ro .str]
abbrev rsh:List RSh:=[.ro .bool]
def ent (n:Nat):Z0W:=⟨ash,rsh,fun v=>F n v.1⟩
noncomputable def cx (n:Nat):Ctx:=Z0D Tryz.prog TYS [(87,impl_in.ent n),(183,impl_nameLong.ent n)]
noncomputable def d:FnD:=⟨code,18,.nil,[(.tmp 2,.bool,.ro)]⟩
def an:An:=.seq .nil (.seq .nil .nil)
theorem ok (n:Nat):Z07 Tryz.prog 233 (ent n) :=
 Z0H (c:=cx n) (e:=ent n) (d:=d) (CO _) (Z01 (mem_cons (impl_in.ok n) (mem_cons (impl_nameLong.ok n) Z00))) (MX _) an Tryz.func233 (by kernel_rfl) (by kernel_rfl) (fun v=>by kernel_rfl)
end impl_isBigName
namespace internal_stringslite_HasPrefix
def F (n:Nat) (s1:ByteArray) (t2:ByteArray):Option Bool :=
 if (decide ((ByteArray.size s1:Int) ≥ (ByteArray.size t2:Int))) = true then
 if (0:Int) ≤ 0 ∧ (0:Int) ≤ (ByteArray.size t2:Int) ∧ (ByteArray.size t2:Int) ≤ (ByteArray.size s1:Int) then
 some (Abs.seq (ByteArray.extract s1 (Int.toNat 0) (Int.toNat (ByteArray.size t2:Int))) t2)
 else
 none
 else
 some false
noncomputable def code:Code:=Tryz.f247.body.getD .skip
abbrev ash:List ASh:=[.ro .str,.ro .str]
abbrev rsh:List RSh:=[.ro .bool]
def ent (n:Nat):Z0W:=⟨ash,rsh,fun v=>F n v.1 v.2.1⟩
noncomputable def cx (n:Nat):Ctx:=Z0D Tryz.prog TYS []
noncomputable def d:FnD:=⟨code,18,.nil,[(.tmp 4,.bool,.ro)]⟩
def an:An:=.seq .nil (.seq .nil .nil)
theorem ok (n:Nat):Z07 Tryz.prog 247 (ent n) :=
 Z0H (c:=cx n) (e:=ent n) (d:=d) (CO _) (Z01 (Z00)) (MX _) an Tryz.func247 (by kernel_rfl) (by kernel_rfl) (fun v=>by kernel_rfl)
end internal_stringslite_HasPrefix
namespace strings_HasPrefix
def F (n:Nat) (s1:ByteArray) (t2:ByteArray):Option Bool :=
 (internal_stringslite_HasPrefix.F n s1 t2).bind fun r3 =>
 some r3
noncomputable def code:Code:=Tryz.f234.body.getD .skip
abbrev ash:List ASh:=[.ro .str,.ro .str]
abbrev rsh:List RSh:=[.ro .bool]
def ent (n:Nat):Z0W:=⟨ash,rsh,fun v=>F n v.1 v.2.1⟩
noncomputable def cx (n:Nat):Ctx:=Z0D Tryz.prog TYS [(247,internal_stringslite_HasPrefix.ent n)]
noncomputable def d:FnD:=⟨code,8,.nil,[(.tmp 4,.bool,.ro)]⟩
def an:An:=.seq .nil (.seq .nil .nil)
theorem ok (n:Nat):Z07 Tryz.prog 234 (ent n) :=
 Z0H (c:=cx n) (e:=ent n) (d:=d) (CO _) (Z01 (mem_cons (internal_stringslite_HasPrefix.ok n) Z00)) (MX _) an Tryz.func234 (by kernel_rfl) (by kernel_rfl) (fun v=>by kernel_rfl)
end strings_HasPrefix
namespace impl_partsOf
def j2 (n:Nat) (name9:ByteArray) (rest10:ByteArray) (args11:List ByteArray) (Kn:ByteArray → (List ByteArray) → Option (ByteArray × List ByteArray)):Option (ByteArray × List ByteArray) :=
 (impl_termAt.F n rest10).bind fun r12 =>
 if (0:Int) ≤ 0 ∧ (0:Int) ≤ r12.2 ∧ r12.2 ≤ (ByteArray.size rest10:Int) then
 if List.length args11 + List.length [ByteArray.extract rest10 (Int.toNat 0) (Int.toNat r12.2)] ≤ lim then
 if (0:Int) ≤ r12.2 ∧ r12.2 ≤ (ByteArray.size rest10:Int) ∧ (ByteArray.size rest10:Int) ≤ (ByteArray.size rest10:Int) then
 (strings_HasPrefix.F n (ByteArray.extract rest10 (Int.toNat r12.2) (Int.toNat (ByteArray.size rest10:Int))) ⟨#[44]⟩).bind fun r13 =>
 if r13 = true then
 if (0:Int) ≤ 1 ∧ (1:Int) ≤ (ByteArray.size (ByteArray.extract rest10 (Int.toNat r12.2) (Int.toNat (ByteArray.size rest10:Int))):Int) ∧ (ByteArray.size (ByteArray.extract rest10 (Int.toNat r12.2) (Int.toNat (ByteArray.size rest10:Int))):Int) ≤ (ByteArray.size (ByteArray.extract rest10 (Int.toNat r12.2) (Int.toNat (ByteArray.size rest10:Int))):Int) then
 Kn (ByteArray.extract (ByteArray.extract rest10 (Int.toNat r12.2) (Int.toNat (ByteArray.size rest10:Int))) (Int.toNat 1) (Int.toNat (ByteArray.size (ByteArray.extract rest10 (Int.toNat r12.2) (Int.toNat (ByteArray.size rest10:Int))):Int))) (args11 ++ [ByteArray.extract rest10 (Int.toNat 0) (Int.toNat r12.2)])
 else
 none
 else
 Kn (ByteArray.extract rest10 (Int.toNat r12.2) (Int.toNat (ByteArray.size rest10:Int))) (args11 ++ [ByteArray.extract rest10 (Int.toNat 0) (Int.toNat r12.2)])
 else
 none
 else
 none
 else
 none
def l1 (n:Nat) (name6:ByteArray) (K0:(List ByteArray) → Option (ByteArray × List ByteArray)):Nat → ByteArray → (List ByteArray) → Option (ByteArray × List ByteArray)
 | 0,_,_=>none
 | k + 1,rest7,args8 =>
 if (!(Abs.seq rest7 ByteArray.empty)) = true then
 if (!(Abs.seq rest7 ⟨#[41]⟩)) = true then
 j2 n name6 rest7 args8 (fun rest14 args15 =>
 l1 n name6 K0 k rest14 args15)
 else
 K0 args8
 else
 K0 args8
def j0 (n:Nat) (name4:ByteArray) (rest5:ByteArray):Option (ByteArray × List ByteArray) :=
 l1 n name4 (fun args16 =>
 some (name4,args16)) n rest5 []
def F (n:Nat) (s1:ByteArray):Option (ByteArray × List ByteArray) :=
 (strings_Cut.F n s1 ⟨#[40]⟩).bind fun r2 =>
 (impl_isBigName.F n r2.1).bind fun r3 =>
 if (!r3) = false then
 if (!r2.2.2) = true then
 some (s1,[])
 else
 j0 n r2.1 r2.2.1
 else
 some (s1,[])
noncomputable def code:Code:=Tryz.f205.body.getD .skip
abbrev ash:List ASh:=[.ro .str]
abbrev rsh:List RSh:=[.ro .str,.ro (.sl (.str))]
def ent (n:Nat):Z0W:=⟨ash,rsh,fun v=>F n v.1⟩
noncomputable def cx (n:Nat):Ctx:=Z0D Tryz.prog TYS [(160,impl_termAt.ent n),(232,strings_Cut.ent n),(233,impl_isBigName.ent n),(234,strings_HasPrefix.ent n)]
noncomputable def d:FnD:=⟨code,51,.nil,[(.tmp 2,.str,.ro),(.tmp 3,.sl (.str),.ro)]⟩
noncomputable def kr (n:Nat) (v:AVs ash):KN rsh:=Z1E (cx n) d (Z0Q ash v) (Z0b rsh)
noncomputable def c2:Code:=(Code.r (Code.l (Code.l (Code.l (Code.r (Code.r (Code.r (Code.r code))))))))
noncomputable def b1:Code:=Code.l (Code.l (Code.l (Code.r (Code.r (Code.r (Code.r code))))))
noncomputable def c0:Code:=(Code.r (Code.r (Code.r code)))
def an:An:=.seq .nil (.seq .nil (.seq (.seq .nil (.cond (.seq .nil .nil) .nil)) (.cut 0 [4,5])))
def an2:An:=.block (some [4,5,7]) (.seq .nil (.seq .nil (.seq .nil (.seq .nil (.cond .nil .nil)))))
abbrev sh2:ES:=⟨[(4,.v .str),(5,.v .str),(7,.al 7 [])],[⟨7,.sl (.str),.own .ro,false,false,none⟩]⟩
abbrev sh2_n:ES:=⟨[(4,.v .str),(5,.v .str),(7,.al 7 [])],[⟨7,.sl (.str),.own .ro,false,false,none⟩]⟩
def an1:An:=.seq (.seq .nil (.cond .nil .nil)) (.cut 2 [4,5,7])
abbrev sh1:ES:=⟨[(4,.v .str),(5,.v .str),(7,.al 7 [])],[⟨7,.sl (.str),.own .ro,false,false,none⟩]⟩
abbrev sh1_0:ES:=⟨[(4,.v .str),(7,.al 7 [])],[⟨7,.sl (.str),.own .ro,false,false,none⟩]⟩
def an0:An:=.seq (.reg [(24,.own .ro)]) (.seq (.block (some [4,7]) (.cut 1 [4,5,7])) (.seq .nil .nil))
abbrev sh0:ES:=⟨[(4,.v .str),(5,.v .str)],[]⟩
def g2 (n m:Nat) (x:sh2.V) (kn:KN rsh) (kx:KX rsh):Option (RVs rsh):=j2 n x.1.1 x.1.2.1 x.2.1 (fun y0 y1=>kn (sh2_n.enc ((x.1.1,y0,(()),()),(y1,()))))
def g1 (n m:Nat) (x:sh1.V) (kn:KN rsh) (kx:KX rsh):Option (RVs rsh):=l1 n x.1.1 (fun y0=>kx 0 (sh1_0.enc ((x.1.1,(()),()),(y0,())))) m x.1.2.1 x.2.1
def g0 (n m:Nat) (x:sh0.V) (kn:KN rsh) (kx:KX rsh):Option (RVs rsh):=j0 n x.1.1 x.1.2.1
def T (n:Nat):Tab (RVs rsh):=fun j e kn kx=>match j with
 | 2=>ES.on sh2 e fun x=>g2 n n x kn kx
 | 1=>ES.on sh1 e fun x=>g1 n n x kn kx
 | 0=>ES.on sh0 e fun x=>g0 n n x kn kx
 | _=>none
theorem mk (n:Nat):MOk (cx n):=Z01 (mem_cons (impl_termAt.ok n) (mem_cons (strings_Cut.ok n) (mem_cons (impl_isBigName.ok n) (mem_cons (strings_HasPrefix.ok n) Z00))))
theorem u2 (n:Nat) (v:AVs ash):Z08 (cx n) 51 (T n) (kr n v) 2 (c2) :=
 Z0p (CO _) (mk n) (MX _) an2 [(0,[4,7])] [4,5,7] sh2 (g2 n n) (fun _ _ _=>rfl) (fun x kn kx=>by kernel_rfl) (l:=[]) (by kernel_rfl) (Z00)
theorem u1 (n:Nat) (v:AVs ash):Z08 (cx n) 51 (T n) (kr n v) 1 (.loop b1) :=
 Z0O (n:=n) (CO _) (mk n) (MX _) an1 [(0,[4,7])] [4,5,7] sh1 (g1 n) (fun _ _ _=>rfl) (fun _ _ _=>rfl) (fun m x kn kx=>by kernel_rfl) (l:=[(2,c2)]) (by kernel_rfl) (mem_cons (u2 n v) Z00)
theorem u0 (n:Nat) (v:AVs ash):Z08 (cx n) 51 (T n) (kr n v) 0 (c0) :=
 Z0p (CO _) (mk n) (MX _) an0 [] [2,3] sh0 (g0 n n) (fun _ _ _=>rfl) (fun x kn kx=>by kernel_rfl) (l:=[(1,.loop b1)]) (by kernel_rfl) (mem_cons (u1 n v) Z00)
theorem ok (n:Nat):Z07 Tryz.prog 205 (ent n) :=
 Z0E (c:=cx n) (e:=ent n) (d:=d) (CO _) (mk n) (MX _) an Tryz.func205 (by kernel_rfl) (T n) (l:=[(0,c0)]) (by kernel_rfl) (fun v=>mem_cons (u0 n v) Z00) (fun v=>by kernel_rfl)
end impl_partsOf
namespace cmp_Or_int
def l0 (n:Nat) (zero2:Int) (t3:List Int) (t4:Int) (K0:Unit → Option Int):Nat → Int → Option Int
 | 0,_=>none
 | k + 1,t5 =>
 if decide (t5 < t4) = true then
 if (0:Int) ≤ t5 ∧ t5 < (List.length t3:Int) then
 if (!decide ((List.getD t3 (Int.toNat t5) 0) = zero2)) = true then
 some (List.getD t3 (Int.toNat t5) 0)
 else
 l0 n zero2 t3 t4 K0 k (IntKind.i64.wrap (t5 + 1))
 else
 none
 else
 K0 ()
def F (n:Nat) (vals1:List Int):Option Int :=
 l0 n 0 vals1 (List.length vals1:Int) (fun _ =>
 some 0) n 0
noncomputable def code:Code:=Tryz.f206.body.getD .skip
abbrev ash:List ASh:=[.ro (.sl (.int .i64))]
abbrev rsh:List RSh:=[.ro (.int .i64)]
def ent (n:Nat):Z0W:=⟨ash,rsh,fun v=>F n v.1⟩
noncomputable def cx (n:Nat):Ctx:=Z0D Tryz.prog TYS []
noncomputable def d:FnD:=⟨code,18,.nil,[(.tmp 2,.int .i64,.ro)]⟩
noncomputable def kr (n:Nat) (v:AVs ash):KN rsh:=Z1E (cx n) d (Z0Q ash v) (Z0b rsh)
noncomputable def b0:Code:=Code.l (Code.l (Code.r (Code.l (Code.r (Code.r code)))))
def an:An:=.seq .nil (.seq .nil (.seq (.seq .nil (.block (some [3]) (.cut 0 [3,6,7,8]))) (.seq .nil .nil)))
def an0:An:=.seq .nil (.seq (.cond .nil .nil) (.seq (.block (some [3,6,7,8]) (.seq .nil (.seq .nil (.cond (.seq .nil .nil) .nil)))) .nil))
abbrev sh0:ES:=⟨[(3,.v (.int .i64)),(6,.v (.sl (.int .i64))),(7,.v (.int .i64)),(8,.v (.int .i64))],[]⟩
abbrev sh0_0:ES:=⟨[(3,.v (.int .i64))],[]⟩
def g0 (n m:Nat) (x:sh0.V) (kn:KN rsh) (kx:KX rsh):Option (RVs rsh):=l0 n x.1.1 x.1.2.1 x.1.2.2.1 (fun _=>kx 0 (sh0_0.enc ((x.1.1,()),(())))) m x.1.2.2.2.1
def T (n:Nat):Tab (RVs rsh):=fun j e kn kx=>match j with
 | 0=>ES.on sh0 e fun x=>g0 n n x kn kx
 | _=>none
theorem mk (n:Nat):MOk (cx n):=Z01 (Z00)
theorem u0 (n:Nat) (v:AVs ash):Z08 (cx n) 18 (T n) (kr n v) 0 (.loop b0) :=
 Z0O (n:=n) (CO _) (mk n) (MX _) an0 [(0,[3])] [3,6,7,8] sh0 (g0 n) (fun _ _ _=>rfl) (fun _ _ _=>rfl) (fun m x kn kx=>by kernel_rfl) (l:=[]) (by kernel_rfl) (Z00)
theorem ok (n:Nat):Z07 Tryz.prog 206 (ent n) :=
 Z0E (c:=cx n) (e:=ent n) (d:=d) (CO _) (mk n) (MX _) an Tryz.func206 (by kernel_rfl) (T n) (l:=[(0,.loop b0)]) (by kernel_rfl) (fun v=>mem_cons (u0 n v) Z00) (fun v=>by kernel_rfl)
end cmp_Or_int
namespace impl_compareTerms
def j0 (n:Nat) (self155:ByteArray → ByteArray → Option Int) (self178:ByteArray → ByteArray → Option Int) (a5:ByteArray) (b6:ByteArray) (k7:Int) (l8:Int) (t9:Bool) (Kn:Unit → Option Int):Option Int :=
 if t9 = true then
 some 2
 else
 if (!decide (k7 = l8)) = true then
 (cmp_Compare_int.F n k7 l8).bind fun r10 =>
 some r10
 else
 if decide (k7 = 1) = true then
 (impl_numOf.F n a5).bind fun r11 =>
 (impl_numOf.F n b6).bind fun r12 =>
 (cmp_Compare_int.F n r11 r12).bind fun r13 =>
 some r13
 else
 if decide (k7 = 2) = true then
 if (0:Int) ≤ 1 ∧ (1:Int) ≤ (IntKind.i64.wrap ((ByteArray.size a5:Int) - 1)) ∧ (IntKind.i64.wrap ((ByteArray.size a5:Int) - 1)) ≤ (ByteArray.size a5:Int) then
 if (0:Int) ≤ 1 ∧ (1:Int) ≤ (IntKind.i64.wrap ((ByteArray.size b6:Int) - 1)) ∧ (IntKind.i64.wrap ((ByteArray.size b6:Int) - 1)) ≤ (ByteArray.size b6:Int) then
 (cmp_Compare_string.F n (ByteArray.extract a5 (Int.toNat 1) (Int.toNat (IntKind.i64.wrap ((ByteArray.size a5:Int) - 1)))) (ByteArray.extract b6 (Int.toNat 1) (Int.toNat (IntKind.i64.wrap ((ByteArray.size b6:Int) - 1))))).bind fun r14 =>
 some r14
 else
 none
 else
 none
 else
 Kn ()
def G (n:Nat) (self155:ByteArray → ByteArray → Option Int) (self178:ByteArray → ByteArray → Option Int) (a1:ByteArray) (b2:ByteArray):Option Int :=
 (impl_kindOf.F n a1).bind fun r3 =>
 (impl_kindOf.F n b2).bind fun r4 =>
 if (decide (r3 = 0)) = false then
 j0 n self155 self178 a1 b2 r3 r4 (decide (r4 = 0)) (fun _ =>
 (self178 a1 b2).bind fun r15 =>
 some r15)
 else
 j0 n self155 self178 a1 b2 r3 r4 true (fun _ =>
 (self178 a1 b2).bind fun r16 =>
 some r16)
end impl_compareTerms
namespace impl_compareCons
def l0 (n:Nat) (self155:ByteArray → ByteArray → Option Int) (self178:ByteArray → ByteArray → Option Int) (others8:List ByteArray) (t9:List ByteArray) (t10:Int) (K0:Unit → Option Int):Nat → Int → Option Int
 | 0,_=>none
 | k + 1,t11 =>
 if decide (t11 < t10) = true then
 if (0:Int) ≤ t11 ∧ t11 < (List.length t9:Int) then
 if (0:Int) ≤ t11 ∧ t11 < (List.length others8:Int) then
 (self155 (List.getD t9 (Int.toNat t11) ByteArray.empty) (List.getD others8 (Int.toNat t11) ByteArray.empty)).bind fun r12 =>
 if (!decide (r12 = 0)) = true then
 some r12
 else
 l0 n self155 self178 others8 t9 t10 K0 k (IntKind.i64.wrap (t11 + 1))
 else
 none
 else
 none
 else
 K0 ()
def G (n:Nat) (self155:ByteArray → ByteArray → Option Int) (self178:ByteArray → ByteArray → Option Int) (a1:ByteArray) (b2:ByteArray):Option Int :=
 (impl_partsOf.F n a1).bind fun r3 =>
 (impl_partsOf.F n b2).bind fun r4 =>
 (cmp_Compare_string.F n r3.1 r4.1).bind fun r5 =>
 (cmp_Compare_int.F n (List.length r3.2:Int) (List.length r4.2:Int)).bind fun r6 =>
 (cmp_Or_int.F n [r5,r6]).bind fun r7 =>
 if (!decide (r7 = 0)) = true then
 some r7
 else
 l0 n self155 self178 r4.2 r3.2 (List.length r3.2:Int) (fun _ =>
 some 0) n 0
end impl_compareCons
def ZAh:Nat → (ByteArray → ByteArray → Option Int) × (ByteArray → ByteArray → Option Int)
 | 0=>(fun _ _=>none,fun _ _=>none)
 | n + 1=>(impl_compareTerms.G n (ZAh n).1 (ZAh n).2,impl_compareCons.G n (ZAh n).1 (ZAh n).2)
namespace impl_compareTerms
noncomputable def code:Code:=Tryz.f155.body.getD .skip
def F (n:Nat):ByteArray → ByteArray → Option Int:=(ZAh n).1
abbrev ash:List ASh:=[.ro .str,.ro .str]
abbrev rsh:List RSh:=[.ro (.int .i64)]
def ent (n:Nat):Z0W:=⟨ash,rsh,fun v=>F n v.1 v.2.1⟩
end impl_compareTerms
namespace impl_compareCons
noncomputable def code:Code:=Tryz.f178.body.getD .skip
def F (n:Nat):ByteArray → ByteArray → Option Int:=(ZAh n).2
abbrev ash:List ASh:=[.ro .str,.ro .str]
abbrev rsh:List RSh:=[.ro (.int .i64)]
def ent (n:Nat):Z0W:=⟨ash,rsh,fun v=>F n v.1 v.2.1⟩
end impl_compareCons
namespace impl_compareTerms
noncomputable def cx (n:Nat):Ctx:=Z0D Tryz.prog TYS [(125,impl_kindOf.ent n),(126,impl_numOf.ent n),(176,cmp_Compare_int.ent n),(177,cmp_Compare_string.ent n),(155,impl_compareTerms.ent n),(178,impl_compareCons.ent n)]
noncomputable def d:FnD:=⟨code,50,.nil,[(.tmp 4,.int .i64,.ro)]⟩
noncomputable def kr (n:Nat) (v:AVs ash):KN rsh:=Z1E (cx n) d (Z0Q ash v) (Z0b rsh)
noncomputable def c0:Code:=(Code.r (Code.l (Code.l (Code.r (Code.r code)))))
def an:An:=.seq .nil (.seq .nil (.seq (.block (some [0,1]) (.seq .nil (.cut 0 [0,1,5,6,11]))) (.seq .nil .nil)))
def an0:An:=.cond (.seq .nil .nil) (.seq .nil (.cond (.seq .nil .nil) (.seq .nil (.cond (.seq .nil .nil) (.seq .nil (.cond (.seq .nil .nil) .nil))))))
abbrev sh0:ES:=⟨[(0,.v .str),(1,.v .str),(5,.v (.int .i64)),(6,.v (.int .i64)),(11,.v .bool)],[]⟩
abbrev sh0_n:ES:=⟨[(0,.v .str),(1,.v .str)],[]⟩
def g0 (n m:Nat) (x:sh0.V) (kn:KN rsh) (kx:KX rsh):Option (RVs rsh):=j0 n (impl_compareTerms.F n) (impl_compareCons.F n) x.1.1 x.1.2.1 x.1.2.2.1 x.1.2.2.2.1 x.1.2.2.2.2.1 (fun _=>kn (sh0_n.enc ((x.1.1,x.1.2.1,()),(()))))
def T (n:Nat):Tab (RVs rsh):=fun j e kn kx=>match j with
 | 0=>ES.on sh0 e fun x=>g0 n n x kn kx
 | _=>none
theorem mk (n:Nat) (ih155:Z07 Tryz.prog 155 (impl_compareTerms.ent n)) (ih178:Z07 Tryz.prog 178 (impl_compareCons.ent n)):MOk (cx n):=Z01 (mem_cons (impl_kindOf.ok n) (mem_cons (impl_numOf.ok n) (mem_cons (cmp_Compare_int.ok n) (mem_cons (cmp_Compare_string.ok n) (mem_cons ih155 (mem_cons ih178 Z00))))))
theorem u0 (n:Nat) (v:AVs ash) (ih155:Z07 Tryz.prog 155 (impl_compareTerms.ent n)) (ih178:Z07 Tryz.prog 178 (impl_compareCons.ent n)):Z08 (cx n) 50 (T n) (kr n v) 0 (c0) :=
 Z0p (CO _) (mk n ih155 ih178) (MX _) an0 [(0,[0,1])] [0,1] sh0 (g0 n n) (fun _ _ _=>rfl) (fun x kn kx=>by kernel_rfl) (l:=[]) (by kernel_rfl) (Z00)
theorem ok0:Z07 Tryz.prog 155 (ent 0):=Z2w Tryz.f155 (by kernel_rfl) (by kernel_rfl) (by kernel_rfl) (fun _=>rfl)
theorem okS (n:Nat) (ih155:Z07 Tryz.prog 155 (impl_compareTerms.ent n)) (ih178:Z07 Tryz.prog 178 (impl_compareCons.ent n)):Z07 Tryz.prog 155 (ent (n + 1)) :=
 Z0E (c:=cx n) (e:=ent (n + 1)) (d:=d) (CO _) (mk n ih155 ih178) (MX _) an Tryz.func155 (by kernel_rfl) (T n) (l:=[(0,c0)]) (by kernel_rfl) (fun v=>mem_cons (u0 n v ih155 ih178) Z00) (fun v=>by kernel_rfl)
end impl_compareTerms
namespace impl_compareCons
noncomputable def cx (n:Nat):Ctx:=Z0D Tryz.prog TYS [(176,cmp_Compare_int.ent n),(177,cmp_Compare_string.ent n),(205,impl_partsOf.ent n),(206,cmp_Or_int.ent n),(155,impl_compareTerms.ent n),(178,impl_compareCons.ent n)]
noncomputable def d:FnD:=⟨code,53,.nil,[(.tmp 4,.int .i64,.ro)]⟩
noncomputable def kr (n:Nat) (v:AVs ash):KN rsh:=Z1E (cx n) d (Z0Q ash v) (Z0b rsh)
noncomputable def b0:Code:=Code.l (Code.l (Code.r (Code.l (Code.r (Code.r (Code.r (Code.r code)))))))
def an:An:=.seq .nil (.seq .nil (.seq .nil (.seq (.seq .nil (.seq .nil (.cond (.seq .nil .nil) .nil))) (.seq (.seq .nil (.block (some []) (.cut 0 [8,36,37,38]))) (.seq .nil .nil)))))
def an0:An:=.seq .nil (.seq (.cond .nil .nil) (.seq (.block (some [8,36,37,38]) (.seq .nil (.seq .nil (.seq .nil (.cond (.seq .nil .nil) .nil))))) .nil))
abbrev sh0:ES:=⟨[(8,.v (.sl (.str))),(36,.v (.sl (.str))),(37,.v (.int .i64)),(38,.v (.int .i64))],[]⟩
abbrev sh0_0:ES:=⟨[],[]⟩
def g0 (n m:Nat) (x:sh0.V) (kn:KN rsh) (kx:KX rsh):Option (RVs rsh):=l0 n (impl_compareTerms.F n) (impl_compareCons.F n) x.1.1 x.1.2.1 x.1.2.2.1 (fun _=>kx 0 (sh0_0.enc ((()),(())))) m x.1.2.2.2.1
def T (n:Nat):Tab (RVs rsh):=fun j e kn kx=>match j with
 | 0=>ES.on sh0 e fun x=>g0 n n x kn kx
 | _=>none
theorem mk (n:Nat) (ih155:Z07 Tryz.prog 155 (impl_compareTerms.ent n)) (ih178:Z07 Tryz.prog 178 (impl_compareCons.ent n)):MOk (cx n):=Z01 (mem_cons (cmp_Compare_int.ok n) (mem_cons (cmp_Compare_string.ok n) (mem_cons (impl_partsOf.ok n) (mem_cons (cmp_Or_int.ok n) (mem_cons ih155 (mem_cons ih178 Z00))))))
theorem u0 (n:Nat) (v:AVs ash) (ih155:Z07 Tryz.prog 155 (impl_compareTerms.ent n)) (ih178:Z07 Tryz.prog 178 (impl_compareCons.ent n)):Z08 (cx n) 53 (T n) (kr n v) 0 (.loop b0) :=
 Z0O (n:=n) (CO _) (mk n ih155 ih178) (MX _) an0 [(0,[])] [8,36,37,38] sh0 (g0 n) (fun _ _ _=>rfl) (fun _ _ _=>rfl) (fun m x kn kx=>by kernel_rfl) (l:=[]) (by kernel_rfl) (Z00)
theorem ok0:Z07 Tryz.prog 178 (ent 0):=Z2w Tryz.f178 (by kernel_rfl) (by kernel_rfl) (by kernel_rfl) (fun _=>rfl)
theorem okS (n:Nat) (ih155:Z07 Tryz.prog 155 (impl_compareTerms.ent n)) (ih178:Z07 Tryz.prog 178 (impl_compareCons.ent n)):Z07 Tryz.prog 178 (ent (n + 1)) :=
 Z0E (c:=cx n) (e:=ent (n + 1)) (d:=d) (CO _) (mk n ih155 ih178) (MX _) an Tryz.func178 (by kernel_rfl) (T n) (l:=[(0,.loop b0)]) (by kernel_rfl) (fun v=>mem_cons (u0 n v ih155 ih178) Z00) (fun v=>by kernel_rfl)
end impl_compareCons
theorem okG155:(n:Nat) → Z07 Tryz.prog 155 (impl_compareTerms.ent n) ∧ Z07 Tryz.prog 178 (impl_compareCons.ent n)
 | 0=>⟨impl_compareTerms.ok0,impl_compareCons.ok0⟩
 | n + 1=>have ih:=okG155 n; ⟨impl_compareTerms.okS n ih.1 ih.2,impl_compareCons.okS n ih.1 ih.2⟩
theorem impl_compareTerms.ok (n:Nat):Z07 Tryz.prog 155 (impl_compareTerms.ent n):=(okG155 n).1
namespace impl_compareTuples
def F (n:Nat) (a1:List ByteArray) (b2:List ByteArray):Option Int :=
 (slices_CompareFunc_string_string_string_string.F n a1 b2 (fun a3=>(impl_compareTerms.F n a3.1 a3.2.1).bind some)).bind fun r4 =>
 some r4
noncomputable def code:Code:=Tryz.f139.body.getD .skip
abbrev ash:List ASh:=[.ro (.st (.sl (.str))),.ro (.st (.sl (.str)))]
abbrev rsh:List RSh:=[.ro (.int .i64)]
def ent (n:Nat):Z0W:=⟨ash,rsh,fun v=>F n v.1 v.2.1⟩
noncomputable def cx (n:Nat):Ctx:=Z0D Tryz.prog TYS [(154,slices_CompareFunc_string_string_string_string.ent n),(155,impl_compareTerms.ent n)]
noncomputable def d:FnD:=⟨code,10,.nil,[(.tmp 4,.int .i64,.ro)]⟩
def an:An:=.seq .nil (.seq .nil .nil)
theorem ok (n:Nat):Z07 Tryz.prog 139 (ent n) :=
 Z0H (c:=cx n) (e:=ent n) (d:=d) (CO _) (Z01 (mem_cons (slices_CompareFunc_string_string_string_string.ok n) (mem_cons (impl_compareTerms.ok n) Z00))) (MX _) an Tryz.func139 (by kernel_rfl) (by kernel_rfl) (fun v=>by kernel_rfl)
end impl_compareTuples
namespace impl_isRel
def l1 (n:Nat) (t4:List (List ByteArray)) (t5:Int) (r7:Int × List (List ByteArray)) (K0:Unit → Option Bool):Nat → Int → Option Bool
 | 0,_=>none
 | k + 1,t6 =>
 if decide (t6 < t5) = true then
 if (0:Int) ≤ t6 ∧ t6 < (List.length t4:Int) then
 (impl_isTuple.F n (List.getD t4 (Int.toNat t6) [])).bind fun r8 =>
 if (!r8) = false then
 if (!decide ((List.length (List.getD t4 (Int.toNat t6) []):Int) = r7.1)) = false then
 if (decide (t6 > 0)) = true then
 if (0:Int) ≤ (IntKind.i64.wrap (t6 - 1)) ∧ (IntKind.i64.wrap (t6 - 1)) < (List.length r7.2:Int) then
 (impl_compareTuples.F n (List.getD r7.2 (Int.toNat (IntKind.i64.wrap (t6 - 1))) []) (List.getD t4 (Int.toNat t6) [])).bind fun r9 =>
 if decide (r9 ≥ 0) = true then
 some false
 else
 l1 n t4 t5 r7 K0 k (IntKind.i64.wrap (t6 + 1))
 else
 none
 else
 l1 n t4 t5 r7 K0 k (IntKind.i64.wrap (t6 + 1))
 else
 some false
 else
 some false
 else
 none
 else
 K0 ()
def j0 (n:Nat) (r3:Int × List (List ByteArray)):Option Bool :=
 l1 n r3.2 (List.length r3.2:Int) r3 (fun _ =>
 some true) n 0
def F (n:Nat) (r1:Int × List (List ByteArray)):Option Bool :=
 (impl_in.F n r1.1 0 6).bind fun r2 =>
 if (!r2) = false then
 if decide ((List.length r1.2:Int) > 400) = true then
 some false
 else
 j0 n r1
 else
 some false
noncomputable def code:Code:=Tryz.f120.body.getD .skip
abbrev ash:List ASh:=[.ro (.st (.pair (.int .i64) (.sl (.st (.sl (.str))))))]
abbrev rsh:List RSh:=[.ro .bool]
def ent (n:Nat):Z0W:=⟨ash,rsh,fun v=>F n v.1⟩
noncomputable def cx (n:Nat):Ctx:=Z0D Tryz.prog TYS [(87,impl_in.ent n),(137,impl_isTuple.ent n),(139,impl_compareTuples.ent n)]
noncomputable def d:FnD:=⟨code,50,.nil,[(.tmp 2,.bool,.ro)]⟩
noncomputable def kr (n:Nat) (v:AVs ash):KN rsh:=Z1E (cx n) d (Z0Q ash v) (Z0b rsh)
noncomputable def b1:Code:=Code.l (Code.l (Code.r (Code.l (Code.r (Code.r code)))))
noncomputable def c0:Code:=(Code.r (Code.r code))
def an:An:=.seq .nil (.seq (.seq .nil (.cond (.seq .nil .nil) .nil)) (.cut 0 [1]))
def an1:An:=.seq .nil (.seq (.cond .nil .nil) (.seq (.block (some [1,16,17,18]) (.seq .nil (.seq .nil (.cond (.seq .nil .nil) .nil)))) .nil))
abbrev sh1:ES:=⟨[(1,.pt 1 []),(16,.v (.sl (.st (.sl (.str))))),(17,.v (.int .i64)),(18,.v (.int .i64))],[⟨1,.st (.pair (.int .i64) (.sl (.st (.sl (.str))))),.ro,true,false,none⟩]⟩
abbrev sh1_0:ES:=⟨[],[]⟩
def an0:An:=.seq (.seq .nil (.block (some []) (.cut 1 [1,16,17,18]))) (.seq .nil .nil)
abbrev sh0:ES:=⟨[(1,.pt 1 [])],[⟨1,.st (.pair (.int .i64) (.sl (.st (.sl (.str))))),.ro,true,false,none⟩]⟩
def g1 (n m:Nat) (x:sh1.V) (kn:KN rsh) (kx:KX rsh):Option (RVs rsh):=l1 n x.1.2.1 x.1.2.2.1 x.2.1 (fun _=>kx 0 (sh1_0.enc ((()),(())))) m x.1.2.2.2.1
def g0 (n m:Nat) (x:sh0.V) (kn:KN rsh) (kx:KX rsh):Option (RVs rsh):=j0 n x.2.1
def T (n:Nat):Tab (RVs rsh):=fun j e kn kx=>match j with
 | 1=>ES.on sh1 e fun x=>g1 n n x kn kx
 | 0=>ES.on sh0 e fun x=>g0 n n x kn kx
 | _=>none
theorem mk (n:Nat):MOk (cx n):=Z01 (mem_cons (impl_in.ok n) (mem_cons (impl_isTuple.ok n) (mem_cons (impl_compareTuples.ok n) Z00)))
theorem u1 (n:Nat) (v:AVs ash):Z08 (cx n) 50 (T n) (kr n v) 1 (.loop b1) :=
 Z0O (n:=n) (CO _) (mk n) (MX _) an1 [(0,[])] [1,16,17,18] sh1 (g1 n) (fun _ _ _=>rfl) (fun _ _ _=>rfl) (fun m x kn kx=>by kernel_rfl) (l:=[]) (by kernel_rfl) (Z00)
theorem u0 (n:Nat) (v:AVs ash):Z08 (cx n) 50 (T n) (kr n v) 0 (c0) :=
 Z0p (CO _) (mk n) (MX _) an0 [] [2] sh0 (g0 n n) (fun _ _ _=>rfl) (fun x kn kx=>by kernel_rfl) (l:=[(1,.loop b1)]) (by kernel_rfl) (mem_cons (u1 n v) Z00)
theorem ok (n:Nat):Z07 Tryz.prog 120 (ent n) :=
 Z0E (c:=cx n) (e:=ent n) (d:=d) (CO _) (mk n) (MX _) an Tryz.func120 (by kernel_rfl) (T n) (l:=[(0,c0)]) (by kernel_rfl) (fun v=>mem_cons (u0 n v) Z00) (fun v=>by kernel_rfl)
end impl_isRel
namespace impl_isShape_1
def F (n:Nat) (r1:Int × List (List ByteArray)):Option Bool :=
 (impl_isRel.F n r1).bind fun r2 =>
 some (!r2)
noncomputable def code:Code:=Tryz.f130.body.getD .skip
abbrev ash:List ASh:=[.ro (.st (.pair (.int .i64) (.sl (.st (.sl (.str))))))]
abbrev rsh:List RSh:=[.ro .bool]
def ent (n:Nat):Z0W:=⟨ash,rsh,fun v=>F n v.1⟩
noncomputable def cx (n:Nat):Ctx:=Z0D Tryz.prog TYS [(120,impl_isRel.ent n)]
noncomputable def d:FnD:=⟨code,6,.nil,[(.tmp 2,.bool,.ro)]⟩
def an:An:=.seq .nil (.seq .nil .nil)
theorem ok (n:Nat):Z07 Tryz.prog 130 (ent n) :=
 Z0H (c:=cx n) (e:=ent n) (d:=d) (CO _) (Z01 (mem_cons (impl_isRel.ok n) Z00)) (MX _) an Tryz.func130 (by kernel_rfl) (by kernel_rfl) (fun v=>by kernel_rfl)
end impl_isShape_1
namespace impl_isShape
def F (n:Nat) (d1:List (Int × List (List ByteArray))):Option Bool :=
 if (decide ((List.length d1:Int) ≤ 20)) = true then
 (slices_ContainsFunc_Rel_Rel.F n d1 (fun a2=>(impl_isShape_1.F n a2.1).bind some)).bind fun r3 =>
 some (!r3)
 else
 some false
noncomputable def code:Code:=Tryz.f71.body.getD .skip
abbrev ash:List ASh:=[.ro (.st (.sl (.st (.pair (.int .i64) (.sl (.st (.sl (.str))))))))]
abbrev rsh:List RSh:=[.ro .bool]
def ent (n:Nat):Z0W:=⟨ash,rsh,fun v=>F n v.1⟩
noncomputable def cx (n:Nat):Ctx:=Z0D Tryz.prog TYS [(129,slices_ContainsFunc_Rel_Rel.ent n),(130,impl_isShape_1.ent n)]
noncomputable def d:FnD:=⟨code,13,.nil,[(.tmp 2,.bool,.ro)]⟩
def an:An:=.seq .nil (.seq .nil .nil)
theorem ok (n:Nat):Z07 Tryz.prog 71 (ent n) :=
 Z0H (c:=cx n) (e:=ent n) (d:=d) (CO _) (Z01 (mem_cons (slices_ContainsFunc_Rel_Rel.ok n) (mem_cons (impl_isShape_1.ok n) Z00))) (MX _) an Tryz.func71 (by kernel_rfl) (by kernel_rfl) (fun v=>by kernel_rfl)
end impl_isShape
namespace impl_copyTuple
def F (n:Nat) (t1:List ByteArray):Option (List ByteArray) :=
 if List.length ([]:List ByteArray) + List.length t1 ≤ lim then
 some ([] ++ t1)
 else
 none
noncomputable def code:Code:=Tryz.f99.body.getD .skip
abbrev ash:List ASh:=[.ro (.st (.sl (.str)))]
abbrev rsh:List RSh:=[.own (.st (.sl (.str))) (.own .ro)]
def ent (n:Nat):Z0W:=⟨ash,rsh,fun v=>F n v.1⟩
noncomputable def cx (n:Nat):Ctx:=Z0D Tryz.prog TYS []
noncomputable def d:FnD:=⟨code,8,.nil,[(.cell 2 49,.st (.sl (.str)),.own .ro)]⟩
def an:An:=.seq .nil (.seq (.reg [(3,.own .ro),(7,.own .ro)]) .nil)
theorem ok (n:Nat):Z07 Tryz.prog 99 (ent n) :=
 Z0H (c:=cx n) (e:=ent n) (d:=d) (CO _) (Z01 (Z00)) (MX _) an Tryz.func99 (by kernel_rfl) (by kernel_rfl) (fun v=>by kernel_rfl)
end impl_copyTuple
namespace impl_copyRel
def l0 (n:Nat) (t2:List (List ByteArray)) (t3:Int) (t5:Int × List (List ByteArray)) (K0:(Int × List (List ByteArray)) → Option (Int × List (List ByteArray))):Nat → Int → (Int × List (List ByteArray)) → Option (Int × List (List ByteArray))
 | 0,_,_=>none
 | k + 1,t4,out6 =>
 if decide (t4 < t3) = true then
 if (0:Int) ≤ t4 ∧ t4 < (List.length t2:Int) then
 (impl_copyTuple.F n (List.getD t2 (Int.toNat t4) [])).bind fun r7 =>
 if List.length out6.2 + List.length [r7] ≤ lim then
 l0 n t2 t3 t5 K0 k (IntKind.i64.wrap (t4 + 1)) (out6.1,out6.2 ++ [r7])
 else
 none
 else
 none
 else
 K0 out6
def F (n:Nat) (r1:Int × List (List ByteArray)):Option (Int × List (List ByteArray)) :=
 l0 n r1.2 (List.length r1.2:Int) (0,[]) (fun out8 =>
 some out8) n 0 (r1.1,[])
noncomputable def code:Code:=Tryz.f131.body.getD .skip
abbrev ash:List ASh:=[.ro (.st (.pair (.int .i64) (.sl (.st (.sl (.str))))))]
abbrev rsh:List RSh:=[.own (.st (.pair (.int .i64) (.sl (.st (.sl (.str)))))) (.pr .ro (.own (.own .ro)))]
def ent (n:Nat):Z0W:=⟨ash,rsh,fun v=>F n v.1⟩
noncomputable def cx (n:Nat):Ctx:=Z0D Tryz.prog TYS [(99,impl_copyTuple.ent n)]
noncomputable def d:FnD:=⟨code,25,.nil,[(.cell 2 65,.st (.pair (.int .i64) (.sl (.st (.sl (.str))))),.pr .ro (.own (.own .ro)))]⟩
noncomputable def kr (n:Nat) (v:AVs ash):KN rsh:=Z1E (cx n) d (Z0Q ash v) (Z0b rsh)
noncomputable def b0:Code:=Code.l (Code.l (Code.r (Code.l (Code.r (Code.r code)))))
def an:An:=.seq (.reg [(2,.pr .ro (.own (.own .ro)))]) (.seq (.reg [(8,.pr .ro (.own (.own .ro))),(3,.pr .ro (.own (.own .ro)))]) (.seq (.seq .nil (.block (some [2,3]) (.cut 0 [2,3,10,11,12]))) (.seq .nil .nil)))
def an0:An:=.seq .nil (.seq (.cond .nil .nil) (.seq (.block (some [2,3,10,11,12]) (.seq .nil (.reg [(19,.own .ro),(20,.own (.own .ro))]))) .nil))
abbrev sh0:ES:=⟨[(2,.pt 2 []),(3,.pt 3 []),(10,.v (.sl (.st (.sl (.str))))),(11,.v (.int .i64)),(12,.v (.int .i64))],[⟨2,.st (.pair (.int .i64) (.sl (.st (.sl (.str))))),.pr .ro (.own (.own .ro)),true,false,none⟩,⟨3,.st (.pair (.int .i64) (.sl (.st (.sl (.str))))),.pr .ro (.own (.own .ro)),true,false,none⟩]⟩
abbrev sh0_0:ES:=⟨[(2,.pt 2 []),(3,.pt 3 [])],[⟨2,.st (.pair (.int .i64) (.sl (.st (.sl (.str))))),.pr .ro (.own (.own .ro)),true,false,none⟩,⟨3,.st (.pair (.int .i64) (.sl (.st (.sl (.str))))),.pr .ro (.own (.own .ro)),true,false,none⟩]⟩
def g0 (n m:Nat) (x:sh0.V) (kn:KN rsh) (kx:KX rsh):Option (RVs rsh):=l0 n x.1.2.2.1 x.1.2.2.2.1 x.2.1 (fun y0=>kx 0 (sh0_0.enc (((()),(()),()),(x.2.1,y0,())))) m x.1.2.2.2.2.1 x.2.2.1
def T (n:Nat):Tab (RVs rsh):=fun j e kn kx=>match j with
 | 0=>ES.on sh0 e fun x=>g0 n n x kn kx
 | _=>none
theorem mk (n:Nat):MOk (cx n):=Z01 (mem_cons (impl_copyTuple.ok n) Z00)
theorem u0 (n:Nat) (v:AVs ash):Z08 (cx n) 25 (T n) (kr n v) 0 (.loop b0) :=
 Z0O (n:=n) (CO _) (mk n) (MX _) an0 [(0,[2,3])] [2,3,10,11,12] sh0 (g0 n) (fun _ _ _=>rfl) (fun _ _ _=>rfl) (fun m x kn kx=>by kernel_rfl) (l:=[]) (by kernel_rfl) (Z00)
theorem ok (n:Nat):Z07 Tryz.prog 131 (ent n) :=
 Z0E (c:=cx n) (e:=ent n) (d:=d) (CO _) (mk n) (MX _) an Tryz.func131 (by kernel_rfl) (T n) (l:=[(0,.loop b0)]) (by kernel_rfl) (fun v=>mem_cons (u0 n v) Z00) (fun v=>by kernel_rfl)
end impl_copyRel
namespace impl_copyDb
def l0 (n:Nat) (t2:List (Int × List (List ByteArray))) (t3:Int) (t5:List (Int × List (List ByteArray))) (K0:(List (Int × List (List ByteArray))) → Option (List (Int × List (List ByteArray)))):Nat → Int → (List (Int × List (List ByteArray))) → Option (List (Int × List (List ByteArray)))
 | 0,_,_=>none
 | k + 1,t4,out6 =>
 if decide (t4 < t3) = true then
 if (0:Int) ≤ t4 ∧ t4 < (List.length t2:Int) then
 (impl_copyRel.F n (List.getD t2 (Int.toNat t4) (0,[]))).bind fun r7 =>
 if List.length out6 + List.length [r7] ≤ lim then
 l0 n t2 t3 t5 K0 k (IntKind.i64.wrap (t4 + 1)) (out6 ++ [r7])
 else
 none
 else
 none
 else
 K0 out6
def F (n:Nat) (d1:List (Int × List (List ByteArray))):Option (List (Int × List (List ByteArray))) :=
 l0 n d1 (List.length d1:Int) [] (fun out8 =>
 some out8) n 0 []
noncomputable def code:Code:=Tryz.f86.body.getD .skip
abbrev ash:List ASh:=[.ro (.st (.sl (.st (.pair (.int .i64) (.sl (.st (.sl (.str))))))))]
abbrev rsh:List RSh:=[.own (.st (.sl (.st (.pair (.int .i64) (.sl (.st (.sl (.str)))))))) (.own (.pr .ro (.own (.own .ro))))]
def ent (n:Nat):Z0W:=⟨ash,rsh,fun v=>F n v.1⟩
noncomputable def cx (n:Nat):Ctx:=Z0D Tryz.prog TYS [(131,impl_copyRel.ent n)]
noncomputable def d:FnD:=⟨code,23,.nil,[(.cell 2 31,.st (.sl (.st (.pair (.int .i64) (.sl (.st (.sl (.str))))))),.own (.pr .ro (.own (.own .ro))))]⟩
noncomputable def kr (n:Nat) (v:AVs ash):KN rsh:=Z1E (cx n) d (Z0Q ash v) (Z0b rsh)
noncomputable def b0:Code:=Code.l (Code.l (Code.r (Code.l (Code.r (Code.r code)))))
def an:An:=.seq (.reg [(2,.own (.pr .ro (.own (.own .ro))))]) (.seq (.reg [(6,.own (.pr .ro (.own (.own .ro)))),(3,.own (.pr .ro (.own (.own .ro))))]) (.seq (.seq .nil (.block (some [2,3]) (.cut 0 [2,3,8,9,10]))) (.seq .nil .nil)))
def an0:An:=.seq .nil (.seq (.cond .nil .nil) (.seq (.block (some [2,3,8,9,10]) (.seq .nil (.reg [(17,.pr .ro (.own (.own .ro))),(18,.own (.pr .ro (.own (.own .ro))))]))) .nil))
abbrev sh0:ES:=⟨[(2,.pt 2 []),(3,.pt 3 []),(8,.v (.sl (.st (.pair (.int .i64) (.sl (.st (.sl (.str)))))))),(9,.v (.int .i64)),(10,.v (.int .i64))],[⟨2,.st (.sl (.st (.pair (.int .i64) (.sl (.st (.sl (.str))))))),.own (.pr .ro (.own (.own .ro))),true,false,none⟩,⟨3,.st (.sl (.st (.pair (.int .i64) (.sl (.st (.sl (.str))))))),.own (.pr .ro (.own (.own .ro))),true,false,none⟩]⟩
abbrev sh0_0:ES:=⟨[(2,.pt 2 []),(3,.pt 3 [])],[⟨2,.st (.sl (.st (.pair (.int .i64) (.sl (.st (.sl (.str))))))),.own (.pr .ro (.own (.own .ro))),true,false,none⟩,⟨3,.st (.sl (.st (.pair (.int .i64) (.sl (.st (.sl (.str))))))),.own (.pr .ro (.own (.own .ro))),true,false,none⟩]⟩
def g0 (n m:Nat) (x:sh0.V) (kn:KN rsh) (kx:KX rsh):Option (RVs rsh):=l0 n x.1.2.2.1 x.1.2.2.2.1 x.2.1 (fun y0=>kx 0 (sh0_0.enc (((()),(()),()),(x.2.1,y0,())))) m x.1.2.2.2.2.1 x.2.2.1
def T (n:Nat):Tab (RVs rsh):=fun j e kn kx=>match j with
 | 0=>ES.on sh0 e fun x=>g0 n n x kn kx
 | _=>none
theorem mk (n:Nat):MOk (cx n):=Z01 (mem_cons (impl_copyRel.ok n) Z00)
theorem u0 (n:Nat) (v:AVs ash):Z08 (cx n) 23 (T n) (kr n v) 0 (.loop b0) :=
 Z0O (n:=n) (CO _) (mk n) (MX _) an0 [(0,[2,3])] [2,3,8,9,10] sh0 (g0 n) (fun _ _ _=>rfl) (fun _ _ _=>rfl) (fun m x kn kx=>by kernel_rfl) (l:=[]) (by kernel_rfl) (Z00)
theorem ok (n:Nat):Z07 Tryz.prog 86 (ent n) :=
 Z0E (c:=cx n) (e:=ent n) (d:=d) (CO _) (mk n) (MX _) an Tryz.func86 (by kernel_rfl) (T n) (l:=[(0,.loop b0)]) (by kernel_rfl) (fun v=>mem_cons (u0 n v) Z00) (fun v=>by kernel_rfl)
end impl_copyDb
namespace slices_BinarySearchFunc_Tuple_Tuple_Tuple
def l0 (n:Nat) (x4:List (List ByteArray)) (cmp5:((List ByteArray) × (List ByteArray) × Unit) → Option Int) (t6:Int) (target9:List ByteArray) (K0:Int → Option (Int × Bool)):Nat → Int → Int → Option (Int × Bool)
 | 0,_,_=>none
 | k + 1,i7,j8 =>
 if decide (i7 < j8) = true then
 if (0:Int) ≤ (IntKind.i64.wrap (Int.fdiv (IntKind.u64.wrap (IntKind.i64.wrap (i7 + j8))) (2 ^ (min (Int.toNat 1) (IntKind.bits IntKind.u64))))) ∧ (IntKind.i64.wrap (Int.fdiv (IntKind.u64.wrap (IntKind.i64.wrap (i7 + j8))) (2 ^ (min (Int.toNat 1) (IntKind.bits IntKind.u64))))) < (List.length x4:Int) then
 (cmp5 (List.getD x4 (Int.toNat (IntKind.i64.wrap (Int.fdiv (IntKind.u64.wrap (IntKind.i64.wrap (i7 + j8))) (2 ^ (min (Int.toNat 1) (IntKind.bits IntKind.u64)))))) [],target9,())).bind fun r10 =>
 if decide (r10 < 0) = true then
 l0 n x4 cmp5 t6 target9 K0 k (IntKind.i64.wrap ((IntKind.i64.wrap (Int.fdiv (IntKind.u64.wrap (IntKind.i64.wrap (i7 + j8))) (2 ^ (min (Int.toNat 1) (IntKind.bits IntKind.u64))))) + 1)) j8
 else
 l0 n x4 cmp5 t6 target9 K0 k i7 (IntKind.i64.wrap (Int.fdiv (IntKind.u64.wrap (IntKind.i64.wrap (i7 + j8))) (2 ^ (min (Int.toNat 1) (IntKind.bits IntKind.u64)))))
 else
 none
 else
 K0 i7
def F (n:Nat) (x1:List (List ByteArray)) (target2:List ByteArray) (cmp3:((List ByteArray) × (List ByteArray) × Unit) → Option Int):Option (Int × Bool) :=
 l0 n x1 cmp3 (List.length x1:Int) target2 (fun i11 =>
 if (decide (i11 < (List.length x1:Int))) = true then
 if (0:Int) ≤ i11 ∧ i11 < (List.length x1:Int) then
 (cmp3 (List.getD x1 (Int.toNat i11) [],target2,())).bind fun r12 =>
 some (i11,decide (r12 = 0))
 else
 none
 else
 some (i11,false)) n 0 (List.length x1:Int)
noncomputable def code:Code:=Tryz.f138.body.getD .skip
abbrev ash:List ASh:=[.ro (.sl (.st (.sl (.str)))),.ro (.st (.sl (.str))),.fn [.st (.sl (.str)),.st (.sl (.str))] (.int .i64)]
abbrev rsh:List RSh:=[.ro (.int .i64),.ro .bool]
def ent (n:Nat):Z0W:=⟨ash,rsh,fun v=>F n v.1 v.2.1 v.2.2.1⟩
noncomputable def cx (n:Nat):Ctx:=Z0D Tryz.prog TYS []
noncomputable def d:FnD:=⟨code,49,.nil,[(.tmp 6,.int .i64,.ro),(.tmp 7,.bool,.ro)]⟩
noncomputable def kr (n:Nat) (v:AVs ash):KN rsh:=Z1E (cx n) d (Z0Q ash v) (Z0b rsh)
noncomputable def b0:Code:=Code.l (Code.l (Code.l (Code.r (Code.r (Code.r code)))))
def an:An:=.seq .nil (.seq .nil (.seq .nil (.seq (.block (some [0,2,4,8,9]) (.cut 0 [0,2,4,8,9,10])) (.seq .nil .nil))))
def an0:An:=.seq (.seq .nil (.cond .nil .nil)) (.block (some [0,2,4,8,9,10]) (.seq .nil (.seq .nil (.cond .nil .nil))))
abbrev sh0:ES:=⟨[(0,.v (.sl (.st (.sl (.str))))),(2,.clo [.st (.sl (.str)),.st (.sl (.str))] (.int .i64)),(4,.pt 4 []),(8,.v (.int .i64)),(9,.v (.int .i64)),(10,.v (.int .i64))],[⟨4,.st (.sl (.str)),.ro,true,false,none⟩]⟩
abbrev sh0_0:ES:=⟨[(0,.v (.sl (.st (.sl (.str))))),(2,.clo [.st (.sl (.str)),.st (.sl (.str))] (.int .i64)),(4,.pt 4 []),(8,.v (.int .i64)),(9,.v (.int .i64))],[⟨4,.st (.sl (.str)),.ro,true,false,none⟩]⟩
def g0 (n m:Nat) (x:sh0.V) (kn:KN rsh) (kx:KX rsh):Option (RVs rsh):=l0 n x.1.1 x.1.2.1 x.1.2.2.2.1 x.2.1 (fun y0=>kx 0 (sh0_0.enc ((x.1.1,x.1.2.1,(()),x.1.2.2.2.1,y0,()),(x.2.1,())))) m x.1.2.2.2.2.1 x.1.2.2.2.2.2.1
def T (n:Nat):Tab (RVs rsh):=fun j e kn kx=>match j with
 | 0=>ES.on sh0 e fun x=>g0 n n x kn kx
 | _=>none
theorem mk (n:Nat):MOk (cx n):=Z01 (Z00)
theorem u0 (n:Nat) (v:AVs ash):Z08 (cx n) 49 (T n) (kr n v) 0 (.loop b0) :=
 Z0O (n:=n) (CO _) (mk n) (MX _) an0 [(0,[0,2,4,8,9])] [0,2,4,8,9,10] sh0 (g0 n) (fun _ _ _=>rfl) (fun _ _ _=>rfl) (fun m x kn kx=>by kernel_rfl) (l:=[]) (by kernel_rfl) (Z00)
theorem ok (n:Nat):Z07 Tryz.prog 138 (ent n) :=
 Z0E (c:=cx n) (e:=ent n) (d:=d) (CO _) (mk n) (MX _) an Tryz.func138 (by kernel_rfl) (T n) (l:=[(0,.loop b0)]) (by kernel_rfl) (fun v=>mem_cons (u0 n v) Z00) (fun v=>by kernel_rfl)
end slices_BinarySearchFunc_Tuple_Tuple_Tuple
namespace impl_RelPut
def j0 (n:Nat) (r5:Int × List (List ByteArray)) (t6:List ByteArray) (t7:Int × List (List ByteArray)):Option ((Int × List (List ByteArray)) × Bool) :=
 (impl_copyRel.F n r5).bind fun r8 =>
 (slices_BinarySearchFunc_Tuple_Tuple_Tuple.F n r8.2 t6 (fun a9=>(impl_compareTuples.F n a9.1 a9.2.1).bind some)).bind fun r10 =>
 if r10.2 = true then
 some (r8,false)
 else
 if decide ((List.length r8.2:Int) = 400) = true then
 some ((0,[]),false)
 else
 (impl_copyTuple.F n t6).bind fun r11 =>
 (slices_Insert_Tuple_Tuple.F n r8.2 r10.1 [r11]).bind fun r12 =>
 some ((r8.1,r12),true)
def F (n:Nat) (r1:Int × List (List ByteArray)) (t2:List ByteArray):Option ((Int × List (List ByteArray)) × Bool) :=
 (impl_isRel.F n r1).bind fun r3 =>
 if (!r3) = false then
 (impl_isTuple.F n t2).bind fun r4 =>
 if (!r4) = false then
 if (!decide ((List.length t2:Int) = r1.1)) = true then
 some ((0,[]),false)
 else
 j0 n r1 t2 (0,[])
 else
 some ((0,[]),false)
 else
 some ((0,[]),false)
noncomputable def code:Code:=Tryz.f88.body.getD .skip
abbrev ash:List ASh:=[.ro (.st (.pair (.int .i64) (.sl (.st (.sl (.str)))))),.ro (.st (.sl (.str)))]
abbrev rsh:List RSh:=[.own (.st (.pair (.int .i64) (.sl (.st (.sl (.str)))))) (.pr .ro (.own (.own .ro))),.ro .bool]
def ent (n:Nat):Z0W:=⟨ash,rsh,fun v=>F n v.1 v.2.1⟩
noncomputable def cx (n:Nat):Ctx:=Z0D Tryz.prog TYS [(99,impl_copyTuple.ent n),(120,impl_isRel.ent n),(131,impl_copyRel.ent n),(137,impl_isTuple.ent n),(138,slices_BinarySearchFunc_Tuple_Tuple_Tuple.ent n),(139,impl_compareTuples.ent n),(140,slices_Insert_Tuple_Tuple.ent n)]
noncomputable def d:FnD:=⟨code,51,.nil,[(.cell 4 65,.st (.pair (.int .i64) (.sl (.st (.sl (.str))))),.pr .ro (.own (.own .ro))),(.tmp 5,.bool,.ro)]⟩
noncomputable def kr (n:Nat) (v:AVs ash):KN rsh:=Z1E (cx n) d (Z0Q ash v) (Z0b rsh)
noncomputable def c0:Code:=(Code.r (Code.r code))
def an:An:=.seq (.reg [(4,.pr .ro (.own (.own .ro)))]) (.seq (.seq .nil (.cond (.seq (.reg [(25,.pr .ro (.own (.own .ro)))]) .nil) .nil)) (.cut 0 [2,3,4]))
def an0:An:=.seq (.reg [(27,.pr .ro (.own (.own .ro))),(6,.pr .ro (.own .ro))]) (.seq .nil (.seq (.seq .nil (.cond (.seq .nil .nil) .nil)) (.seq (.seq .nil (.cond (.seq (.reg [(41,.pr .ro (.own (.own .ro)))]) .nil) .nil)) (.seq (.reg [(46,.own .ro),(47,.own (.own .ro)),(48,.own (.own .ro))]) (.seq .nil .nil)))))
abbrev sh0:ES:=⟨[(2,.pt 2 []),(3,.pt 3 []),(4,.pt 4 [])],[⟨2,.st (.pair (.int .i64) (.sl (.st (.sl (.str))))),.ro,true,false,none⟩,⟨3,.st (.sl (.str)),.ro,true,false,none⟩,⟨4,.st (.pair (.int .i64) (.sl (.st (.sl (.str))))),.pr .ro (.own (.own .ro)),true,false,none⟩]⟩
def g0 (n m:Nat) (x:sh0.V) (kn:KN rsh) (kx:KX rsh):Option (RVs rsh):=j0 n x.2.1 x.2.2.1 x.2.2.2.1
def T (n:Nat):Tab (RVs rsh):=fun j e kn kx=>match j with
 | 0=>ES.on sh0 e fun x=>g0 n n x kn kx
 | _=>none
theorem mk (n:Nat):MOk (cx n):=Z01 (mem_cons (impl_copyTuple.ok n) (mem_cons (impl_isRel.ok n) (mem_cons (impl_copyRel.ok n) (mem_cons (impl_isTuple.ok n) (mem_cons (slices_BinarySearchFunc_Tuple_Tuple_Tuple.ok n) (mem_cons (impl_compareTuples.ok n) (mem_cons (slices_Insert_Tuple_Tuple.ok n) Z00)))))))
theorem u0 (n:Nat) (v:AVs ash):Z08 (cx n) 51 (T n) (kr n v) 0 (c0) :=
 Z0p (CO _) (mk n) (MX _) an0 [] [4,5] sh0 (g0 n n) (fun _ _ _=>rfl) (fun x kn kx=>by kernel_rfl) (l:=[]) (by kernel_rfl) (Z00)
theorem ok (n:Nat):Z07 Tryz.prog 88 (ent n) :=
 Z0E (c:=cx n) (e:=ent n) (d:=d) (CO _) (mk n) (MX _) an Tryz.func88 (by kernel_rfl) (T n) (l:=[(0,c0)]) (by kernel_rfl) (fun v=>mem_cons (u0 n v) Z00) (fun v=>by kernel_rfl)
end impl_RelPut
namespace slices_IndexFunc_Tuple_Tuple
def l0 (n:Nat) (s3:List (List ByteArray)) (f4:((List ByteArray) × Unit) → Option Bool) (t5:Int) (K0:Unit → Option Int):Nat → Int → Option Int
 | 0,_=>none
 | k + 1,t6 =>
 if decide (t6 < t5) = true then
 if (0:Int) ≤ t6 ∧ t6 < (List.length s3:Int) then
 (f4 (List.getD s3 (Int.toNat t6) [],())).bind fun r7 =>
 if r7 = true then
 some t6
 else
 l0 n s3 f4 t5 K0 k (IntKind.i64.wrap (t6 + 1))
 else
 none
 else
 K0 ()
def F (n:Nat) (s1:List (List ByteArray)) (f2:((List ByteArray) × Unit) → Option Bool):Option Int :=
 l0 n s1 f2 (List.length s1:Int) (fun _ =>
 some (-1)) n 0
noncomputable def code:Code:=Tryz.f143.body.getD .skip
abbrev ash:List ASh:=[.ro (.sl (.st (.sl (.str)))),.fn [.st (.sl (.str))] .bool]
abbrev rsh:List RSh:=[.ro (.int .i64)]
def ent (n:Nat):Z0W:=⟨ash,rsh,fun v=>F n v.1 v.2.1⟩
noncomputable def cx (n:Nat):Ctx:=Z0D Tryz.prog TYS []
noncomputable def d:FnD:=⟨code,19,.nil,[(.tmp 4,.int .i64,.ro)]⟩
noncomputable def kr (n:Nat) (v:AVs ash):KN rsh:=Z1E (cx n) d (Z0Q ash v) (Z0b rsh)
noncomputable def b0:Code:=Code.l (Code.l (Code.r (Code.l (Code.r code))))
def an:An:=.seq .nil (.seq (.seq .nil (.block (some []) (.cut 0 [0,1,7,8]))) (.seq .nil .nil))
def an0:An:=.seq .nil (.seq (.cond .nil .nil) (.seq (.block (some [0,1,7,8]) (.seq .nil (.seq .nil (.cond (.seq .nil .nil) .nil)))) .nil))
abbrev sh0:ES:=⟨[(0,.v (.sl (.st (.sl (.str))))),(1,.clo [.st (.sl (.str))] .bool),(7,.v (.int .i64)),(8,.v (.int .i64))],[]⟩
abbrev sh0_0:ES:=⟨[],[]⟩
def g0 (n m:Nat) (x:sh0.V) (kn:KN rsh) (kx:KX rsh):Option (RVs rsh):=l0 n x.1.1 x.1.2.1 x.1.2.2.1 (fun _=>kx 0 (sh0_0.enc ((()),(())))) m x.1.2.2.2.1
def T (n:Nat):Tab (RVs rsh):=fun j e kn kx=>match j with
 | 0=>ES.on sh0 e fun x=>g0 n n x kn kx
 | _=>none
theorem mk (n:Nat):MOk (cx n):=Z01 (Z00)
theorem u0 (n:Nat) (v:AVs ash):Z08 (cx n) 19 (T n) (kr n v) 0 (.loop b0) :=
 Z0O (n:=n) (CO _) (mk n) (MX _) an0 [(0,[])] [0,1,7,8] sh0 (g0 n) (fun _ _ _=>rfl) (fun _ _ _=>rfl) (fun m x kn kx=>by kernel_rfl) (l:=[]) (by kernel_rfl) (Z00)
theorem ok (n:Nat):Z07 Tryz.prog 143 (ent n) :=
 Z0E (c:=cx n) (e:=ent n) (d:=d) (CO _) (mk n) (MX _) an Tryz.func143 (by kernel_rfl) (T n) (l:=[(0,.loop b0)]) (by kernel_rfl) (fun v=>mem_cons (u0 n v) Z00) (fun v=>by kernel_rfl)
end slices_IndexFunc_Tuple_Tuple
namespace slices_ContainsFunc_Tuple_Tuple
def F (n:Nat) (s1:List (List ByteArray)) (f2:((List ByteArray) × Unit) → Option Bool):Option Bool :=
 (slices_IndexFunc_Tuple_Tuple.F n s1 f2).bind fun r3 =>
 some (decide (r3 ≥ 0))
noncomputable def code:Code:=Tryz.f141.body.getD .skip
abbrev ash:List ASh:=[.ro (.sl (.st (.sl (.str)))),.fn [.st (.sl (.str))] .bool]
abbrev rsh:List RSh:=[.ro .bool]
def ent (n:Nat):Z0W:=⟨ash,rsh,fun v=>F n v.1 v.2.1⟩
noncomputable def cx (n:Nat):Ctx:=Z0D Tryz.prog TYS [(143,slices_IndexFunc_Tuple_Tuple.ent n)]
noncomputable def d:FnD:=⟨code,9,.nil,[(.tmp 4,.bool,.ro)]⟩
def an:An:=.seq .nil (.seq .nil .nil)
theorem ok (n:Nat):Z07 Tryz.prog 141 (ent n) :=
 Z0H (c:=cx n) (e:=ent n) (d:=d) (CO _) (Z01 (mem_cons (slices_IndexFunc_Tuple_Tuple.ok n) Z00)) (MX _) an Tryz.func141 (by kernel_rfl) (by kernel_rfl) (fun v=>by kernel_rfl)
end slices_ContainsFunc_Tuple_Tuple
namespace slices_Equal_string_string
def l0 (n:Nat) (s13:List ByteArray) (s24:List ByteArray) (t5:Int) (K0:Unit → Option Bool):Nat → Int → Option Bool
 | 0,_=>none
 | k + 1,t6 =>
 if decide (t6 < t5) = true then
 if (0:Int) ≤ t6 ∧ t6 < (List.length s13:Int) then
 if (0:Int) ≤ t6 ∧ t6 < (List.length s24:Int) then
 if (!(Abs.seq (List.getD s13 (Int.toNat t6) ByteArray.empty) (List.getD s24 (Int.toNat t6) ByteArray.empty))) = true then
 some false
 else
 l0 n s13 s24 t5 K0 k (IntKind.i64.wrap (t6 + 1))
 else
 none
 else
 none
 else
 K0 ()
def F (n:Nat) (s11:List ByteArray) (s22:List ByteArray):Option Bool :=
 if (!decide ((List.length s11:Int) = (List.length s22:Int))) = true then
 some false
 else
 l0 n s11 s22 (List.length s11:Int) (fun _ =>
 some true) n 0
noncomputable def code:Code:=Tryz.f144.body.getD .skip
abbrev ash:List ASh:=[.ro (.sl (.str)),.ro (.sl (.str))]
abbrev rsh:List RSh:=[.ro .bool]
def ent (n:Nat):Z0W:=⟨ash,rsh,fun v=>F n v.1 v.2.1⟩
noncomputable def cx (n:Nat):Ctx:=Z0D Tryz.prog TYS []
noncomputable def d:FnD:=⟨code,26,.nil,[(.tmp 4,.bool,.ro)]⟩
noncomputable def kr (n:Nat) (v:AVs ash):KN rsh:=Z1E (cx n) d (Z0Q ash v) (Z0b rsh)
noncomputable def b0:Code:=Code.l (Code.l (Code.r (Code.l (Code.r (Code.r code)))))
def an:An:=.seq .nil (.seq (.seq .nil (.cond (.seq .nil .nil) .nil)) (.seq (.seq .nil (.block (some []) (.cut 0 [0,1,12,13]))) (.seq .nil .nil)))
def an0:An:=.seq .nil (.seq (.cond .nil .nil) (.seq (.block (some [0,1,12,13]) (.seq .nil (.seq .nil (.cond (.seq .nil .nil) .nil)))) .nil))
abbrev sh0:ES:=⟨[(0,.v (.sl (.str))),(1,.v (.sl (.str))),(12,.v (.int .i64)),(13,.v (.int .i64))],[]⟩
abbrev sh0_0:ES:=⟨[],[]⟩
def g0 (n m:Nat) (x:sh0.V) (kn:KN rsh) (kx:KX rsh):Option (RVs rsh):=l0 n x.1.1 x.1.2.1 x.1.2.2.1 (fun _=>kx 0 (sh0_0.enc ((()),(())))) m x.1.2.2.2.1
def T (n:Nat):Tab (RVs rsh):=fun j e kn kx=>match j with
 | 0=>ES.on sh0 e fun x=>g0 n n x kn kx
 | _=>none
theorem mk (n:Nat):MOk (cx n):=Z01 (Z00)
theorem u0 (n:Nat) (v:AVs ash):Z08 (cx n) 26 (T n) (kr n v) 0 (.loop b0) :=
 Z0O (n:=n) (CO _) (mk n) (MX _) an0 [(0,[])] [0,1,12,13] sh0 (g0 n) (fun _ _ _=>rfl) (fun _ _ _=>rfl) (fun m x kn kx=>by kernel_rfl) (l:=[]) (by kernel_rfl) (Z00)
theorem ok (n:Nat):Z07 Tryz.prog 144 (ent n) :=
 Z0E (c:=cx n) (e:=ent n) (d:=d) (CO _) (mk n) (MX _) an Tryz.func144 (by kernel_rfl) (T n) (l:=[(0,.loop b0)]) (by kernel_rfl) (fun v=>mem_cons (u0 n v) Z00) (fun v=>by kernel_rfl)
end slices_Equal_string_string
namespace impl_sameTuple
def F (n:Nat) (a1:List ByteArray) (b2:List ByteArray):Option Bool :=
 (slices_Equal_string_string.F n a1 b2).bind fun r3 =>
 some r3
noncomputable def code:Code:=Tryz.f92.body.getD .skip
abbrev ash:List ASh:=[.ro (.st (.sl (.str))),.ro (.st (.sl (.str)))]
abbrev rsh:List RSh:=[.ro .bool]
def ent (n:Nat):Z0W:=⟨ash,rsh,fun v=>F n v.1 v.2.1⟩
noncomputable def cx (n:Nat):Ctx:=Z0D Tryz.prog TYS [(144,slices_Equal_string_string.ent n)]
noncomputable def d:FnD:=⟨code,10,.nil,[(.tmp 4,.bool,.ro)]⟩
def an:An:=.seq .nil (.seq .nil .nil)
theorem ok (n:Nat):Z07 Tryz.prog 92 (ent n) :=
 Z0H (c:=cx n) (e:=ent n) (d:=d) (CO _) (Z01 (mem_cons (slices_Equal_string_string.ok n) Z00)) (MX _) an Tryz.func92 (by kernel_rfl) (by kernel_rfl) (fun v=>by kernel_rfl)
end impl_sameTuple
namespace impl_Rel_has_1
def F (n:Nat) (o1:List ByteArray) (t2:List ByteArray):Option Bool :=
 (impl_sameTuple.F n o1 t2).bind fun r3 =>
 some r3
noncomputable def code:Code:=Tryz.f142.body.getD .skip
abbrev ash:List ASh:=[.ro (.st (.sl (.str))),.rp (.st (.sl (.str)))]
abbrev rsh:List RSh:=[.ro .bool]
def ent (n:Nat):Z0W:=⟨ash,rsh,fun v=>F n v.1 v.2.1⟩
noncomputable def cx (n:Nat):Ctx:=Z0D Tryz.prog TYS [(92,impl_sameTuple.ent n)]
noncomputable def d:FnD:=⟨code,7,.nil,[(.tmp 3,.bool,.ro)]⟩
def an:An:=.seq .nil (.seq .nil .nil)
theorem ok (n:Nat):Z07 Tryz.prog 142 (ent n) :=
 Z0H (c:=cx n) (e:=ent n) (d:=d) (CO _) (Z01 (mem_cons (impl_sameTuple.ok n) Z00)) (MX _) an Tryz.func142 (by kernel_rfl) (by kernel_rfl) (fun v=>by kernel_rfl)
end impl_Rel_has_1
namespace impl_Rel_has
def F (n:Nat) (r1:Int × List (List ByteArray)) (t2:List ByteArray):Option Bool :=
 (slices_ContainsFunc_Tuple_Tuple.F n r1.2 (fun a3=>(impl_Rel_has_1.F n a3.1 t2).bind some)).bind fun r4 =>
 some r4
noncomputable def code:Code:=Tryz.f89.body.getD .skip
abbrev ash:List ASh:=[.ro (.st (.pair (.int .i64) (.sl (.st (.sl (.str)))))),.ro (.st (.sl (.str)))]
abbrev rsh:List RSh:=[.ro .bool]
def ent (n:Nat):Z0W:=⟨ash,rsh,fun v=>F n v.1 v.2.1⟩
noncomputable def cx (n:Nat):Ctx:=Z0D Tryz.prog TYS [(141,slices_ContainsFunc_Tuple_Tuple.ent n),(142,impl_Rel_has_1.ent n)]
noncomputable def d:FnD:=⟨code,9,.nil,[(.tmp 4,.bool,.ro)]⟩
def an:An:=.seq .nil (.seq .nil .nil)
theorem ok (n:Nat):Z07 Tryz.prog 89 (ent n) :=
 Z0H (c:=cx n) (e:=ent n) (d:=d) (CO _) (Z01 (mem_cons (slices_ContainsFunc_Tuple_Tuple.ok n) (mem_cons (impl_Rel_has_1.ok n) Z00))) (MX _) an Tryz.func89 (by kernel_rfl) (by kernel_rfl) (fun v=>by kernel_rfl)
end impl_Rel_has
namespace impl_Apply_1
def F (n:Nat) (t1:List ByteArray) (t2:Int × (List ByteArray) × Bool):Option Bool :=
 (impl_sameTuple.F n t1 t2.2.1).bind fun r3 =>
 some r3
noncomputable def code:Code:=Tryz.f91.body.getD .skip
abbrev ash:List ASh:=[.ro (.st (.sl (.str))),.rp (.st (.pair (.int .i64) (.pair (.st (.sl (.str))) (.bool))))]
abbrev rsh:List RSh:=[.ro .bool]
def ent (n:Nat):Z0W:=⟨ash,rsh,fun v=>F n v.1 v.2.1⟩
noncomputable def cx (n:Nat):Ctx:=Z0D Tryz.prog TYS [(92,impl_sameTuple.ent n)]
noncomputable def d:FnD:=⟨code,8,.nil,[(.tmp 3,.bool,.ro)]⟩
def an:An:=.seq .nil (.seq .nil .nil)
theorem ok (n:Nat):Z07 Tryz.prog 91 (ent n) :=
 Z0H (c:=cx n) (e:=ent n) (d:=d) (CO _) (Z01 (mem_cons (impl_sameTuple.ok n) Z00)) (MX _) an Tryz.func91 (by kernel_rfl) (by kernel_rfl) (fun v=>by kernel_rfl)
end impl_Apply_1
namespace impl_Apply
def l0 (n:Nat) (t5:List (Int × (List ByteArray) × Bool)) (t6:Int) (t8:List (Int × List (List ByteArray))) (K0:(List (Int × List (List ByteArray))) → Option ((List (Int × List (List ByteArray))) × Bool)):Nat → Int → (List (Int × List (List ByteArray))) → Option ((List (Int × List (List ByteArray))) × Bool)
 | 0,_,_=>none
 | k + 1,t7,t9 =>
 if decide (t7 < t6) = true then
 if (0:Int) ≤ t7 ∧ t7 < (List.length t5:Int) then
 (impl_in.F n ((List.getD t5 (Int.toNat t7) (0,([],false))).1) 0 (IntKind.i64.wrap ((List.length t9:Int) - 1))).bind fun r10 =>
 if (!r10) = true then
 some ([],false)
 else
 if (0:Int) ≤ ((List.getD t5 (Int.toNat t7) (0,([],false))).1) ∧ ((List.getD t5 (Int.toNat t7) (0,([],false))).1) < (List.length t9:Int) then
 if (((List.getD t5 (Int.toNat t7) (0,([],false))).2).2) = true then
 (impl_RelPut.F n (List.getD t9 (Int.toNat ((List.getD t5 (Int.toNat t7) (0,([],false))).1)) (0,[])) (((List.getD t5 (Int.toNat t7) (0,([],false))).2).1)).bind fun r11 =>
 if (!r11.2) = true then
 some ([],false)
 else
 let w12:List (Int × List (List ByteArray)):=List.set t9 (Int.toNat ((List.getD t5 (Int.toNat t7) (0,([],false))).1)) r11.1
 l0 n t5 t6 t8 K0 k (IntKind.i64.wrap (t7 + 1)) w12
 else
 (impl_Rel_has.F n (List.getD t9 (Int.toNat ((List.getD t5 (Int.toNat t7) (0,([],false))).1)) (0,[])) (((List.getD t5 (Int.toNat t7) (0,([],false))).2).1)).bind fun r13 =>
 if (!r13) = true then
 some ([],false)
 else
 (slices_DeleteFunc_Tuple_Tuple.F n ((List.getD t9 (Int.toNat ((List.getD t5 (Int.toNat t7) (0,([],false))).1)) (0,[])).2) (fun a14=>(impl_Apply_1.F n a14.1 (List.getD t5 (Int.toNat t7) (0,([],false)))).bind some)).bind fun r15 =>
 if ((List.getD t5 (Int.toNat t7) (0,([],false))).1) = ((List.getD t5 (Int.toNat t7) (0,([],false))).1) then
 let w16:List (Int × List (List ByteArray)):=List.set t9 (Int.toNat ((List.getD t5 (Int.toNat t7) (0,([],false))).1)) ((List.getD t9 (Int.toNat ((List.getD t5 (Int.toNat t7) (0,([],false))).1)) (0,[])).1,r15)
 l0 n t5 t6 t8 K0 k (IntKind.i64.wrap (t7 + 1)) w16
 else
 none
 else
 none
 else
 none
 else
 K0 t9
def F (n:Nat) (t1:List (Int × List (List ByteArray))) (t2:List (Int × (List ByteArray) × Bool)):Option ((List (Int × List (List ByteArray))) × Bool) :=
 (impl_isShape.F n t1).bind fun r3 =>
 if (!r3) = true then
 some ([],false)
 else
 (impl_copyDb.F n t1).bind fun r4 =>
 l0 n t2 (List.length t2:Int) [] (fun t17 =>
 some (t17,true)) n 0 r4
noncomputable def code:Code:=Tryz.f26.body.getD .skip
abbrev ash:List ASh:=[.ro (.st (.sl (.st (.pair (.int .i64) (.sl (.st (.sl (.str)))))))),.ro (.sl (.st (.pair (.int .i64) (.pair (.st (.sl (.str))) (.bool)))))]
abbrev rsh:List RSh:=[.ro (.st (.sl (.st (.pair (.int .i64) (.sl (.st (.sl (.str)))))))),.ro .bool]
def ent (n:Nat):Z0W:=⟨ash,rsh,fun v=>F n v.1 v.2.1⟩
noncomputable def cx (n:Nat):Ctx:=Z0D Tryz.prog TYS [(71,impl_isShape.ent n),(86,impl_copyDb.ent n),(87,impl_in.ent n),(88,impl_RelPut.ent n),(89,impl_Rel_has.ent n),(90,slices_DeleteFunc_Tuple_Tuple.ent n),(91,impl_Apply_1.ent n)]
noncomputable def d:FnD:=⟨code,74,.nil,[(.cell 4 31,.st (.sl (.st (.pair (.int .i64) (.sl (.st (.sl (.str))))))),.ro),(.tmp 5,.bool,.ro)]⟩
noncomputable def kr (n:Nat) (v:AVs ash):KN rsh:=Z1E (cx n) d (Z0Q ash v) (Z0b rsh)
noncomputable def b0:Code:=Code.l (Code.l (Code.r (Code.l (Code.r (Code.r (Code.r code))))))
def an:An:=.seq .nil (.seq (.seq .nil (.cond (.seq .nil .nil) .nil)) (.seq (.reg [(17,.own (.pr .ro (.own (.own .ro)))),(6,.own .ro)]) (.seq (.seq .nil (.block (some [4,6]) (.cut 0 [4,6,18,19,20]))) (.seq .nil .nil))))
def an0:An:=.seq .nil (.seq (.cond .nil .nil) (.seq (.block (some [4,6,18,19,20]) (.seq .nil (.seq (.seq .nil (.cond (.seq .nil .nil) .nil)) (.seq .nil (.seq (.seq .nil (.cond (.seq (.reg [(4142,.pr .ro (.own (.own .ro))),(10,.pr .ro (.own .ro))]) (.seq (.seq .nil (.cond (.seq .nil .nil) .nil)) (.seq .nil .nil))) .nil)) (.seq (.seq .nil (.cond (.seq .nil .nil) .nil)) (.reg [(69,.own (.own .ro))]))))))) .nil))
abbrev sh0:ES:=⟨[(4,.pt 4 []),(6,.pt 6 []),(18,.v (.sl (.st (.pair (.int .i64) (.pair (.st (.sl (.str))) (.bool)))))),(19,.v (.int .i64)),(20,.v (.int .i64))],[⟨4,.st (.sl (.st (.pair (.int .i64) (.sl (.st (.sl (.str))))))),.ro,true,false,none⟩,⟨6,.st (.sl (.st (.pair (.int .i64) (.sl (.st (.sl (.str))))))),.own (.pr .ro (.own (.own .ro))),true,false,none⟩]⟩
abbrev sh0_0:ES:=⟨[(4,.pt 4 []),(6,.pt 6 [])],[⟨4,.st (.sl (.st (.pair (.int .i64) (.sl (.st (.sl (.str))))))),.ro,true,false,none⟩,⟨6,.st (.sl (.st (.pair (.int .i64) (.sl (.st (.sl (.str))))))),.own (.pr .ro (.own (.own .ro))),true,false,none⟩]⟩
def g0 (n m:Nat) (x:sh0.V) (kn:KN rsh) (kx:KX rsh):Option (RVs rsh):=l0 n x.1.2.2.1 x.1.2.2.2.1 x.2.1 (fun y0=>kx 0 (sh0_0.enc (((()),(()),()),(x.2.1,y0,())))) m x.1.2.2.2.2.1 x.2.2.1
def T (n:Nat):Tab (RVs rsh):=fun j e kn kx=>match j with
 | 0=>ES.on sh0 e fun x=>g0 n n x kn kx
 | _=>none
theorem mk (n:Nat):MOk (cx n):=Z01 (mem_cons (impl_isShape.ok n) (mem_cons (impl_copyDb.ok n) (mem_cons (impl_in.ok n) (mem_cons (impl_RelPut.ok n) (mem_cons (impl_Rel_has.ok n) (mem_cons (slices_DeleteFunc_Tuple_Tuple.ok n) (mem_cons (impl_Apply_1.ok n) Z00)))))))
theorem u0 (n:Nat) (v:AVs ash):Z08 (cx n) 74 (T n) (kr n v) 0 (.loop b0) :=
 Z0O (n:=n) (CO _) (mk n) (MX _) an0 [(0,[4,6])] [4,6,18,19,20] sh0 (g0 n) (fun _ _ _=>rfl) (fun _ _ _=>rfl) (fun m x kn kx=>by kernel_rfl) (l:=[]) (by kernel_rfl) (Z00)
theorem ok (n:Nat):Z07 Tryz.prog 26 (ent n) :=
 Z0E (c:=cx n) (e:=ent n) (d:=d) (CO _) (mk n) (MX _) an Tryz.func26 (by kernel_rfl) (T n) (l:=[(0,.loop b0)]) (by kernel_rfl) (fun v=>mem_cons (u0 n v) Z00) (fun v=>by kernel_rfl)
end impl_Apply
namespace spec_l02Copy
def l0 (n:Nat) (r3:Int × List (List ByteArray)) (t4:Int × List (List ByteArray)) (K0:(Int × List (List ByteArray)) → Option (Int × List (List ByteArray))):Nat → Int → (Int × List (List ByteArray)) → Option (Int × List (List ByteArray))
 | 0,_,_=>none
 | k + 1,i2,out5 =>
 if decide (i2 < (List.length r3.2:Int)) = true then
 if (0:Int) ≤ i2 ∧ i2 < (List.length r3.2:Int) then
 (spec_l02Tuple.F n (List.getD r3.2 (Int.toNat i2) [])).bind fun r6 =>
 if List.length out5.2 + List.length [r6] ≤ lim then
 l0 n r3 t4 K0 k (IntKind.i64.wrap (i2 + 1)) (out5.1,out5.2 ++ [r6])
 else
 none
 else
 none
 else
 K0 out5
def F (n:Nat) (r1:Int × List (List ByteArray)):Option (Int × List (List ByteArray)) :=
 l0 n r1 (0,[]) (fun out7 =>
 some out7) n 0 (r1.1,[])
noncomputable def code:Code:=Tryz.f145.body.getD .skip
abbrev ash:List ASh:=[.ro (.st (.pair (.int .i64) (.sl (.st (.sl (.str))))))]
abbrev rsh:List RSh:=[.ro (.st (.pair (.int .i64) (.sl (.st (.sl (.str))))))]
def ent (n:Nat):Z0W:=⟨ash,rsh,fun v=>F n v.1⟩
noncomputable def cx (n:Nat):Ctx:=Z0D Tryz.prog TYS [(117,spec_l02Tuple.ent n)]
noncomputable def d:FnD:=⟨code,27,.nil,[(.cell 2 65,.st (.pair (.int .i64) (.sl (.st (.sl (.str))))),.ro)]⟩
noncomputable def kr (n:Nat) (v:AVs ash):KN rsh:=Z1E (cx n) d (Z0Q ash v) (Z0b rsh)
noncomputable def b0:Code:=Code.l (Code.l (Code.r (Code.l (Code.r (Code.r code)))))
def an:An:=.seq .nil (.seq (.reg [(7,.pr .ro (.own .ro)),(3,.pr .ro (.own .ro))]) (.seq (.seq .nil (.block (some [2,3]) (.cut 0 [1,2,3,4]))) (.seq .nil .nil)))
def an0:An:=.seq (.seq .nil (.cond .nil .nil)) (.seq (.block (some [1,2,3,4]) .nil) .nil)
abbrev sh0:ES:=⟨[(1,.pt 1 []),(2,.pt 2 []),(3,.pt 3 []),(4,.v (.int .i64))],[⟨1,.st (.pair (.int .i64) (.sl (.st (.sl (.str))))),.ro,true,false,none⟩,⟨2,.st (.pair (.int .i64) (.sl (.st (.sl (.str))))),.ro,true,false,none⟩,⟨3,.st (.pair (.int .i64) (.sl (.st (.sl (.str))))),.pr .ro (.own .ro),true,false,none⟩]⟩
abbrev sh0_0:ES:=⟨[(2,.pt 2 []),(3,.pt 3 [])],[⟨2,.st (.pair (.int .i64) (.sl (.st (.sl (.str))))),.ro,true,false,none⟩,⟨3,.st (.pair (.int .i64) (.sl (.st (.sl (.str))))),.pr .ro (.own .ro),true,false,none⟩]⟩
def g0 (n m:Nat) (x:sh0.V) (kn:KN rsh) (kx:KX rsh):Option (RVs rsh):=l0 n x.2.1 x.2.2.1 (fun y0=>kx 0 (sh0_0.enc (((()),(()),()),(x.2.2.1,y0,())))) m x.1.2.2.2.1 x.2.2.2.1
def T (n:Nat):Tab (RVs rsh):=fun j e kn kx=>match j with
 | 0=>ES.on sh0 e fun x=>g0 n n x kn kx
 | _=>none
theorem mk (n:Nat):MOk (cx n):=Z01 (mem_cons (spec_l02Tuple.ok n) Z00)
theorem u0 (n:Nat) (v:AVs ash):Z08 (cx n) 27 (T n) (kr n v) 0 (.loop b0) :=
 Z0O (n:=n) (CO _) (mk n) (MX _) an0 [(0,[2,3])] [1,2,3,4] sh0 (g0 n) (fun _ _ _=>rfl) (fun _ _ _=>rfl) (fun m x kn kx=>by kernel_rfl) (l:=[]) (by kernel_rfl) (Z00)
theorem ok (n:Nat):Z07 Tryz.prog 145 (ent n) :=
 Z0E (c:=cx n) (e:=ent n) (d:=d) (CO _) (mk n) (MX _) an Tryz.func145 (by kernel_rfl) (T n) (l:=[(0,.loop b0)]) (by kernel_rfl) (fun v=>mem_cons (u0 n v) Z00) (fun v=>by kernel_rfl)
end spec_l02Copy
namespace spec_l10Copy
def l0 (n:Nat) (d3:List (Int × List (List ByteArray))) (t4:List (Int × List (List ByteArray))) (K0:(List (Int × List (List ByteArray))) → Option (List (Int × List (List ByteArray)))):Nat → Int → (List (Int × List (List ByteArray))) → Option (List (Int × List (List ByteArray)))
 | 0,_,_=>none
 | k + 1,i2,out5 =>
 if decide (i2 < (List.length d3:Int)) = true then
 if (0:Int) ≤ i2 ∧ i2 < (List.length d3:Int) then
 (spec_l02Copy.F n (List.getD d3 (Int.toNat i2) (0,[]))).bind fun r6 =>
 if List.length out5 + List.length [r6] ≤ lim then
 l0 n d3 t4 K0 k (IntKind.i64.wrap (i2 + 1)) (out5 ++ [r6])
 else
 none
 else
 none
 else
 K0 out5
def F (n:Nat) (d1:List (Int × List (List ByteArray))):Option (List (Int × List (List ByteArray))) :=
 l0 n d1 [] (fun out7 =>
 some out7) n 0 []
noncomputable def code:Code:=Tryz.f93.body.getD .skip
abbrev ash:List ASh:=[.ro (.st (.sl (.st (.pair (.int .i64) (.sl (.st (.sl (.str))))))))]
abbrev rsh:List RSh:=[.own (.st (.sl (.st (.pair (.int .i64) (.sl (.st (.sl (.str)))))))) (.own .ro)]
def ent (n:Nat):Z0W:=⟨ash,rsh,fun v=>F n v.1⟩
noncomputable def cx (n:Nat):Ctx:=Z0D Tryz.prog TYS [(145,spec_l02Copy.ent n)]
noncomputable def d:FnD:=⟨code,25,.nil,[(.cell 2 31,.st (.sl (.st (.pair (.int .i64) (.sl (.st (.sl (.str))))))),.own .ro)]⟩
noncomputable def kr (n:Nat) (v:AVs ash):KN rsh:=Z1E (cx n) d (Z0Q ash v) (Z0b rsh)
noncomputable def b0:Code:=Code.l (Code.l (Code.r (Code.l (Code.r (Code.r code)))))
def an:An:=.seq .nil (.seq (.reg [(5,.own .ro),(3,.own .ro)]) (.seq (.seq .nil (.block (some [2,3]) (.cut 0 [1,2,3,4]))) (.seq .nil .nil)))
def an0:An:=.seq (.seq .nil (.cond .nil .nil)) (.seq (.block (some [1,2,3,4]) .nil) .nil)
abbrev sh0:ES:=⟨[(1,.pt 1 []),(2,.pt 2 []),(3,.pt 3 []),(4,.v (.int .i64))],[⟨1,.st (.sl (.st (.pair (.int .i64) (.sl (.st (.sl (.str))))))),.ro,true,false,none⟩,⟨2,.st (.sl (.st (.pair (.int .i64) (.sl (.st (.sl (.str))))))),.ro,true,false,none⟩,⟨3,.st (.sl (.st (.pair (.int .i64) (.sl (.st (.sl (.str))))))),.own .ro,true,false,none⟩]⟩
abbrev sh0_0:ES:=⟨[(2,.pt 2 []),(3,.pt 3 [])],[⟨2,.st (.sl (.st (.pair (.int .i64) (.sl (.st (.sl (.str))))))),.ro,true,false,none⟩,⟨3,.st (.sl (.st (.pair (.int .i64) (.sl (.st (.sl (.str))))))),.own .ro,true,false,none⟩]⟩
def g0 (n m:Nat) (x:sh0.V) (kn:KN rsh) (kx:KX rsh):Option (RVs rsh):=l0 n x.2.1 x.2.2.1 (fun y0=>kx 0 (sh0_0.enc (((()),(()),()),(x.2.2.1,y0,())))) m x.1.2.2.2.1 x.2.2.2.1
def T (n:Nat):Tab (RVs rsh):=fun j e kn kx=>match j with
 | 0=>ES.on sh0 e fun x=>g0 n n x kn kx
 | _=>none
theorem mk (n:Nat):MOk (cx n):=Z01 (mem_cons (spec_l02Copy.ok n) Z00)
theorem u0 (n:Nat) (v:AVs ash):Z08 (cx n) 25 (T n) (kr n v) 0 (.loop b0) :=
 Z0O (n:=n) (CO _) (mk n) (MX _) an0 [(0,[2,3])] [1,2,3,4] sh0 (g0 n) (fun _ _ _=>rfl) (fun _ _ _=>rfl) (fun m x kn kx=>by kernel_rfl) (l:=[]) (by kernel_rfl) (Z00)
theorem ok (n:Nat):Z07 Tryz.prog 93 (ent n) :=
 Z0E (c:=cx n) (e:=ent n) (d:=d) (CO _) (mk n) (MX _) an Tryz.func93 (by kernel_rfl) (T n) (l:=[(0,.loop b0)]) (by kernel_rfl) (fun v=>mem_cons (u0 n v) Z00) (fun v=>by kernel_rfl)
end spec_l10Copy
namespace spec_l02Put_c1
def l0 (n:Nat) (rows3:List (List ByteArray)) (t5:List ByteArray) (K0:Int → Option ((List (List ByteArray)) × Bool)):Nat → Int → Option ((List (List ByteArray)) × Bool)
 | 0,_=>none
 | k + 1,t4 =>
 if (decide (t4 < (List.length rows3:Int))) = true then
 if (0:Int) ≤ t4 ∧ t4 < (List.length rows3:Int) then
 (spec_l02Cmp.F n (List.getD rows3 (Int.toNat t4) []) t5).bind fun r6 =>
 if decide (r6 < 0) = true then
 l0 n rows3 t5 K0 k (IntKind.i64.wrap (t4 + 1))
 else
 K0 t4
 else
 none
 else
 K0 t4
def j1 (n:Nat) (rows9:List (List ByteArray)) (t10:Int) (t11:List ByteArray):Option ((List (List ByteArray)) × Bool) :=
 if (0:Int) ≤ 0 ∧ (0:Int) ≤ t10 ∧ t10 ≤ (List.length rows9:Int) then
 if List.length ([]:List (List ByteArray)) + List.length (List.drop (Int.toNat 0) (List.take (Int.toNat t10) rows9)) ≤ lim then
 (spec_l02Tuple.F n t11).bind fun r12 =>
 if List.length ([] ++ (List.drop (Int.toNat 0) (List.take (Int.toNat t10) rows9))) + List.length [r12] ≤ lim then
 if (0:Int) ≤ t10 ∧ t10 ≤ (List.length rows9:Int) ∧ (List.length rows9:Int) ≤ (List.length rows9:Int) then
 if List.length (([] ++ (List.drop (Int.toNat 0) (List.take (Int.toNat t10) rows9))) ++ [r12]) + List.length (List.drop (Int.toNat t10) (List.take (Int.toNat (List.length rows9:Int)) rows9)) ≤ lim then
 some ((([] ++ (List.drop (Int.toNat 0) (List.take (Int.toNat t10) rows9))) ++ [r12]) ++ (List.drop (Int.toNat t10) (List.take (Int.toNat (List.length rows9:Int)) rows9)),true)
 else
 none
 else
 none
 else
 none
 else
 none
 else
 none
def F (n:Nat) (rows1:List (List ByteArray)) (t2:List ByteArray):Option ((List (List ByteArray)) × Bool) :=
 l0 n rows1 t2 (fun t7 =>
 if (decide (t7 < (List.length rows1:Int))) = true then
 if (0:Int) ≤ t7 ∧ t7 < (List.length rows1:Int) then
 (spec_l02Cmp.F n (List.getD rows1 (Int.toNat t7) []) t2).bind fun r8 =>
 if decide (r8 = 0) = true then
 some (rows1,false)
 else
 j1 n rows1 t7 t2
 else
 none
 else
 j1 n rows1 t7 t2) n 0
noncomputable def code:Code:=Tryz.f97.body.getD .skip
abbrev ash:List ASh:=[.ro (.sl (.st (.sl (.str)))),.ro (.st (.sl (.str)))]
abbrev rsh:List RSh:=[.ro (.sl (.st (.sl (.str)))),.ro .bool]
def ent (n:Nat):Z0W:=⟨ash,rsh,fun v=>F n v.1 v.2.1⟩
noncomputable def cx (n:Nat):Ctx:=Z0D Tryz.prog TYS [(117,spec_l02Tuple.ent n),(128,spec_l02Cmp.ent n)]
noncomputable def d:FnD:=⟨code,52,.nil,[(.tmp 4,.sl (.st (.sl (.str))),.ro),(.tmp 5,.bool,.ro)]⟩
noncomputable def kr (n:Nat) (v:AVs ash):KN rsh:=Z1E (cx n) d (Z0Q ash v) (Z0b rsh)
noncomputable def b0:Code:=Code.l (Code.l (Code.l (Code.r (Code.r code))))
noncomputable def c1:Code:=(Code.r (Code.r (Code.r (Code.r code))))
def an:An:=.seq .nil (.seq .nil (.seq (.block (some [0,3,6]) (.cut 0 [0,3,6])) (.seq (.seq .nil (.cond (.seq .nil .nil) .nil)) (.cut 1 [0,3,6]))))
def an0:An:=.seq (.seq .nil (.cond .nil .nil)) (.block (some [0,3,6]) .nil)
abbrev sh0:ES:=⟨[(0,.v (.sl (.st (.sl (.str))))),(3,.pt 3 []),(6,.v (.int .i64))],[⟨3,.st (.sl (.str)),.ro,true,false,none⟩]⟩
abbrev sh0_0:ES:=⟨[(0,.v (.sl (.st (.sl (.str))))),(3,.pt 3 []),(6,.v (.int .i64))],[⟨3,.st (.sl (.str)),.ro,true,false,none⟩]⟩
def an1:An:=.seq (.reg [(37,.own .ro)]) (.seq .nil (.seq .nil .nil))
abbrev sh1:ES:=⟨[(0,.v (.sl (.st (.sl (.str))))),(3,.pt 3 []),(6,.v (.int .i64))],[⟨3,.st (.sl (.str)),.ro,true,false,none⟩]⟩
def g0 (n m:Nat) (x:sh0.V) (kn:KN rsh) (kx:KX rsh):Option (RVs rsh):=l0 n x.1.1 x.2.1 (fun y0=>kx 0 (sh0_0.enc ((x.1.1,(()),y0,()),(x.2.1,())))) m x.1.2.2.1
def g1 (n m:Nat) (x:sh1.V) (kn:KN rsh) (kx:KX rsh):Option (RVs rsh):=j1 n x.1.1 x.1.2.2.1 x.2.1
def T (n:Nat):Tab (RVs rsh):=fun j e kn kx=>match j with
 | 0=>ES.on sh0 e fun x=>g0 n n x kn kx
 | 1=>ES.on sh1 e fun x=>g1 n n x kn kx
 | _=>none
theorem mk (n:Nat):MOk (cx n):=Z01 (mem_cons (spec_l02Tuple.ok n) (mem_cons (spec_l02Cmp.ok n) Z00))
theorem u0 (n:Nat) (v:AVs ash):Z08 (cx n) 52 (T n) (kr n v) 0 (.loop b0) :=
 Z0O (n:=n) (CO _) (mk n) (MX _) an0 [(0,[0,3,6])] [0,3,6] sh0 (g0 n) (fun _ _ _=>rfl) (fun _ _ _=>rfl) (fun m x kn kx=>by kernel_rfl) (l:=[]) (by kernel_rfl) (Z00)
theorem u1 (n:Nat) (v:AVs ash):Z08 (cx n) 52 (T n) (kr n v) 1 (c1) :=
 Z0p (CO _) (mk n) (MX _) an1 [] [4,5] sh1 (g1 n n) (fun _ _ _=>rfl) (fun x kn kx=>by kernel_rfl) (l:=[]) (by kernel_rfl) (Z00)
theorem ok (n:Nat):Z07 Tryz.prog 97 (ent n) :=
 Z0E (c:=cx n) (e:=ent n) (d:=d) (CO _) (mk n) (MX _) an Tryz.func97 (by kernel_rfl) (T n) (l:=[(0,.loop b0),(1,c1)]) (by kernel_rfl) (fun v=>mem_cons (u0 n v) (mem_cons (u1 n v) Z00)) (fun v=>by kernel_rfl)
end spec_l02Put_c1
namespace spec_Apply
def j1 (n:Nat) (t12:List (Int × (List ByteArray) × Bool)) (t13:Int) (t14:List (Int × List (List ByteArray))) (t15:List (Int × List (List ByteArray))) (t16:Int × (List ByteArray) × Bool) (Kn:(List (Int × List (List ByteArray))) → Option ((List (Int × List (List ByteArray))) × Bool)):Option ((List (Int × List (List ByteArray))) × Bool) :=
 if t16.2.2 = true then
 if (0:Int) ≤ t16.1 ∧ t16.1 < (List.length t15:Int) then
 (spec_l02Put_c1.F n ((List.getD t15 (Int.toNat t16.1) (0,[])).2) t16.2.1).bind fun r17 =>
 if (0:Int) ≤ t16.1 ∧ t16.1 < (List.length t15:Int) then
 let w18:List (Int × List (List ByteArray)):=List.set t15 (Int.toNat t16.1) ((List.getD t15 (Int.toNat t16.1) (0,[])).1,r17.1)
 if (0:Int) ≤ t16.1 ∧ t16.1 < (List.length w18:Int) then
 if decide ((List.length ((List.getD w18 (Int.toNat t16.1) (0,[])).2):Int) > 400) = true then
 some ([],false)
 else
 Kn w18
 else
 none
 else
 none
 else
 none
 else
 if (0:Int) ≤ t16.1 ∧ t16.1 < (List.length t15:Int) then
 if (0:Int) ≤ t16.1 ∧ t16.1 < (List.length t15:Int) then
 (spec_RelLess.F n (List.getD t15 (Int.toNat t16.1) (0,[])) ((List.getD t15 (Int.toNat t16.1) (0,[])).1,[t16.2.1])).bind fun r19 =>
 if (0:Int) ≤ t16.1 ∧ t16.1 < (List.length t15:Int) then
 if (0:Int) ≤ t16.1 ∧ t16.1 < (List.length (List.set t15 (Int.toNat t16.1) r19):Int) then
 if decide ((List.length ((List.getD (List.set t15 (Int.toNat t16.1) r19) (Int.toNat t16.1) (0,[])).2):Int) > 400) = true then
 some ([],false)
 else
 Kn (List.set t15 (Int.toNat t16.1) r19)
 else
 none
 else
 none
 else
 none
 else
 none
def l0 (n:Nat) (t5:List (Int × (List ByteArray) × Bool)) (t7:List (Int × List (List ByteArray))) (K0:(List (Int × List (List ByteArray))) → Option ((List (Int × List (List ByteArray))) × Bool)):Nat → Int → (List (Int × List (List ByteArray))) → Option ((List (Int × List (List ByteArray))) × Bool)
 | 0,_,_=>none
 | k + 1,t6,t8 =>
 if decide (t6 < (List.length t5:Int)) = true then
 if (0:Int) ≤ t6 ∧ t6 < (List.length t5:Int) then
 (spec_l01Between.F n ((List.getD t5 (Int.toNat t6) (0,([],false))).1) 0 (IntKind.i64.wrap ((List.length t8:Int) - 1))).bind fun r9 =>
 if (!r9) = false then
 if (0:Int) ≤ ((List.getD t5 (Int.toNat t6) (0,([],false))).1) ∧ ((List.getD t5 (Int.toNat t6) (0,([],false))).1) < (List.length t8:Int) then
 if (!decide ((List.length (((List.getD t5 (Int.toNat t6) (0,([],false))).2).1):Int) = ((List.getD t8 (Int.toNat ((List.getD t5 (Int.toNat t6) (0,([],false))).1)) (0,[])).1))) = false then
 (spec_TupleOk.F n (((List.getD t5 (Int.toNat t6) (0,([],false))).2).1)).bind fun r10 =>
 if (!r10) = false then
 if (0:Int) ≤ ((List.getD t5 (Int.toNat t6) (0,([],false))).1) ∧ ((List.getD t5 (Int.toNat t6) (0,([],false))).1) < (List.length t8:Int) then
 (spec_l02Has.F n ((List.getD t8 (Int.toNat ((List.getD t5 (Int.toNat t6) (0,([],false))).1)) (0,[])).2) (((List.getD t5 (Int.toNat t6) (0,([],false))).2).1)).bind fun r11 =>
 if (r11 == (((List.getD t5 (Int.toNat t6) (0,([],false))).2).2)) = true then
 some ([],false)
 else
 j1 n t5 t6 t7 t8 (List.getD t5 (Int.toNat t6) (0,([],false))) (fun t20 =>
 l0 n t5 t7 K0 k (IntKind.i64.wrap (t6 + 1)) t20)
 else
 none
 else
 some ([],false)
 else
 some ([],false)
 else
 none
 else
 some ([],false)
 else
 none
 else
 K0 t8
def F (n:Nat) (t1:List (Int × List (List ByteArray))) (t2:List (Int × (List ByteArray) × Bool)):Option ((List (Int × List (List ByteArray))) × Bool) :=
 (spec_DbShape.F n t1).bind fun r3 =>
 if (!r3) = true then
 some ([],false)
 else
 (spec_l10Copy.F n t1).bind fun r4 =>
 l0 n t2 [] (fun t21 =>
 some (t21,true)) n 0 r4
noncomputable def code:Code:=Tryz.f27.body.getD .skip
abbrev ash:List ASh:=[.ro (.st (.sl (.st (.pair (.int .i64) (.sl (.st (.sl (.str)))))))),.ro (.sl (.st (.pair (.int .i64) (.pair (.st (.sl (.str))) (.bool)))))]
abbrev rsh:List RSh:=[.ro (.st (.sl (.st (.pair (.int .i64) (.sl (.st (.sl (.str)))))))),.ro .bool]
def ent (n:Nat):Z0W:=⟨ash,rsh,fun v=>F n v.1 v.2.1⟩
noncomputable def cx (n:Nat):Ctx:=Z0D Tryz.prog TYS [(67,spec_RelLess.ent n),(69,spec_DbShape.ent n),(93,spec_l10Copy.ent n),(94,spec_l01Between.ent n),(95,spec_TupleOk.ent n),(96,spec_l02Has.ent n),(97,spec_l02Put_c1.ent n)]
noncomputable def d:FnD:=⟨code,127,.nil,[(.cell 4 31,.st (.sl (.st (.pair (.int .i64) (.sl (.st (.sl (.str))))))),.ro),(.tmp 5,.bool,.ro)]⟩
noncomputable def kr (n:Nat) (v:AVs ash):KN rsh:=Z1E (cx n) d (Z0Q ash v) (Z0b rsh)
noncomputable def c1:Code:=(Code.r (Code.r (Code.l (Code.l (Code.r (Code.l (Code.l (Code.r (Code.l (Code.r (Code.r (Code.r code))))))))))))
noncomputable def b0:Code:=Code.l (Code.l (Code.r (Code.l (Code.r (Code.r (Code.r code))))))
def an:An:=.seq .nil (.seq (.seq .nil (.cond (.seq .nil .nil) .nil)) (.seq (.reg [(16,.own .ro),(6,.own .ro)]) (.seq (.seq .nil (.block (some [4,6]) (.cut 0 [1,4,6,7]))) (.seq .nil .nil))))
def an1:An:=.seq (.seq .nil (.cond (.seq .nil .nil) .nil)) (.seq .nil (.cond (.seq .nil .nil) .nil))
abbrev sh1:ES:=⟨[(1,.v (.sl (.st (.pair (.int .i64) (.pair (.st (.sl (.str))) (.bool)))))),(4,.pt 4 []),(6,.pt 6 []),(7,.v (.int .i64)),(8,.pt 8 [])],[⟨4,.st (.sl (.st (.pair (.int .i64) (.sl (.st (.sl (.str))))))),.ro,true,false,none⟩,⟨6,.st (.sl (.st (.pair (.int .i64) (.sl (.st (.sl (.str))))))),.own .ro,true,false,none⟩,⟨8,.st (.pair (.int .i64) (.pair (.st (.sl (.str))) (.bool))),.ro,true,false,none⟩]⟩
abbrev sh1_n:ES:=⟨[(1,.v (.sl (.st (.pair (.int .i64) (.pair (.st (.sl (.str))) (.bool)))))),(4,.pt 4 []),(6,.pt 6 []),(7,.v (.int .i64))],[⟨4,.st (.sl (.st (.pair (.int .i64) (.sl (.st (.sl (.str))))))),.ro,true,false,none⟩,⟨6,.st (.sl (.st (.pair (.int .i64) (.sl (.st (.sl (.str))))))),.own .ro,true,false,none⟩]⟩
def an0:An:=.seq (.seq .nil (.cond .nil .nil)) (.seq (.block (some [1,4,6,7]) (.seq .nil (.seq (.seq .nil (.cond (.seq .nil .nil) .nil)) (.cut 1 [1,4,6,7,8])))) .nil)
abbrev sh0:ES:=⟨[(1,.v (.sl (.st (.pair (.int .i64) (.pair (.st (.sl (.str))) (.bool)))))),(4,.pt 4 []),(6,.pt 6 []),(7,.v (.int .i64))],[⟨4,.st (.sl (.st (.pair (.int .i64) (.sl (.st (.sl (.str))))))),.ro,true,false,none⟩,⟨6,.st (.sl (.st (.pair (.int .i64) (.sl (.st (.sl (.str))))))),.own .ro,true,false,none⟩]⟩
abbrev sh0_0:ES:=⟨[(4,.pt 4 []),(6,.pt 6 [])],[⟨4,.st (.sl (.st (.pair (.int .i64) (.sl (.st (.sl (.str))))))),.ro,true,false,none⟩,⟨6,.st (.sl (.st (.pair (.int .i64) (.sl (.st (.sl (.str))))))),.own .ro,true,false,none⟩]⟩
def g1 (n m:Nat) (x:sh1.V) (kn:KN rsh) (kx:KX rsh):Option (RVs rsh):=j1 n x.1.1 x.1.2.2.2.1 x.2.1 x.2.2.1 x.2.2.2.1 (fun y0=>kn (sh1_n.enc ((x.1.1,(()),(()),x.1.2.2.2.1,()),(x.2.1,y0,()))))
def g0 (n m:Nat) (x:sh0.V) (kn:KN rsh) (kx:KX rsh):Option (RVs rsh):=l0 n x.1.1 x.2.1 (fun y0=>kx 0 (sh0_0.enc (((()),(()),()),(x.2.1,y0,())))) m x.1.2.2.2.1 x.2.2.1
def T (n:Nat):Tab (RVs rsh):=fun j e kn kx=>match j with
 | 1=>ES.on sh1 e fun x=>g1 n n x kn kx
 | 0=>ES.on sh0 e fun x=>g0 n n x kn kx
 | _=>none
theorem mk (n:Nat):MOk (cx n):=Z01 (mem_cons (spec_RelLess.ok n) (mem_cons (spec_DbShape.ok n) (mem_cons (spec_l10Copy.ok n) (mem_cons (spec_l01Between.ok n) (mem_cons (spec_TupleOk.ok n) (mem_cons (spec_l02Has.ok n) (mem_cons (spec_l02Put_c1.ok n) Z00)))))))
theorem u1 (n:Nat) (v:AVs ash):Z08 (cx n) 127 (T n) (kr n v) 1 (c1) :=
 Z0p (CO _) (mk n) (MX _) an1 [(0,[4,6]),(1,[1,4,6,7])] [1,4,6,7] sh1 (g1 n n) (fun _ _ _=>rfl) (fun x kn kx=>by kernel_rfl) (l:=[]) (by kernel_rfl) (Z00)
theorem u0 (n:Nat) (v:AVs ash):Z08 (cx n) 127 (T n) (kr n v) 0 (.loop b0) :=
 Z0O (n:=n) (CO _) (mk n) (MX _) an0 [(0,[4,6])] [1,4,6,7] sh0 (g0 n) (fun _ _ _=>rfl) (fun _ _ _=>rfl) (fun m x kn kx=>by kernel_rfl) (l:=[(1,c1)]) (by kernel_rfl) (mem_cons (u1 n v) Z00)
theorem ok (n:Nat):Z07 Tryz.prog 27 (ent n) :=
 Z0E (c:=cx n) (e:=ent n) (d:=d) (CO _) (mk n) (MX _) an Tryz.func27 (by kernel_rfl) (T n) (l:=[(0,.loop b0)]) (by kernel_rfl) (fun v=>mem_cons (u0 n v) Z00) (fun v=>by kernel_rfl)
end spec_Apply
end Go.Abs
