/- The functions, and that a call of each comes to it. Conditions: none. -/
import Derived.Test.YtgdlicpmbgodjaaGreatDoorF0
namespace Go.Abs
open Go.Proofs
set_option linter.unusedVariables false
namespace impl_Apply_1
def F (n:Nat) (t1:List ByteArray) (t2:Int × (List ByteArray) × Bool):Option Bool :=
 (impl_sameTuple.F n t1 t2.2.1).bind fun r3 =>
 some r3
noncomputable def code:Code:=Tryz.f91.body.getD .skip
abbrev ash:List ASh:=[.ro (.st (.sl (.str))),.rp (.st (.pair (.int .i64) (.pair (.st (.sl (.str))) (.bool))))]
abbrev rsh:List RSh:=[.ro .bool]
def ent (n:Nat):Z0Y:=⟨ash,rsh,fun v=>F n v.1 v.2.1⟩
noncomputable def cx (n:Nat):Ctx:=Z0D Tryz.prog TYS [(92,impl_sameTuple.ent n)]
noncomputable def d:FnD:=⟨code,8,.nil,[(.tmp 3,.bool,.ro)]⟩
def an:An:=.seq .nil (.seq .nil .nil)
theorem ok (n:Nat):Z07 Tryz.prog 91 (ent n) :=
 Z0H (c:=cx n) (e:=ent n) (d:=d) (CO _) (Z01 (mem_cons (impl_sameTuple.ok n) Z00)) (MX _) an Tryz.func91 (by kernel_rfl) (by kernel_rfl) (fun v=>by kernel_rfl)
end impl_Apply_1
namespace impl_Apply
def l0 (n:Nat) (t5:List (Int × (List ByteArray) × Bool)) (t6:Int) (t8:List (Int × List (List ByteArray))) (K0:(List (Int × List (List ByteArray))) → Option ((List (Int × List (List ByteArray))) × Bool)):Nat → Int → (List (Int × List (List ByteArray))) → Option ((List (Int × List (List ByteArray))) × Bool)
 | 0,_,_=>none
 | k + 1,t7,t9 =>
 if decide (t7 < t6) = true then
 if (0:Int) ≤ t7 ∧ t7 < (List.length t5:Int) then
 (impl_in.F n ((List.getD t5 (Int.toNat t7) (0,([],false))).1) 0 (IntKind.i64.wrap ((List.length t9:Int) - 1))).bind fun r10 =>
 if (!r10) = true then
 some ([],false)
 else
 if (0:Int) ≤ ((List.getD t5 (Int.toNat t7) (0,([],false))).1) ∧ ((List.getD t5 (Int.toNat t7) (0,([],false))).1) < (List.length t9:Int) then
 if (((List.getD t5 (Int.toNat t7) (0,([],false))).2).2) = true then
 (impl_RelPut.F n (List.getD t9 (Int.toNat ((List.getD t5 (Int.toNat t7) (0,([],false))).1)) (0,[])) (((List.getD t5 (Int.toNat t7) (0,([],false))).2).1)).bind fun r11 =>
 if (!r11.2) = true then
 some ([],false)
 else
 let w12:List (Int × List (List ByteArray)):=List.set t9 (Int.toNat ((List.getD t5 (Int.toNat t7) (0,([],false))).1)) r11.1
 l0 n t5 t6 t8 K0 k (IntKind.i64.wrap (t7 + 1)) w12
 else
 (impl_Rel_has.F n (List.getD t9 (Int.toNat ((List.getD t5 (Int.toNat t7) (0,([],false))).1)) (0,[])) (((List.getD t5 (Int.toNat t7) (0,([],false))).2).1)).bind fun r13 =>
 if (!r13) = true then
 some ([],false)
 else
 (slices_DeleteFunc_Tuple_Tuple.F n ((List.getD t9 (Int.toNat ((List.getD t5 (Int.toNat t7) (0,([],false))).1)) (0,[])).2) (fun a14=>(impl_Apply_1.F n a14.1 (List.getD t5 (Int.toNat t7) (0,([],false)))).bind some)).bind fun r15 =>
 if ((List.getD t5 (Int.toNat t7) (0,([],false))).1) = ((List.getD t5 (Int.toNat t7) (0,([],false))).1) then
 let w16:List (Int × List (List ByteArray)):=List.set t9 (Int.toNat ((List.getD t5 (Int.toNat t7) (0,([],false))).1)) ((List.getD t9 (Int.toNat ((List.getD t5 (Int.toNat t7) (0,([],false))).1)) (0,[])).1,r15)
 l0 n t5 t6 t8 K0 k (IntKind.i64.wrap (t7 + 1)) w16
 else
 none
 else
 none
 else
 none
 else
 K0 t9
def F (n:Nat) (t1:List (Int × List (List ByteArray))) (t2:List (Int × (List ByteArray) × Bool)):Option ((List (Int × List (List ByteArray))) × Bool) :=
 (impl_isShape.F n t1).bind fun r3 =>
 if (!r3) = true then
 some ([],false)
 else
 (impl_copyDb.F n t1).bind fun r4 =>
 l0 n t2 (List.length t2:Int) [] (fun t17 =>
 some (t17,true)) n 0 r4
noncomputable def code:Code:=Tryz.f26.body.getD .skip
abbrev ash:List ASh:=[.ro (.st (.sl (.st (.pair (.int .i64) (.sl (.st (.sl (.str)))))))),.ro (.sl (.st (.pair (.int .i64) (.pair (.st (.sl (.str))) (.bool)))))]
abbrev rsh:List RSh:=[.ro (.st (.sl (.st (.pair (.int .i64) (.sl (.st (.sl (.str)))))))),.ro .bool]
def ent (n:Nat):Z0Y:=⟨ash,rsh,fun v=>F n v.1 v.2.1⟩
noncomputable def cx (n:Nat):Ctx:=Z0D Tryz.prog TYS [(71,impl_isShape.ent n),(86,impl_copyDb.ent n),(87,impl_in.ent n),(88,impl_RelPut.ent n),(89,impl_Rel_has.ent n),(90,slices_DeleteFunc_Tuple_Tuple.ent n),(91,impl_Apply_1.ent n)]
noncomputable def d:FnD:=⟨code,74,.nil,[(.cell 4 31,.st (.sl (.st (.pair (.int .i64) (.sl (.st (.sl (.str))))))),.ro),(.tmp 5,.bool,.ro)]⟩
noncomputable def kr (n:Nat) (v:AVs ash):KN rsh:=Z1E (cx n) d (Z0R ash v) (Z0c rsh)
noncomputable def b0:Code:=Code.l (Code.l (Code.r (Code.l (Code.r (Code.r (Code.r code))))))
def an:An:=.seq .nil (.seq (.seq .nil (.cond (.seq .nil .nil) .nil)) (.seq (.reg [(17,.own (.pr .ro (.own (.own .ro)))),(6,.own .ro)]) (.seq (.seq .nil (.block (some [4,6]) (.cut 0 [4,6,18,19,20]))) (.seq .nil .nil))))
def an0:An:=.seq .nil (.seq (.cond .nil .nil) (.seq (.block (some [4,6,18,19,20]) (.seq .nil (.seq (.seq .nil (.cond (.seq .nil .nil) .nil)) (.seq .nil (.seq (.seq .nil (.cond (.seq (.reg [(4142,.pr .ro (.own (.own .ro))),(10,.pr .ro (.own .ro))]) (.seq (.seq .nil (.cond (.seq .nil .nil) .nil)) (.seq .nil .nil))) .nil)) (.seq (.seq .nil (.cond (.seq .nil .nil) .nil)) (.reg [(69,.own (.own .ro))]))))))) .nil))
abbrev sh0:ES:=⟨[(4,.pt 4 []),(6,.pt 6 []),(18,.v (.sl (.st (.pair (.int .i64) (.pair (.st (.sl (.str))) (.bool)))))),(19,.v (.int .i64)),(20,.v (.int .i64))],[⟨4,.st (.sl (.st (.pair (.int .i64) (.sl (.st (.sl (.str))))))),.ro,true,false,none⟩,⟨6,.st (.sl (.st (.pair (.int .i64) (.sl (.st (.sl (.str))))))),.own (.pr .ro (.own (.own .ro))),true,false,none⟩]⟩
abbrev sh0_0:ES:=⟨[(4,.pt 4 []),(6,.pt 6 [])],[⟨4,.st (.sl (.st (.pair (.int .i64) (.sl (.st (.sl (.str))))))),.ro,true,false,none⟩,⟨6,.st (.sl (.st (.pair (.int .i64) (.sl (.st (.sl (.str))))))),.own (.pr .ro (.own (.own .ro))),true,false,none⟩]⟩
def g0 (n m:Nat) (x:sh0.V) (kn:KN rsh) (kx:KX rsh):Option (RVs rsh):=l0 n x.1.2.2.1 x.1.2.2.2.1 x.2.1 (fun y0=>kx 0 (sh0_0.enc (((()),(()),()),(x.2.1,y0,())))) m x.1.2.2.2.2.1 x.2.2.1
def T (n:Nat):Tab (RVs rsh):=fun j e kn kx=>match j with
 | 0=>ES.on sh0 e fun x=>g0 n n x kn kx
 | _=>none
theorem mk (n:Nat):MOk (cx n):=Z01 (mem_cons (impl_isShape.ok n) (mem_cons (impl_copyDb.ok n) (mem_cons (impl_in.ok n) (mem_cons (impl_RelPut.ok n) (mem_cons (impl_Rel_has.ok n) (mem_cons (slices_DeleteFunc_Tuple_Tuple.ok n) (mem_cons (impl_Apply_1.ok n) Z00)))))))
theorem u0 (n:Nat) (v:AVs ash):Z08 (cx n) 74 (T n) (kr n v) 0 (.loop b0) :=
 Z0K (n:=n) (CO _) (mk n) (MX _) an0 [(0,[4,6])] [4,6,18,19,20] sh0 (g0 n) (fun _ _ _=>rfl) (fun _ _ _=>rfl) (fun m x kn kx=>by kernel_rfl) (l:=[]) (by kernel_rfl) (Z00)
theorem ok (n:Nat):Z07 Tryz.prog 26 (ent n) :=
 Z0E (c:=cx n) (e:=ent n) (d:=d) (CO _) (mk n) (MX _) an Tryz.func26 (by kernel_rfl) (T n) (l:=[(0,.loop b0)]) (by kernel_rfl) (fun v=>mem_cons (u0 n v) Z00) (fun v=>by kernel_rfl)
end impl_Apply
namespace laws_sameRows
def l0 (n:Nat) (a3:List (List ByteArray)) (b4:List (List ByteArray)) (K0:Unit → Option Bool):Nat → Int → Option Bool
 | 0,_=>none
 | k + 1,i5 =>
 if decide (i5 < (List.length a3:Int)) = true then
 if (0:Int) ≤ i5 ∧ i5 < (List.length a3:Int) then
 if (0:Int) ≤ i5 ∧ i5 < (List.length b4:Int) then
 (laws_sameTexts.F n (List.getD a3 (Int.toNat i5) []) (List.getD b4 (Int.toNat i5) [])).bind fun r6 =>
 if (!r6) = true then
 some false
 else
 l0 n a3 b4 K0 k (IntKind.i64.wrap (i5 + 1))
 else
 none
 else
 none
 else
 K0 ()
def F (n:Nat) (a1:List (List ByteArray)) (b2:List (List ByteArray)):Option Bool :=
 if (!decide ((List.length a1:Int) = (List.length b2:Int))) = true then
 some false
 else
 l0 n a1 b2 (fun _ =>
 some true) n 0
noncomputable def code:Code:=Tryz.f49.body.getD .skip
abbrev ash:List ASh:=[.ro (.sl (.st (.sl (.str)))),.ro (.sl (.st (.sl (.str))))]
abbrev rsh:List RSh:=[.ro .bool]
def ent (n:Nat):Z0Y:=⟨ash,rsh,fun v=>F n v.1 v.2.1⟩
noncomputable def cx (n:Nat):Ctx:=Z0D Tryz.prog TYS [(31,laws_sameTexts.ent n)]
noncomputable def d:FnD:=⟨code,29,.nil,[(.tmp 4,.bool,.ro)]⟩
noncomputable def kr (n:Nat) (v:AVs ash):KN rsh:=Z1E (cx n) d (Z0R ash v) (Z0c rsh)
noncomputable def b0:Code:=Code.l (Code.l (Code.r (Code.l (Code.r (Code.r code)))))
def an:An:=.seq .nil (.seq (.seq .nil (.cond (.seq .nil .nil) .nil)) (.seq (.seq .nil (.block (some []) (.cut 0 [0,1,5]))) (.seq .nil .nil)))
def an0:An:=.seq (.seq .nil (.cond .nil .nil)) (.seq (.block (some [0,1,5]) (.seq .nil (.cond (.seq .nil .nil) .nil))) .nil)
abbrev sh0:ES:=⟨[(0,.v (.sl (.st (.sl (.str))))),(1,.v (.sl (.st (.sl (.str))))),(5,.v (.int .i64))],[]⟩
abbrev sh0_0:ES:=⟨[],[]⟩
def g0 (n m:Nat) (x:sh0.V) (kn:KN rsh) (kx:KX rsh):Option (RVs rsh):=l0 n x.1.1 x.1.2.1 (fun _=>kx 0 (sh0_0.enc ((()),(())))) m x.1.2.2.1
def T (n:Nat):Tab (RVs rsh):=fun j e kn kx=>match j with
 | 0=>ES.on sh0 e fun x=>g0 n n x kn kx
 | _=>none
theorem mk (n:Nat):MOk (cx n):=Z01 (mem_cons (laws_sameTexts.ok n) Z00)
theorem u0 (n:Nat) (v:AVs ash):Z08 (cx n) 29 (T n) (kr n v) 0 (.loop b0) :=
 Z0K (n:=n) (CO _) (mk n) (MX _) an0 [(0,[])] [0,1,5] sh0 (g0 n) (fun _ _ _=>rfl) (fun _ _ _=>rfl) (fun m x kn kx=>by kernel_rfl) (l:=[]) (by kernel_rfl) (Z00)
theorem ok (n:Nat):Z07 Tryz.prog 49 (ent n) :=
 Z0E (c:=cx n) (e:=ent n) (d:=d) (CO _) (mk n) (MX _) an Tryz.func49 (by kernel_rfl) (T n) (l:=[(0,.loop b0)]) (by kernel_rfl) (fun v=>mem_cons (u0 n v) Z00) (fun v=>by kernel_rfl)
end laws_sameRows
namespace laws_sameRel
def F (n:Nat) (a1:Int × List (List ByteArray)) (b2:Int × List (List ByteArray)):Option Bool :=
 if (decide (a1.1 = b2.1)) = true then
 (laws_sameRows.F n a1.2 b2.2).bind fun r3 =>
 some r3
 else
 some false
noncomputable def code:Code:=Tryz.f60.body.getD .skip
abbrev ash:List ASh:=[.ro (.st (.pair (.int .i64) (.sl (.st (.sl (.str)))))),.ro (.st (.pair (.int .i64) (.sl (.st (.sl (.str))))))]
abbrev rsh:List RSh:=[.ro .bool]
def ent (n:Nat):Z0Y:=⟨ash,rsh,fun v=>F n v.1 v.2.1⟩
noncomputable def cx (n:Nat):Ctx:=Z0D Tryz.prog TYS [(49,laws_sameRows.ent n)]
noncomputable def d:FnD:=⟨code,17,.nil,[(.tmp 4,.bool,.ro)]⟩
def an:An:=.seq .nil (.seq .nil .nil)
theorem ok (n:Nat):Z07 Tryz.prog 60 (ent n) :=
 Z0H (c:=cx n) (e:=ent n) (d:=d) (CO _) (Z01 (mem_cons (laws_sameRows.ok n) Z00)) (MX _) an Tryz.func60 (by kernel_rfl) (by kernel_rfl) (fun v=>by kernel_rfl)
end laws_sameRel
namespace laws_sameDb
def l0 (n:Nat) (a4:List (Int × List (List ByteArray))) (b5:List (Int × List (List ByteArray))) (K0:Unit → Option Bool):Nat → Int → Option Bool
 | 0,_=>none
 | k + 1,i3 =>
 if decide (i3 < (List.length a4:Int)) = true then
 if (0:Int) ≤ i3 ∧ i3 < (List.length a4:Int) then
 if (0:Int) ≤ i3 ∧ i3 < (List.length b5:Int) then
 (laws_sameRel.F n (List.getD a4 (Int.toNat i3) (0,[])) (List.getD b5 (Int.toNat i3) (0,[]))).bind fun r6 =>
 if (!r6) = true then
 some false
 else
 l0 n a4 b5 K0 k (IntKind.i64.wrap (i3 + 1))
 else
 none
 else
 none
 else
 K0 ()
def F (n:Nat) (a1:List (Int × List (List ByteArray))) (b2:List (Int × List (List ByteArray))):Option Bool :=
 if (!decide ((List.length a1:Int) = (List.length b2:Int))) = true then
 some false
 else
 l0 n a1 b2 (fun _ =>
 some true) n 0
noncomputable def code:Code:=Tryz.f28.body.getD .skip
abbrev ash:List ASh:=[.ro (.st (.sl (.st (.pair (.int .i64) (.sl (.st (.sl (.str)))))))),.ro (.st (.sl (.st (.pair (.int .i64) (.sl (.st (.sl (.str))))))))]
abbrev rsh:List RSh:=[.ro .bool]
def ent (n:Nat):Z0Y:=⟨ash,rsh,fun v=>F n v.1 v.2.1⟩
noncomputable def cx (n:Nat):Ctx:=Z0D Tryz.prog TYS [(60,laws_sameRel.ent n)]
noncomputable def d:FnD:=⟨code,32,.nil,[(.tmp 4,.bool,.ro)]⟩
noncomputable def kr (n:Nat) (v:AVs ash):KN rsh:=Z1E (cx n) d (Z0R ash v) (Z0c rsh)
noncomputable def b0:Code:=Code.l (Code.l (Code.r (Code.l (Code.r (Code.r code)))))
def an:An:=.seq .nil (.seq (.seq .nil (.cond (.seq .nil .nil) .nil)) (.seq (.seq .nil (.block (some []) (.cut 0 [2,3,5]))) (.seq .nil .nil)))
def an0:An:=.seq (.seq .nil (.cond .nil .nil)) (.seq (.block (some [2,3,5]) (.seq .nil (.cond (.seq .nil .nil) .nil))) .nil)
abbrev sh0:ES:=⟨[(2,.pt 2 []),(3,.pt 3 []),(5,.v (.int .i64))],[⟨2,.st (.sl (.st (.pair (.int .i64) (.sl (.st (.sl (.str))))))),.ro,true,false,none⟩,⟨3,.st (.sl (.st (.pair (.int .i64) (.sl (.st (.sl (.str))))))),.ro,true,false,none⟩]⟩
abbrev sh0_0:ES:=⟨[],[]⟩
def g0 (n m:Nat) (x:sh0.V) (kn:KN rsh) (kx:KX rsh):Option (RVs rsh):=l0 n x.2.1 x.2.2.1 (fun _=>kx 0 (sh0_0.enc ((()),(())))) m x.1.2.2.1
def T (n:Nat):Tab (RVs rsh):=fun j e kn kx=>match j with
 | 0=>ES.on sh0 e fun x=>g0 n n x kn kx
 | _=>none
theorem mk (n:Nat):MOk (cx n):=Z01 (mem_cons (laws_sameRel.ok n) Z00)
theorem u0 (n:Nat) (v:AVs ash):Z08 (cx n) 32 (T n) (kr n v) 0 (.loop b0) :=
 Z0K (n:=n) (CO _) (mk n) (MX _) an0 [(0,[])] [2,3,5] sh0 (g0 n) (fun _ _ _=>rfl) (fun _ _ _=>rfl) (fun m x kn kx=>by kernel_rfl) (l:=[]) (by kernel_rfl) (Z00)
theorem ok (n:Nat):Z07 Tryz.prog 28 (ent n) :=
 Z0E (c:=cx n) (e:=ent n) (d:=d) (CO _) (mk n) (MX _) an Tryz.func28 (by kernel_rfl) (T n) (l:=[(0,.loop b0)]) (by kernel_rfl) (fun v=>mem_cons (u0 n v) Z00) (fun v=>by kernel_rfl)
end laws_sameDb
namespace impl_DbShape
def F (n:Nat) (d1:List (Int × List (List ByteArray))):Option Bool :=
 (impl_isShape.F n d1).bind fun r2 =>
 some r2
noncomputable def code:Code:=Tryz.f32.body.getD .skip
abbrev ash:List ASh:=[.ro (.st (.sl (.st (.pair (.int .i64) (.sl (.st (.sl (.str))))))))]
abbrev rsh:List RSh:=[.ro .bool]
def ent (n:Nat):Z0Y:=⟨ash,rsh,fun v=>F n v.1⟩
noncomputable def cx (n:Nat):Ctx:=Z0D Tryz.prog TYS [(71,impl_isShape.ent n)]
noncomputable def d:FnD:=⟨code,5,.nil,[(.tmp 2,.bool,.ro)]⟩
def an:An:=.seq .nil (.seq .nil .nil)
theorem ok (n:Nat):Z07 Tryz.prog 32 (ent n) :=
 Z0H (c:=cx n) (e:=ent n) (d:=d) (CO _) (Z01 (mem_cons (impl_isShape.ok n) Z00)) (MX _) an Tryz.func32 (by kernel_rfl) (by kernel_rfl) (fun v=>by kernel_rfl)
end impl_DbShape
namespace laws_FnChanged
def l1 (n:Nat) (t11:List (Int × (List ByteArray) × Bool)) (t12:List (Int × (List ByteArray) × Bool)) (t14:List (Int × List (List ByteArray))) (t15:List (Int × List (List ByteArray))) (K0:Unit → Option Bool):Nat → Int → Option Bool
 | 0,_=>none
 | k + 1,t13 =>
 if decide (t13 < (List.length t11:Int)) = true then
 if (0:Int) ≤ t13 ∧ t13 < (List.length t11:Int) then
 if (0:Int) ≤ t13 ∧ t13 < (List.length t12:Int) then
 if (!decide (((List.getD t11 (Int.toNat t13) (0,([],false))).1) = ((List.getD t12 (Int.toNat t13) (0,([],false))).1))) = false then
 if (0:Int) ≤ t13 ∧ t13 < (List.length t11:Int) then
 if (0:Int) ≤ t13 ∧ t13 < (List.length t12:Int) then
 if (!((((List.getD t11 (Int.toNat t13) (0,([],false))).2).2) == (((List.getD t12 (Int.toNat t13) (0,([],false))).2).2))) = false then
 if (0:Int) ≤ t13 ∧ t13 < (List.length t11:Int) then
 if (0:Int) ≤ t13 ∧ t13 < (List.length t12:Int) then
 (laws_sameTexts.F n (((List.getD t11 (Int.toNat t13) (0,([],false))).2).1) (((List.getD t12 (Int.toNat t13) (0,([],false))).2).1)).bind fun r16 =>
 if (!r16) = true then
 some false
 else
 l1 n t11 t12 t14 t15 K0 k (IntKind.i64.wrap (t13 + 1))
 else
 none
 else
 none
 else
 some false
 else
 none
 else
 none
 else
 some false
 else
 none
 else
 none
 else
 K0 ()
def j0 (n:Nat) (t6:List (Int × (List ByteArray) × Bool)) (t7:Bool) (t8:List (Int × (List ByteArray) × Bool)) (t9:List (Int × List (List ByteArray))) (t10:List (Int × List (List ByteArray))):Option Bool :=
 if (!t7) = true then
 some (decide ((List.length t6:Int) = 0))
 else
 l1 n t6 t8 t9 t10 (fun _ =>
 (impl_Apply.F n t9 t6).bind fun r17 =>
 (impl_Back.F n t6).bind fun r18 =>
 (impl_Apply.F n t10 r18).bind fun r19 =>
 (impl_Changes.F n t9 t9).bind fun r20 =>
 if r17.2 = true then
 if r19.2 = true then
 (laws_sameDb.F n r17.1 t10).bind fun r21 =>
 if r21 = true then
 (laws_sameDb.F n r19.1 t9).bind fun r22 =>
 if r22 = true then
 if r20.2 = true then
 if (decide ((List.length r20.1:Int) = 0)) = true then
 (impl_DbShape.F n r17.1).bind fun r23 =>
 some r23
 else
 some false
 else
 some false
 else
 some false
 else
 some false
 else
 some false
 else
 some false) n 0
def F (n:Nat) (t1:List Int):Option Bool :=
 (laws_big.F n t1).bind fun r2 =>
 if r2 = true then
 some true
 else
 (spec_DrawChanges.F n t1).bind fun r3 =>
 (impl_Changes.F n r3.1 r3.2).bind fun r4 =>
 (spec_Changes.F n r3.1 r3.2).bind fun r5 =>
 if (!(r4.2 == r5.2)) = false then
 if (!decide ((List.length r4.1:Int) = (List.length r5.1:Int))) = true then
 some false
 else
 j0 n r4.1 r4.2 r5.1 r3.1 r3.2
 else
 some false
noncomputable def code:Code:=Tryz.f5.body.getD .skip
abbrev ash:List ASh:=[.ro (.sl (.int .u8))]
abbrev rsh:List RSh:=[.ro .bool]
def ent (n:Nat):Z0Y:=⟨ash,rsh,fun v=>F n v.1⟩
noncomputable def cx (n:Nat):Ctx:=Z0D Tryz.prog TYS [(16,spec_Changes.ent n),(18,impl_Changes.ent n),(24,laws_big.ent n),(26,impl_Apply.ent n),(28,laws_sameDb.ent n),(29,impl_Back.ent n),(30,spec_DrawChanges.ent n),(31,laws_sameTexts.ent n),(32,impl_DbShape.ent n)]
noncomputable def d:FnD:=⟨code,141,.nil,[(.tmp 2,.bool,.ro)]⟩
noncomputable def kr (n:Nat) (v:AVs ash):KN rsh:=Z1E (cx n) d (Z0R ash v) (Z0c rsh)
noncomputable def b1:Code:=Code.l (Code.l (Code.r (Code.l (Code.r (Code.r (Code.r (Code.r (Code.r (Code.r (Code.r code))))))))))
noncomputable def c0:Code:=(Code.r (Code.r (Code.r (Code.r (Code.r (Code.r code))))))
def an:An:=.seq .nil (.seq (.seq .nil (.cond (.seq .nil .nil) .nil)) (.seq .nil (.seq .nil (.seq .nil (.seq (.seq .nil (.cond (.seq .nil .nil) .nil)) (.cut 0 [3,4,5,6,7]))))))
def an1:An:=.seq (.seq .nil (.cond .nil .nil)) (.seq (.block (some [3,4,5,7,9]) (.seq .nil (.cond (.seq .nil .nil) .nil))) .nil)
abbrev sh1:ES:=⟨[(3,.pt 3 []),(4,.pt 4 []),(5,.v (.sl (.st (.pair (.int .i64) (.pair (.st (.sl (.str))) (.bool)))))),(7,.v (.sl (.st (.pair (.int .i64) (.pair (.st (.sl (.str))) (.bool)))))),(9,.v (.int .i64))],[⟨3,.st (.sl (.st (.pair (.int .i64) (.sl (.st (.sl (.str))))))),.ro,true,false,none⟩,⟨4,.st (.sl (.st (.pair (.int .i64) (.sl (.st (.sl (.str))))))),.ro,true,false,none⟩]⟩
abbrev sh1_0:ES:=⟨[(3,.pt 3 []),(4,.pt 4 []),(5,.v (.sl (.st (.pair (.int .i64) (.pair (.st (.sl (.str))) (.bool))))))],[⟨3,.st (.sl (.st (.pair (.int .i64) (.sl (.st (.sl (.str))))))),.ro,true,false,none⟩,⟨4,.st (.sl (.st (.pair (.int .i64) (.sl (.st (.sl (.str))))))),.ro,true,false,none⟩]⟩
def an0:An:=.seq (.seq .nil (.cond (.seq .nil .nil) .nil)) (.seq (.seq .nil (.block (some [3,4,5]) (.cut 1 [3,4,5,7,9]))) (.seq .nil (.seq .nil (.seq .nil (.seq .nil .nil)))))
abbrev sh0:ES:=⟨[(3,.pt 3 []),(4,.pt 4 []),(5,.v (.sl (.st (.pair (.int .i64) (.pair (.st (.sl (.str))) (.bool)))))),(6,.v .bool),(7,.v (.sl (.st (.pair (.int .i64) (.pair (.st (.sl (.str))) (.bool))))))],[⟨3,.st (.sl (.st (.pair (.int .i64) (.sl (.st (.sl (.str))))))),.ro,true,false,none⟩,⟨4,.st (.sl (.st (.pair (.int .i64) (.sl (.st (.sl (.str))))))),.ro,true,false,none⟩]⟩
def g1 (n m:Nat) (x:sh1.V) (kn:KN rsh) (kx:KX rsh):Option (RVs rsh):=l1 n x.1.2.2.1 x.1.2.2.2.1 x.2.1 x.2.2.1 (fun _=>kx 0 (sh1_0.enc (((()),(()),x.1.2.2.1,()),(x.2.1,x.2.2.1,())))) m x.1.2.2.2.2.1
def g0 (n m:Nat) (x:sh0.V) (kn:KN rsh) (kx:KX rsh):Option (RVs rsh):=j0 n x.1.2.2.1 x.1.2.2.2.1 x.1.2.2.2.2.1 x.2.1 x.2.2.1
def T (n:Nat):Tab (RVs rsh):=fun j e kn kx=>match j with
 | 1=>ES.on sh1 e fun x=>g1 n n x kn kx
 | 0=>ES.on sh0 e fun x=>g0 n n x kn kx
 | _=>none
theorem mk (n:Nat):MOk (cx n):=Z01 (mem_cons (spec_Changes.ok n) (mem_cons (impl_Changes.ok n) (mem_cons (laws_big.ok n) (mem_cons (impl_Apply.ok n) (mem_cons (laws_sameDb.ok n) (mem_cons (impl_Back.ok n) (mem_cons (spec_DrawChanges.ok n) (mem_cons (laws_sameTexts.ok n) (mem_cons (impl_DbShape.ok n) Z00)))))))))
theorem u1 (n:Nat) (v:AVs ash):Z08 (cx n) 141 (T n) (kr n v) 1 (.loop b1) :=
 Z0K (n:=n) (CO _) (mk n) (MX _) an1 [(0,[3,4,5])] [3,4,5,7,9] sh1 (g1 n) (fun _ _ _=>rfl) (fun _ _ _=>rfl) (fun m x kn kx=>by kernel_rfl) (l:=[]) (by kernel_rfl) (Z00)
theorem u0 (n:Nat) (v:AVs ash):Z08 (cx n) 141 (T n) (kr n v) 0 (c0) :=
 Z0q (CO _) (mk n) (MX _) an0 [] [2] sh0 (g0 n n) (fun _ _ _=>rfl) (fun x kn kx=>by kernel_rfl) (l:=[(1,.loop b1)]) (by kernel_rfl) (mem_cons (u1 n v) Z00)
theorem ok (n:Nat):Z07 Tryz.prog 5 (ent n) :=
 Z0E (c:=cx n) (e:=ent n) (d:=d) (CO _) (mk n) (MX _) an Tryz.func5 (by kernel_rfl) (T n) (l:=[(0,c0)]) (by kernel_rfl) (fun v=>mem_cons (u0 n v) Z00) (fun v=>by kernel_rfl)
end laws_FnChanged
end Go.Abs
