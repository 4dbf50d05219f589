/- The functions, and that a call of each comes to it. Conditions: none. -/
import Derived.Test.YtgdlicpmbgodjaaGreatDoorF0
namespace Go.Abs
open Go.Proofs
set_option linter.unusedVariables false
namespace laws_sameTexts
def l0 (n:Nat) (a3:List ByteArray) (b4:List ByteArray) (K0:Unit → Option Bool):Nat → Int → Option Bool
 | 0,_=>none
 | k + 1,i5 =>
 if decide (i5 < (List.length a3:Int)) = true then
 if (0:Int) ≤ i5 ∧ i5 < (List.length a3:Int) then
 if (0:Int) ≤ i5 ∧ i5 < (List.length b4:Int) then
 if (!(Abs.seq (List.getD a3 (Int.toNat i5) ByteArray.empty) (List.getD b4 (Int.toNat i5) ByteArray.empty))) = true then
 some false
 else
 l0 n a3 b4 K0 k (IntKind.i64.wrap (i5 + 1))
 else
 none
 else
 none
 else
 K0 ()
def F (n:Nat) (a1:List ByteArray) (b2:List ByteArray):Option Bool :=
 if (!decide ((List.length a1:Int) = (List.length b2:Int))) = true then
 some false
 else
 l0 n a1 b2 (fun _ =>
 some true) n 0
noncomputable def code:Code:=Tryz.f31.body.getD .skip
abbrev ash:List ASh:=[.ro (.sl (.str)),.ro (.sl (.str))]
abbrev rsh:List RSh:=[.ro .bool]
def ent (n:Nat):Z0W:=⟨ash,rsh,fun v=>F n v.1 v.2.1⟩
noncomputable def cx (n:Nat):Ctx:=Z0D Tryz.prog TYS []
noncomputable def d:FnD:=⟨code,26,.nil,[(.tmp 4,.bool,.ro)]⟩
noncomputable def kr (n:Nat) (v:AVs ash):KN rsh:=Z1E (cx n) d (Z0Q ash v) (Z0b rsh)
noncomputable def b0:Code:=Code.l (Code.l (Code.r (Code.l (Code.r (Code.r code)))))
def an:An:=.seq .nil (.seq (.seq .nil (.cond (.seq .nil .nil) .nil)) (.seq (.seq .nil (.block (some []) (.cut 0 [0,1,5]))) (.seq .nil .nil)))
def an0:An:=.seq (.seq .nil (.cond .nil .nil)) (.seq (.block (some [0,1,5]) (.seq .nil (.cond (.seq .nil .nil) .nil))) .nil)
abbrev sh0:ES:=⟨[(0,.v (.sl (.str))),(1,.v (.sl (.str))),(5,.v (.int .i64))],[]⟩
abbrev sh0_0:ES:=⟨[],[]⟩
def g0 (n m:Nat) (x:sh0.V) (kn:KN rsh) (kx:KX rsh):Option (RVs rsh):=l0 n x.1.1 x.1.2.1 (fun _=>kx 0 (sh0_0.enc ((()),(())))) m x.1.2.2.1
def T (n:Nat):Tab (RVs rsh):=fun j e kn kx=>match j with
 | 0=>ES.on sh0 e fun x=>g0 n n x kn kx
 | _=>none
theorem mk (n:Nat):MOk (cx n):=Z01 (Z00)
theorem u0 (n:Nat) (v:AVs ash):Z08 (cx n) 26 (T n) (kr n v) 0 (.loop b0) :=
 Z0O (n:=n) (CO _) (mk n) (MX _) an0 [(0,[])] [0,1,5] sh0 (g0 n) (fun _ _ _=>rfl) (fun _ _ _=>rfl) (fun m x kn kx=>by kernel_rfl) (l:=[]) (by kernel_rfl) (Z00)
theorem ok (n:Nat):Z07 Tryz.prog 31 (ent n) :=
 Z0E (c:=cx n) (e:=ent n) (d:=d) (CO _) (mk n) (MX _) an Tryz.func31 (by kernel_rfl) (T n) (l:=[(0,.loop b0)]) (by kernel_rfl) (fun v=>mem_cons (u0 n v) Z00) (fun v=>by kernel_rfl)
end laws_sameTexts
namespace laws_sameRows
def l0 (n:Nat) (a3:List (List ByteArray)) (b4:List (List ByteArray)) (K0:Unit → Option Bool):Nat → Int → Option Bool
 | 0,_=>none
 | k + 1,i5 =>
 if decide (i5 < (List.length a3:Int)) = true then
 if (0:Int) ≤ i5 ∧ i5 < (List.length a3:Int) then
 if (0:Int) ≤ i5 ∧ i5 < (List.length b4:Int) then
 (laws_sameTexts.F n (List.getD a3 (Int.toNat i5) []) (List.getD b4 (Int.toNat i5) [])).bind fun r6 =>
 if (!r6) = true then
 some false
 else
 l0 n a3 b4 K0 k (IntKind.i64.wrap (i5 + 1))
 else
 none
 else
 none
 else
 K0 ()
def F (n:Nat) (a1:List (List ByteArray)) (b2:List (List ByteArray)):Option Bool :=
 if (!decide ((List.length a1:Int) = (List.length b2:Int))) = true then
 some false
 else
 l0 n a1 b2 (fun _ =>
 some true) n 0
noncomputable def code:Code:=Tryz.f49.body.getD .skip
abbrev ash:List ASh:=[.ro (.sl (.st (.sl (.str)))),.ro (.sl (.st (.sl (.str))))]
abbrev rsh:List RSh:=[.ro .bool]
def ent (n:Nat):Z0W:=⟨ash,rsh,fun v=>F n v.1 v.2.1⟩
noncomputable def cx (n:Nat):Ctx:=Z0D Tryz.prog TYS [(31,laws_sameTexts.ent n)]
noncomputable def d:FnD:=⟨code,29,.nil,[(.tmp 4,.bool,.ro)]⟩
noncomputable def kr (n:Nat) (v:AVs ash):KN rsh:=Z1E (cx n) d (Z0Q ash v) (Z0b rsh)
noncomputable def b0:Code:=Code.l (Code.l (Code.r (Code.l (Code.r (Code.r code)))))
def an:An:=.seq .nil (.seq (.seq .nil (.cond (.seq .nil .nil) .nil)) (.seq (.seq .nil (.block (some []) (.cut 0 [0,1,5]))) (.seq .nil .nil)))
def an0:An:=.seq (.seq .nil (.cond .nil .nil)) (.seq (.block (some [0,1,5]) (.seq .nil (.cond (.seq .nil .nil) .nil))) .nil)
abbrev sh0:ES:=⟨[(0,.v (.sl (.st (.sl (.str))))),(1,.v (.sl (.st (.sl (.str))))),(5,.v (.int .i64))],[]⟩
abbrev sh0_0:ES:=⟨[],[]⟩
def g0 (n m:Nat) (x:sh0.V) (kn:KN rsh) (kx:KX rsh):Option (RVs rsh):=l0 n x.1.1 x.1.2.1 (fun _=>kx 0 (sh0_0.enc ((()),(())))) m x.1.2.2.1
def T (n:Nat):Tab (RVs rsh):=fun j e kn kx=>match j with
 | 0=>ES.on sh0 e fun x=>g0 n n x kn kx
 | _=>none
theorem mk (n:Nat):MOk (cx n):=Z01 (mem_cons (laws_sameTexts.ok n) Z00)
theorem u0 (n:Nat) (v:AVs ash):Z08 (cx n) 29 (T n) (kr n v) 0 (.loop b0) :=
 Z0O (n:=n) (CO _) (mk n) (MX _) an0 [(0,[])] [0,1,5] sh0 (g0 n) (fun _ _ _=>rfl) (fun _ _ _=>rfl) (fun m x kn kx=>by kernel_rfl) (l:=[]) (by kernel_rfl) (Z00)
theorem ok (n:Nat):Z07 Tryz.prog 49 (ent n) :=
 Z0E (c:=cx n) (e:=ent n) (d:=d) (CO _) (mk n) (MX _) an Tryz.func49 (by kernel_rfl) (T n) (l:=[(0,.loop b0)]) (by kernel_rfl) (fun v=>mem_cons (u0 n v) Z00) (fun v=>by kernel_rfl)
end laws_sameRows
namespace laws_sameRel
def F (n:Nat) (a1:Int × List (List ByteArray)) (b2:Int × List (List ByteArray)):Option Bool :=
 if (decide (a1.1 = b2.1)) = true then
 (laws_sameRows.F n a1.2 b2.2).bind fun r3 =>
 some r3
 else
 some false
noncomputable def code:Code:=Tryz.f60.body.getD .skip
abbrev ash:List ASh:=[.ro (.st (.pair (.int .i64) (.sl (.st (.sl (.str)))))),.ro (.st (.pair (.int .i64) (.sl (.st (.sl (.str))))))]
abbrev rsh:List RSh:=[.ro .bool]
def ent (n:Nat):Z0W:=⟨ash,rsh,fun v=>F n v.1 v.2.1⟩
noncomputable def cx (n:Nat):Ctx:=Z0D Tryz.prog TYS [(49,laws_sameRows.ent n)]
noncomputable def d:FnD:=⟨code,17,.nil,[(.tmp 4,.bool,.ro)]⟩
def an:An:=.seq .nil (.seq .nil .nil)
theorem ok (n:Nat):Z07 Tryz.prog 60 (ent n) :=
 Z0H (c:=cx n) (e:=ent n) (d:=d) (CO _) (Z01 (mem_cons (laws_sameRows.ok n) Z00)) (MX _) an Tryz.func60 (by kernel_rfl) (by kernel_rfl) (fun v=>by kernel_rfl)
end laws_sameRel
namespace laws_sameDb
def l0 (n:Nat) (a4:List (Int × List (List ByteArray))) (b5:List (Int × List (List ByteArray))) (K0:Unit → Option Bool):Nat → Int → Option Bool
 | 0,_=>none
 | k + 1,i3 =>
 if decide (i3 < (List.length a4:Int)) = true then
 if (0:Int) ≤ i3 ∧ i3 < (List.length a4:Int) then
 if (0:Int) ≤ i3 ∧ i3 < (List.length b5:Int) then
 (laws_sameRel.F n (List.getD a4 (Int.toNat i3) (0,[])) (List.getD b5 (Int.toNat i3) (0,[]))).bind fun r6 =>
 if (!r6) = true then
 some false
 else
 l0 n a4 b5 K0 k (IntKind.i64.wrap (i3 + 1))
 else
 none
 else
 none
 else
 K0 ()
def F (n:Nat) (a1:List (Int × List (List ByteArray))) (b2:List (Int × List (List ByteArray))):Option Bool :=
 if (!decide ((List.length a1:Int) = (List.length b2:Int))) = true then
 some false
 else
 l0 n a1 b2 (fun _ =>
 some true) n 0
noncomputable def code:Code:=Tryz.f28.body.getD .skip
abbrev ash:List ASh:=[.ro (.st (.sl (.st (.pair (.int .i64) (.sl (.st (.sl (.str)))))))),.ro (.st (.sl (.st (.pair (.int .i64) (.sl (.st (.sl (.str))))))))]
abbrev rsh:List RSh:=[.ro .bool]
def ent (n:Nat):Z0W:=⟨ash,rsh,fun v=>F n v.1 v.2.1⟩
noncomputable def cx (n:Nat):Ctx:=Z0D Tryz.prog TYS [(60,laws_sameRel.ent n)]
noncomputable def d:FnD:=⟨code,32,.nil,[(.tmp 4,.bool,.ro)]⟩
noncomputable def kr (n:Nat) (v:AVs ash):KN rsh:=Z1E (cx n) d (Z0Q ash v) (Z0b rsh)
noncomputable def b0:Code:=Code.l (Code.l (Code.r (Code.l (Code.r (Code.r code)))))
def an:An:=.seq .nil (.seq (.seq .nil (.cond (.seq .nil .nil) .nil)) (.seq (.seq .nil (.block (some []) (.cut 0 [2,3,5]))) (.seq .nil .nil)))
def an0:An:=.seq (.seq .nil (.cond .nil .nil)) (.seq (.block (some [2,3,5]) (.seq .nil (.cond (.seq .nil .nil) .nil))) .nil)
abbrev sh0:ES:=⟨[(2,.pt 2 []),(3,.pt 3 []),(5,.v (.int .i64))],[⟨2,.st (.sl (.st (.pair (.int .i64) (.sl (.st (.sl (.str))))))),.ro,true,false,none⟩,⟨3,.st (.sl (.st (.pair (.int .i64) (.sl (.st (.sl (.str))))))),.ro,true,false,none⟩]⟩
abbrev sh0_0:ES:=⟨[],[]⟩
def g0 (n m:Nat) (x:sh0.V) (kn:KN rsh) (kx:KX rsh):Option (RVs rsh):=l0 n x.2.1 x.2.2.1 (fun _=>kx 0 (sh0_0.enc ((()),(())))) m x.1.2.2.1
def T (n:Nat):Tab (RVs rsh):=fun j e kn kx=>match j with
 | 0=>ES.on sh0 e fun x=>g0 n n x kn kx
 | _=>none
theorem mk (n:Nat):MOk (cx n):=Z01 (mem_cons (laws_sameRel.ok n) Z00)
theorem u0 (n:Nat) (v:AVs ash):Z08 (cx n) 32 (T n) (kr n v) 0 (.loop b0) :=
 Z0O (n:=n) (CO _) (mk n) (MX _) an0 [(0,[])] [2,3,5] sh0 (g0 n) (fun _ _ _=>rfl) (fun _ _ _=>rfl) (fun m x kn kx=>by kernel_rfl) (l:=[]) (by kernel_rfl) (Z00)
theorem ok (n:Nat):Z07 Tryz.prog 28 (ent n) :=
 Z0E (c:=cx n) (e:=ent n) (d:=d) (CO _) (mk n) (MX _) an Tryz.func28 (by kernel_rfl) (T n) (l:=[(0,.loop b0)]) (by kernel_rfl) (fun v=>mem_cons (u0 n v) Z00) (fun v=>by kernel_rfl)
end laws_sameDb
namespace laws_FnUndone
def j0 (n:Nat) (list7:List (Int × (List ByteArray) × Bool)) (ok8:Bool) (d9:List (Int × List (List ByteArray))) (e10:List (Int × List (List ByteArray))):Option Bool :=
 if (!ok8) = true then
 some (decide ((List.length e10:Int) = 0))
 else
 (impl_Back.F n list7).bind fun r11 =>
 (impl_Apply.F n e10 r11).bind fun r12 =>
 if r12.2 = true then
 (laws_sameDb.F n r12.1 d9).bind fun r13 =>
 some r13
 else
 some false
def F (n:Nat) (code1:List Int):Option Bool :=
 (laws_big.F n code1).bind fun r2 =>
 if r2 = true then
 some true
 else
 (spec_DrawApply.F n code1).bind fun r3 =>
 (impl_Apply.F n r3.1 r3.2).bind fun r4 =>
 (spec_Apply.F n r3.1 r3.2).bind fun r5 =>
 if (!(r4.2 == r5.2)) = false then
 (laws_sameDb.F n r4.1 r5.1).bind fun r6 =>
 if (!r6) = true then
 some false
 else
 j0 n r3.2 r4.2 r3.1 r4.1
 else
 some false
noncomputable def code:Code:=Tryz.f4.body.getD .skip
abbrev ash:List ASh:=[.ro (.sl (.int .u8))]
abbrev rsh:List RSh:=[.ro .bool]
def ent (n:Nat):Z0W:=⟨ash,rsh,fun v=>F n v.1⟩
noncomputable def cx (n:Nat):Ctx:=Z0D Tryz.prog TYS [(24,laws_big.ent n),(25,spec_DrawApply.ent n),(26,impl_Apply.ent n),(27,spec_Apply.ent n),(28,laws_sameDb.ent n),(29,impl_Back.ent n)]
noncomputable def d:FnD:=⟨code,58,.nil,[(.tmp 2,.bool,.ro)]⟩
noncomputable def kr (n:Nat) (v:AVs ash):KN rsh:=Z1E (cx n) d (Z0Q ash v) (Z0b rsh)
noncomputable def c0:Code:=(Code.r (Code.r (Code.r (Code.r (Code.r (Code.r code))))))
def an:An:=.seq .nil (.seq (.seq .nil (.cond (.seq .nil .nil) .nil)) (.seq .nil (.seq .nil (.seq .nil (.seq (.seq .nil (.cond (.seq .nil .nil) .nil)) (.cut 0 [3,4,5,6]))))))
def an0:An:=.seq (.seq .nil (.cond (.seq .nil .nil) .nil)) (.seq .nil (.seq .nil .nil))
abbrev sh0:ES:=⟨[(3,.pt 3 []),(4,.v (.sl (.st (.pair (.int .i64) (.pair (.st (.sl (.str))) (.bool)))))),(5,.pt 5 []),(6,.v .bool)],[⟨3,.st (.sl (.st (.pair (.int .i64) (.sl (.st (.sl (.str))))))),.ro,true,false,none⟩,⟨5,.st (.sl (.st (.pair (.int .i64) (.sl (.st (.sl (.str))))))),.ro,true,false,none⟩]⟩
def g0 (n m:Nat) (x:sh0.V) (kn:KN rsh) (kx:KX rsh):Option (RVs rsh):=j0 n x.1.2.1 x.1.2.2.2.1 x.2.1 x.2.2.1
def T (n:Nat):Tab (RVs rsh):=fun j e kn kx=>match j with
 | 0=>ES.on sh0 e fun x=>g0 n n x kn kx
 | _=>none
theorem mk (n:Nat):MOk (cx n):=Z01 (mem_cons (laws_big.ok n) (mem_cons (spec_DrawApply.ok n) (mem_cons (impl_Apply.ok n) (mem_cons (spec_Apply.ok n) (mem_cons (laws_sameDb.ok n) (mem_cons (impl_Back.ok n) Z00))))))
theorem u0 (n:Nat) (v:AVs ash):Z08 (cx n) 58 (T n) (kr n v) 0 (c0) :=
 Z0p (CO _) (mk n) (MX _) an0 [] [2] sh0 (g0 n n) (fun _ _ _=>rfl) (fun x kn kx=>by kernel_rfl) (l:=[]) (by kernel_rfl) (Z00)
theorem ok (n:Nat):Z07 Tryz.prog 4 (ent n) :=
 Z0E (c:=cx n) (e:=ent n) (d:=d) (CO _) (mk n) (MX _) an Tryz.func4 (by kernel_rfl) (T n) (l:=[(0,c0)]) (by kernel_rfl) (fun v=>mem_cons (u0 n v) Z00) (fun v=>by kernel_rfl)
end laws_FnUndone
end Go.Abs
