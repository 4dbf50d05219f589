/- The functions, and that a call of each comes to it. Conditions: none. -/
import Derived.Test.YtgdlicpmbgodjaaGreatDoorRTy
namespace Go.Abs.R
open Go.Proofs
set_option linter.unusedVariables false
namespace slices_IndexFunc_Tuple_Tuple
def l0 (n:Nat) (s3:List (List Value)) (f4:((List Value) × Unit) → Option Bool) (t5:Int) (K0:Unit → Option Int):Nat → Int → Option Int
 | 0,_=>none
 | k + 1,t6 =>
  if decide (t6 < t5) = true then
   if (0:Int) ≤ t6 ∧ t6 < (List.length s3:Int) then
    (f4 (List.getD s3 (Int.toNat t6) (Kd.zc (.st (.sl (.str)))),())).bind fun r7 =>
    if r7 = true then
     some t6
    else
     l0 n s3 f4 t5 K0 k (IntKind.i64.wrap (t6 + 1))
   else
    none
  else
   K0 ()
def F (n:Nat) (s1:List (List Value)) (f2:((List Value) × Unit) → Option Bool):Option Int :=
 l0 n s1 f2 (List.length s1:Int) (fun _ =>
  some (-1)) n 0
noncomputable def code:Code:=Tryz.f143.body.getD .skip
abbrev ash:List ASh:=[.ro (.sl (.raw (.st (.sl (.str))))),.fn [.raw (.st (.sl (.str)))] .bool]
abbrev rsh:List RSh:=[.ro (.int .i64)]
def ent (n:Nat):Z0W:=⟨ash,rsh,fun v=>F n v.1 v.2.1⟩
noncomputable def cx (n:Nat):Ctx:=Z0D Tryz.prog TYS []
noncomputable def d:FnD:=⟨code,19,.nil,[(.tmp 4,.int .i64,.ro)]⟩
noncomputable def kr (n:Nat) (v:AVs ash):KN rsh:=Z1E (cx n) d (Z0Q ash v) (Z0b rsh)
noncomputable def b0:Code:=Code.l (Code.l (Code.r (Code.l (Code.r code))))
def an:An:=.seq .nil (.seq (.seq .nil (.block (some []) (.cut 0 [0,1,7,8]))) (.seq .nil .nil))
def an0:An:=.seq .nil (.seq (.cond .nil .nil) (.seq (.block (some [0,1,7,8]) (.seq .nil (.seq .nil (.cond (.seq .nil .nil) .nil)))) .nil))
abbrev sh0:ES:=⟨[(0,.v (.sl (.raw (.st (.sl (.str)))))),(1,.clo [.raw (.st (.sl (.str)))] .bool),(7,.v (.int .i64)),(8,.v (.int .i64))],[]⟩
abbrev sh0_0:ES:=⟨[],[]⟩
def g0 (n m:Nat) (x:sh0.V) (kn:KN rsh) (kx:KX rsh):Option (RVs rsh):=l0 n x.1.1 x.1.2.1 x.1.2.2.1 (fun _=>kx 0 (sh0_0.enc ((()),(())))) m x.1.2.2.2.1
def T (n:Nat):Tab (RVs rsh):=fun j e kn kx=>match j with
 | 0=>ES.on sh0 e fun x=>g0 n n x kn kx
 | _=>none
theorem mk (n:Nat):MOk (cx n):=Z01 (Z00)
theorem u0 (n:Nat) (v:AVs ash):Z08 (cx n) 19 (T n) (kr n v) 0 (.loop b0) :=
 Z0O (n:=n) (CO _) (mk n) (MX _) an0 [(0,[])] [0,1,7,8] sh0 (g0 n) (fun _ _ _=>rfl) (fun _ _ _=>rfl) (fun m x kn kx=>by kernel_rfl) (l:=[]) (by kernel_rfl) (Z00)
theorem ok (n:Nat):Z07 Tryz.prog 143 (ent n) :=
 Z0E (c:=cx n) (e:=ent n) (d:=d) (CO _) (mk n) (MX _) an Tryz.func143 (by kernel_rfl) (T n) (l:=[(0,.loop b0)]) (by kernel_rfl) (fun v=>mem_cons (u0 n v) Z00) (fun v=>by kernel_rfl)
end slices_IndexFunc_Tuple_Tuple
namespace slices_DeleteFunc_Tuple_Tuple
def l0 (n:Nat) (del4:((List Value) × Unit) → Option Bool) (K0:Int → (List (List Value)) → Option (List (List Value))):Nat → Int → Int → (List (List Value)) → Option (List (List Value))
 | 0,_,_,_=>none
 | k + 1,i5,j6,s7 =>
  if decide (j6 < (List.length s7:Int)) = true then
   if (0:Int) ≤ j6 ∧ j6 < (List.length s7:Int) then
    (del4 (List.getD s7 (Int.toNat j6) (Kd.zc (.st (.sl (.str)))),())).bind fun r8 =>
    if (!r8) = true then
     if (0:Int) ≤ i5 ∧ i5 < (List.length s7:Int) then
      let w9:List (List Value):=List.set s7 (Int.toNat i5) (List.getD s7 (Int.toNat j6) (Kd.zc (.st (.sl (.str)))))
      l0 n del4 K0 k (IntKind.i64.wrap (i5 + 1)) (IntKind.i64.wrap (j6 + 1)) w9
     else
      none
    else
     l0 n del4 K0 k i5 (IntKind.i64.wrap (j6 + 1)) s7
   else
    none
  else
   K0 i5 s7
def F (n:Nat) (s1:List (List Value)) (del2:((List Value) × Unit) → Option Bool):Option (List (List Value)) :=
 (slices_IndexFunc_Tuple_Tuple.F n s1 del2).bind fun r3 =>
 if decide (r3 = (-1)) = true then
  some s1
 else
  l0 n del2 (fun i10 s11 =>
   if (0:Int) ≤ i10 ∧ i10 ≤ (List.length s11:Int) ∧ (List.length s11:Int) ≤ (List.length s11:Int) then
    if (0:Int) ≤ 0 ∧ (0:Int) ≤ i10 ∧ i10 ≤ (List.length (List.take (Int.toNat i10) s11 ++ (List.replicate (Int.toNat (List.length s11:Int) - Int.toNat i10) (Kd.zc (.st (.sl (.str)))) ++ List.drop (Int.toNat (List.length s11:Int)) s11)):Int) then
     some (List.drop (Int.toNat 0) (List.take (Int.toNat i10) (List.take (Int.toNat i10) s11 ++ (List.replicate (Int.toNat (List.length s11:Int) - Int.toNat i10) (Kd.zc (.st (.sl (.str)))) ++ List.drop (Int.toNat (List.length s11:Int)) s11))))
    else
     none
   else
    none) n r3 (IntKind.i64.wrap (r3 + 1)) s1
noncomputable def code:Code:=Tryz.f90.body.getD .skip
abbrev ash:List ASh:=[.mv (.sl (.raw (.st (.sl (.str))))) (.own .ro),.fn [.raw (.st (.sl (.str)))] .bool]
abbrev rsh:List RSh:=[.own (.sl (.raw (.st (.sl (.str))))) (.own .ro)]
def ent (n:Nat):Z0W:=⟨ash,rsh,fun v=>F n v.1 v.2.1⟩
noncomputable def cx (n:Nat):Ctx:=Z0D Tryz.prog TYS [(143,slices_IndexFunc_Tuple_Tuple.ent n)]
noncomputable def d:FnD:=⟨code,42,.nil,[(.tmp 4,.sl (.raw (.st (.sl (.str)))),.own .ro)]⟩
noncomputable def kr (n:Nat) (v:AVs ash):KN rsh:=Z1E (cx n) d (Z0Q ash v) (Z0b rsh)
noncomputable def b0:Code:=Code.l (Code.l (Code.r (Code.l (Code.r (Code.r (Code.r code))))))
def an:An:=.seq .nil (.seq .nil (.seq (.seq .nil (.cond (.seq .nil .nil) .nil)) (.seq (.seq .nil (.block (some [0,5]) (.cut 0 [0,1,5,6]))) (.seq (.reg [(38,.ro)]) (.seq .nil .nil)))))
def an0:An:=.seq (.seq .nil (.cond .nil .nil)) (.seq (.block (some [0,1,5,6]) (.seq .nil (.seq .nil (.cond (.seq .nil .nil) .nil)))) .nil)
abbrev sh0:ES:=⟨[(0,.al 0 []),(1,.clo [.raw (.st (.sl (.str)))] .bool),(5,.v (.int .i64)),(6,.v (.int .i64))],[⟨0,.sl (.raw (.st (.sl (.str)))),.own .ro,false,false,none⟩]⟩
abbrev sh0_0:ES:=⟨[(0,.al 0 []),(5,.v (.int .i64))],[⟨0,.sl (.raw (.st (.sl (.str)))),.own .ro,false,false,none⟩]⟩
def g0 (n m:Nat) (x:sh0.V) (kn:KN rsh) (kx:KX rsh):Option (RVs rsh):=l0 n x.1.2.1 (fun y0 y1=>kx 0 (sh0_0.enc (((()),y0,()),(y1,())))) m x.1.2.2.1 x.1.2.2.2.1 x.2.1
def T (n:Nat):Tab (RVs rsh):=fun j e kn kx=>match j with
 | 0=>ES.on sh0 e fun x=>g0 n n x kn kx
 | _=>none
theorem mk (n:Nat):MOk (cx n):=Z01 (mem_cons (slices_IndexFunc_Tuple_Tuple.ok n) Z00)
theorem u0 (n:Nat) (v:AVs ash):Z08 (cx n) 42 (T n) (kr n v) 0 (.loop b0) :=
 Z0O (n:=n) (CO _) (mk n) (MX _) an0 [(0,[0,5])] [0,1,5,6] sh0 (g0 n) (fun _ _ _=>rfl) (fun _ _ _=>rfl) (fun m x kn kx=>by kernel_rfl) (l:=[]) (by kernel_rfl) (Z00)
theorem ok (n:Nat):Z07 Tryz.prog 90 (ent n) :=
 Z0E (c:=cx n) (e:=ent n) (d:=d) (CO _) (mk n) (MX _) an Tryz.func90 (by kernel_rfl) (T n) (l:=[(0,.loop b0)]) (by kernel_rfl) (fun v=>mem_cons (u0 n v) Z00) (fun v=>by kernel_rfl)
end slices_DeleteFunc_Tuple_Tuple
end Go.Abs.R
