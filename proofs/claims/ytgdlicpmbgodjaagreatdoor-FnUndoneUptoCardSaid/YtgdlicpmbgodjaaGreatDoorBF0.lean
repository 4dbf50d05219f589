/- The functions, and that a call of each comes to it. Conditions: none. -/
import Derived.Test.YtgdlicpmbgodjaaGreatDoorBTy
namespace Go.Abs.B
open Go.Proofs
set_option linter.unusedVariables false
namespace impl_copyTuple
def F (n:Nat) (t1:List ByteArray):Option (List ByteArray) :=
 if List.length ([]:List ByteArray) + List.length t1 ≤ lim then
 some ([] ++ t1)
 else
 none
noncomputable def code:Code:=Tryz.f99.body.getD .skip
abbrev ash:List ASh:=[.ro (.st (.sl (.str)))]
abbrev rsh:List RSh:=[.own (.st (.sl (.str))) (.own .ro)]
def ent (n:Nat):Z0W:=⟨ash,rsh,fun v=>F n v.1⟩
noncomputable def cx (n:Nat):Ctx:=Z0D Tryz.prog TYS []
noncomputable def d:FnD:=⟨code,8,.nil,[(.cell 2 49,.st (.sl (.str)),.own .ro)]⟩
def an:An:=.seq .nil (.seq (.reg [(3,.own .ro),(7,.own .ro)]) .nil)
theorem ok (n:Nat):Z07 Tryz.prog 99 (ent n) :=
 Z0H (c:=cx n) (e:=ent n) (d:=d) (CO _) (Z01 (Z00)) (MX _) an Tryz.func99 (by kernel_rfl) (by kernel_rfl) (fun v=>by kernel_rfl)
end impl_copyTuple
end Go.Abs.B
