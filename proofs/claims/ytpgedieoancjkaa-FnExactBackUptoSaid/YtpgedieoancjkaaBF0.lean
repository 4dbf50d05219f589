/- The functions, and that a call of each comes to it. Conditions: none. -/
import Derived.Test.YtpgedieoancjkaaBTy
namespace Go.Abs.B
open Go.Proofs
set_option linter.unusedVariables false
/-! impl.copyTuple -/
namespace impl_copyTuple
def F (n : Nat) (t1 : List ByteArray) : Option (List ByteArray) :=
  if List.length ([] : List ByteArray) + List.length t1 ≤ lim then
  some ([] ++ t1)
  else
  none
noncomputable def code : Code := Try.f15.body.getD .skip
abbrev ash : List ASh := [.ro (.st (.sl (.str)))]
abbrev rsh : List RSh := [.own (.st (.sl (.str))) (.own .ro)]
def ent (n : Nat) : FEnt := ⟨ash, rsh, fun v => F n v.1⟩
noncomputable def cx (n : Nat) : Ctx := mkCtx Try.prog TYS []
noncomputable def d : FnD := ⟨code, 8, .nil, [(.cell 2 36, .st (.sl (.str)), .own .ro)]⟩
def an : An := .seq .nil (.seq (.reg [(3, .own .ro), (7, .own .ro)]) .nil)
theorem ok (n : Nat) : EntOk Try.prog 15 (ent n) :=
  ent_ok0 (c := cx n) (e := ent n) (d := d) (CO _) (mkCtx_ok (mem_nil)) (MX _) an Try.func15 (by kernel_rfl) (by kernel_rfl) (fun v => by kernel_rfl)
end impl_copyTuple
end Go.Abs.B
