/- The functions, and that a call of each comes to it. Conditions: none. -/
import Derived.Test.YtdjdgempjnlkeaaF0
namespace Go.Abs
open Go.Proofs
set_option linter.unusedVariables false
namespace laws_markExpS
end laws_markExpS
namespace laws_markLit
end laws_markLit
namespace laws_markLitS
end laws_markLitS
namespace laws_markRule
end laws_markRule
namespace laws_markStringS
end laws_markStringS
namespace laws_markMatch
end laws_markMatch
namespace laws_heldStringS
end laws_heldStringS
namespace laws_heldMatch
end laws_heldMatch
namespace laws_FnExactCarries
end laws_FnExactCarries
namespace spec_Contains
def F (n : Nat) (a1 : (List (Int × ByteArray × List Int)) × (Int × ByteArray × List Int) × List (Int × ByteArray × List Int)) (b2 : (List (Int × ByteArray × List Int)) × (Int × ByteArray × List Int) × List (Int × ByteArray × List Int)) : Option Bool :=
 (spec_Carries.F n a1 b2).bind fun r3 =>
 some r3.2
noncomputable def code : Code := Try.f12.body.getD .skip
abbrev ash : List ASh := [.ro (.st (.pair (.sl (.st (.pair (.int .i64) (.pair (.str) (.sl (.int .i64)))))) (.pair (.st (.pair (.int .i64) (.pair (.str) (.sl (.int .i64))))) (.sl (.st (.pair (.int .i64) (.pair (.str) (.sl (.int .i64))))))))), .ro (.st (.pair (.sl (.st (.pair (.int .i64) (.pair (.str) (.sl (.int .i64)))))) (.pair (.st (.pair (.int .i64) (.pair (.str) (.sl (.int .i64))))) (.sl (.st (.pair (.int .i64) (.pair (.str) (.sl (.int .i64)))))))))]
abbrev rsh : List RSh := [.ro .bool]
def ent (n : Nat) : FEnt := ⟨ash, rsh, fun v => F n v.1 v.2.1⟩
noncomputable def cx (n : Nat) : Ctx := mkCtx Try.prog TYS [(14, spec_Carries.ent n)]
noncomputable def d : FnD := ⟨code, 14, .nil, [(.tmp 4, .bool, .ro)]⟩
def an : An := .seq .nil (.seq .nil (.seq .nil .nil))
theorem ok (n : Nat) : EntOk Try.prog 12 (ent n) :=
 ent_ok0 (c := cx n) (e := ent n) (d := d) (CO _) (mkCtx_ok (mem_cons (spec_Carries.ok n) mem_nil)) (MX _) an Try.func12 (by kernel_rfl) (by kernel_rfl) (fun v => by kernel_rfl)
end spec_Contains
namespace impl_Contains
def F (n : Nat) (a1 : (List (Int × ByteArray × List Int)) × (Int × ByteArray × List Int) × List (Int × ByteArray × List Int)) (b2 : (List (Int × ByteArray × List Int)) × (Int × ByteArray × List Int) × List (Int × ByteArray × List Int)) : Option Bool :=
 (impl_isPlain.F n a1).bind fun r3 =>
 if (!r3) = false then
 (impl_isPlain.F n b2).bind fun r4 =>
 if (!r4) = true then
 some false
 else
 (impl_carries.F n a1 b2).bind fun r5 =>
 some r5.2
 else
 some false
noncomputable def code : Code := Try.f13.body.getD .skip
abbrev ash : List ASh := [.ro (.st (.pair (.sl (.st (.pair (.int .i64) (.pair (.str) (.sl (.int .i64)))))) (.pair (.st (.pair (.int .i64) (.pair (.str) (.sl (.int .i64))))) (.sl (.st (.pair (.int .i64) (.pair (.str) (.sl (.int .i64))))))))), .ro (.st (.pair (.sl (.st (.pair (.int .i64) (.pair (.str) (.sl (.int .i64)))))) (.pair (.st (.pair (.int .i64) (.pair (.str) (.sl (.int .i64))))) (.sl (.st (.pair (.int .i64) (.pair (.str) (.sl (.int .i64)))))))))]
abbrev rsh : List RSh := [.ro .bool]
def ent (n : Nat) : FEnt := ⟨ash, rsh, fun v => F n v.1 v.2.1⟩
noncomputable def cx (n : Nat) : Ctx := mkCtx Try.prog TYS [(32, impl_isPlain.ent n), (36, impl_carries.ent n)]
noncomputable def d : FnD := ⟨code, 22, .nil, [(.tmp 4, .bool, .ro)]⟩
def an : An := .seq .nil (.seq (.seq .nil (.cond (.seq .nil .nil) .nil)) (.seq .nil (.seq .nil .nil)))
theorem ok (n : Nat) : EntOk Try.prog 13 (ent n) :=
 ent_ok0 (c := cx n) (e := ent n) (d := d) (CO _) (mkCtx_ok (mem_cons (impl_isPlain.ok n) (mem_cons (impl_carries.ok n) mem_nil))) (MX _) an Try.func13 (by kernel_rfl) (by kernel_rfl) (fun v => by kernel_rfl)
end impl_Contains
namespace laws_FnExactContains
def F (n : Nat) (aA1 : (List (Int × ByteArray × List Int)) × (Int × ByteArray × List Int) × List (Int × ByteArray × List Int)) (aB2 : (List (Int × ByteArray × List Int)) × (Int × ByteArray × List Int) × List (Int × ByteArray × List Int)) : Option Bool :=
 (laws_szRule.F n aA1 1048576).bind fun r3 =>
 if decide (r3 < 0) = true then
 some true
 else
 (laws_szRule.F n aB2 r3).bind fun r4 =>
 if decide (r4 < 0) = true then
 some true
 else
 (laws_toRule.F n aA1).bind fun r5 =>
 (laws_toRule.F n aB2).bind fun r6 =>
 (spec_Contains.F n r5 r6).bind fun r7 =>
 (laws_toRule.F n aA1).bind fun r8 =>
 (laws_toRule.F n aB2).bind fun r9 =>
 (impl_Contains.F n r8 r9).bind fun r10 =>
 if (!(r10 == r7)) = true then
 some false
 else
 (laws_toRule.F n aA1).bind fun r11 =>
 (laws_eqRule.F n r8 r11).bind fun r12 =>
 if (!r12) = true then
 some false
 else
 (laws_toRule.F n aB2).bind fun r13 =>
 (laws_eqRule.F n r9 r13).bind fun r14 =>
 if (!r14) = true then
 some false
 else
 some true
noncomputable def code : Code := Try.f4.body.getD .skip
abbrev ash : List ASh := [.ro (.st (.pair (.sl (.st (.pair (.int .i64) (.pair (.str) (.sl (.int .i64)))))) (.pair (.st (.pair (.int .i64) (.pair (.str) (.sl (.int .i64))))) (.sl (.st (.pair (.int .i64) (.pair (.str) (.sl (.int .i64))))))))), .ro (.st (.pair (.sl (.st (.pair (.int .i64) (.pair (.str) (.sl (.int .i64)))))) (.pair (.st (.pair (.int .i64) (.pair (.str) (.sl (.int .i64))))) (.sl (.st (.pair (.int .i64) (.pair (.str) (.sl (.int .i64)))))))))]
abbrev rsh : List RSh := [.ro .bool]
def ent (n : Nat) : FEnt := ⟨ash, rsh, fun v => F n v.1 v.2.1⟩
noncomputable def cx (n : Nat) : Ctx := mkCtx Try.prog TYS [(7, laws_szRule.ent n), (9, laws_toRule.ent n), (11, laws_eqRule.ent n), (12, spec_Contains.ent n), (13, impl_Contains.ent n)]
noncomputable def d : FnD := ⟨code, 45, .nil, [(.tmp 4, .bool, .ro)]⟩
def an : An := .seq .nil (.seq .nil (.seq .nil (.seq (.seq .nil (.cond (.seq .nil .nil) .nil)) (.seq .nil (.seq (.seq .nil (.cond (.seq .nil .nil) .nil)) (.seq .nil (.seq .nil (.seq .nil (.seq .nil (.seq (.seq .nil (.cond (.seq .nil .nil) .nil)) (.seq (.seq .nil (.cond (.seq .nil .nil) .nil)) (.seq (.seq .nil (.cond (.seq .nil .nil) .nil)) (.seq .nil .nil)))))))))))))
theorem ok (n : Nat) : EntOk Try.prog 4 (ent n) :=
 ent_ok0 (c := cx n) (e := ent n) (d := d) (CO _) (mkCtx_ok (mem_cons (laws_szRule.ok n) (mem_cons (laws_toRule.ok n) (mem_cons (laws_eqRule.ok n) (mem_cons (spec_Contains.ok n) (mem_cons (impl_Contains.ok n) mem_nil)))))) (MX _) an Try.func4 (by kernel_rfl) (by kernel_rfl) (fun v => by kernel_rfl)
end laws_FnExactContains
namespace impl_PlainRule
end impl_PlainRule
namespace laws_FnExactPlainRule
end laws_FnExactPlainRule
end Go.Abs
