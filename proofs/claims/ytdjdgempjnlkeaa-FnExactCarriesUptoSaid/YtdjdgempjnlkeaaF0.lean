/- The functions, and that a call of each comes to it. Conditions: none. -/
import Derived.Test.YtdjdgempjnlkeaaHd
namespace Go.Abs
open Go.Proofs
set_option linter.unusedVariables false
namespace laws_szIntS
def F (n : Nat) (a1 : List Int) (left2 : Int) : Option Int :=
 if decide ((IntKind.i64.wrap (left2 - (List.length a1 : Int))) < 0) = true then
 some (-1)
 else
 some (IntKind.i64.wrap (left2 - (List.length a1 : Int)))
noncomputable def code : Code := Try.f49.body.getD .skip
abbrev ash : List ASh := [.ro (.sl (.int .i64)), .ro (.int .i64)]
abbrev rsh : List RSh := [.ro (.int .i64)]
def ent (n : Nat) : FEnt := ⟨ash, rsh, fun v => F n v.1 v.2.1⟩
noncomputable def cx (n : Nat) : Ctx := mkCtx Try.prog TYS []
noncomputable def d : FnD := ⟨code, 12, .nil, [(.tmp 4, .int .i64, .ro)]⟩
def an : An := .seq .nil (.seq .nil (.seq (.seq .nil (.cond (.seq .nil .nil) .nil)) (.seq .nil .nil)))
theorem ok (n : Nat) : EntOk Try.prog 49 (ent n) :=
 ent_ok0 (c := cx n) (e := ent n) (d := d) (CO _) (mkCtx_ok (mem_nil)) (MX _) an Try.func49 (by kernel_rfl) (by kernel_rfl) (fun v => by kernel_rfl)
end laws_szIntS
namespace laws_szExp
def F (n : Nat) (a1 : Int × ByteArray × List Int) (left2 : Int) : Option Int :=
 if decide ((IntKind.i64.wrap (left2 - (ByteArray.size a1.2.1 : Int))) < 0) = true then
 some (-1)
 else
 (laws_szIntS.F n a1.2.2 (IntKind.i64.wrap (left2 - (ByteArray.size a1.2.1 : Int)))).bind fun r3 =>
 if decide (r3 < 0) = true then
 some (-1)
 else
 some r3
noncomputable def code : Code := Try.f48.body.getD .skip
abbrev ash : List ASh := [.ro (.st (.pair (.int .i64) (.pair (.str) (.sl (.int .i64))))), .ro (.int .i64)]
abbrev rsh : List RSh := [.ro (.int .i64)]
def ent (n : Nat) : FEnt := ⟨ash, rsh, fun v => F n v.1 v.2.1⟩
noncomputable def cx (n : Nat) : Ctx := mkCtx Try.prog TYS [(49, laws_szIntS.ent n)]
noncomputable def d : FnD := ⟨code, 19, .nil, [(.tmp 4, .int .i64, .ro)]⟩
def an : An := .seq .nil (.seq .nil (.seq (.seq .nil (.cond (.seq .nil .nil) .nil)) (.seq .nil (.seq (.seq .nil (.cond (.seq .nil .nil) .nil)) (.seq .nil .nil)))))
theorem ok (n : Nat) : EntOk Try.prog 48 (ent n) :=
 ent_ok0 (c := cx n) (e := ent n) (d := d) (CO _) (mkCtx_ok (mem_cons (laws_szIntS.ok n) mem_nil)) (MX _) an Try.func48 (by kernel_rfl) (by kernel_rfl) (fun v => by kernel_rfl)
end laws_szExp
namespace laws_szExpS
def l0 (n : Nat) (a3 : List (Int × ByteArray × List Int)) (K0 : Int → Option Int) : Nat → Int → Int → Option Int
 | 0, _, _ => none
 | k + 1, left4, i5 =>
 if decide (i5 < (List.length a3 : Int)) = true then
 if (0 : Int) ≤ i5 ∧ i5 < (List.length a3 : Int) then
 (laws_szExp.F n (List.getD a3 (Int.toNat i5) (0, (ByteArray.empty, []))) left4).bind fun r6 =>
 if decide (r6 < 0) = true then
 some (-1)
 else
 l0 n a3 K0 k r6 (IntKind.i64.wrap (i5 + 1))
 else
 none
 else
 K0 left4
def F (n : Nat) (a1 : List (Int × ByteArray × List Int)) (left2 : Int) : Option Int :=
 if decide ((IntKind.i64.wrap (left2 - (List.length a1 : Int))) < 0) = true then
 some (-1)
 else
 l0 n a1 (fun left7 =>
 some left7) n (IntKind.i64.wrap (left2 - (List.length a1 : Int))) 0
noncomputable def code : Code := Try.f23.body.getD .skip
abbrev ash : List ASh := [.ro (.sl (.st (.pair (.int .i64) (.pair (.str) (.sl (.int .i64)))))), .ro (.int .i64)]
abbrev rsh : List RSh := [.ro (.int .i64)]
def ent (n : Nat) : FEnt := ⟨ash, rsh, fun v => F n v.1 v.2.1⟩
noncomputable def cx (n : Nat) : Ctx := mkCtx Try.prog TYS [(48, laws_szExp.ent n)]
noncomputable def d : FnD := ⟨code, 27, .nil, [(.tmp 4, .int .i64, .ro)]⟩
noncomputable def kr (n : Nat) (v : AVs ash) : KN rsh := endK (cx n) d (avEnc ash v) (rvDec rsh)
noncomputable def b0 : Code := Code.l (Code.l (Code.r (Code.l (Code.r (Code.r (Code.r code))))))
def an : An := .seq .nil (.seq .nil (.seq (.seq .nil (.cond (.seq .nil .nil) .nil)) (.seq (.seq .nil (.block (some [1]) (.cut 0 [0, 1, 5]))) (.seq .nil .nil))))
def an0 : An := .seq (.seq .nil (.cond .nil .nil)) (.seq (.block (some [0, 1, 5]) (.seq .nil (.seq .nil (.cond (.seq .nil .nil) .nil)))) .nil)
abbrev sh0 : ES := ⟨[(0, .v (.sl (.st (.pair (.int .i64) (.pair (.str) (.sl (.int .i64))))))), (1, .v (.int .i64)), (5, .v (.int .i64))], []⟩
abbrev sh0_0 : ES := ⟨[(1, .v (.int .i64))], []⟩
def g0 (n m : Nat) (x : sh0.V) (kn : KN rsh) (kx : KX rsh) : Option (RVs rsh) := l0 n x.1.1 (fun y0 => kx 0 (sh0_0.enc ((y0, ()), (())))) m x.1.2.1 x.1.2.2.1
def T (n : Nat) : Tab (RVs rsh) := fun j e kn kx => match j with
 | 0 => ES.on sh0 e fun x => g0 n n x kn kx
 | _ => none
theorem mk (n : Nat) : MOk (cx n) := mkCtx_ok (mem_cons (laws_szExp.ok n) mem_nil)
theorem u0 (n : Nat) (v : AVs ash) : UnitOk (cx n) 27 (T n) (kr n v) 0 (.loop b0) :=
 loop_u (n := n) (CO _) (mk n) (MX _) an0 [(0, [1])] [0, 1, 5] sh0 (g0 n) (fun _ _ _ => rfl) (fun _ _ _ => rfl) (fun m x kn kx => by kernel_rfl) (l := []) (by kernel_rfl) (mem_nil)
theorem ok (n : Nat) : EntOk Try.prog 23 (ent n) :=
 ent_okU (c := cx n) (e := ent n) (d := d) (CO _) (mk n) (MX _) an Try.func23 (by kernel_rfl) (T n) (l := [(0, .loop b0)]) (by kernel_rfl) (fun v => mem_cons (u0 n v) mem_nil) (fun v => by kernel_rfl)
end laws_szExpS
namespace laws_szLit
def F (n : Nat) (a1 : Int × ByteArray × List Int) (left2 : Int) : Option Int :=
 if decide ((IntKind.i64.wrap (left2 - (ByteArray.size a1.2.1 : Int))) < 0) = true then
 some (-1)
 else
 (laws_szIntS.F n a1.2.2 (IntKind.i64.wrap (left2 - (ByteArray.size a1.2.1 : Int)))).bind fun r3 =>
 if decide (r3 < 0) = true then
 some (-1)
 else
 some r3
noncomputable def code : Code := Try.f24.body.getD .skip
abbrev ash : List ASh := [.ro (.st (.pair (.int .i64) (.pair (.str) (.sl (.int .i64))))), .ro (.int .i64)]
abbrev rsh : List RSh := [.ro (.int .i64)]
def ent (n : Nat) : FEnt := ⟨ash, rsh, fun v => F n v.1 v.2.1⟩
noncomputable def cx (n : Nat) : Ctx := mkCtx Try.prog TYS [(49, laws_szIntS.ent n)]
noncomputable def d : FnD := ⟨code, 19, .nil, [(.tmp 4, .int .i64, .ro)]⟩
def an : An := .seq .nil (.seq .nil (.seq (.seq .nil (.cond (.seq .nil .nil) .nil)) (.seq .nil (.seq (.seq .nil (.cond (.seq .nil .nil) .nil)) (.seq .nil .nil)))))
theorem ok (n : Nat) : EntOk Try.prog 24 (ent n) :=
 ent_ok0 (c := cx n) (e := ent n) (d := d) (CO _) (mkCtx_ok (mem_cons (laws_szIntS.ok n) mem_nil)) (MX _) an Try.func24 (by kernel_rfl) (by kernel_rfl) (fun v => by kernel_rfl)
end laws_szLit
namespace laws_szLitS
def l0 (n : Nat) (a3 : List (Int × ByteArray × List Int)) (K0 : Int → Option Int) : Nat → Int → Int → Option Int
 | 0, _, _ => none
 | k + 1, left4, i5 =>
 if decide (i5 < (List.length a3 : Int)) = true then
 if (0 : Int) ≤ i5 ∧ i5 < (List.length a3 : Int) then
 (laws_szLit.F n (List.getD a3 (Int.toNat i5) (0, (ByteArray.empty, []))) left4).bind fun r6 =>
 if decide (r6 < 0) = true then
 some (-1)
 else
 l0 n a3 K0 k r6 (IntKind.i64.wrap (i5 + 1))
 else
 none
 else
 K0 left4
def F (n : Nat) (a1 : List (Int × ByteArray × List Int)) (left2 : Int) : Option Int :=
 if decide ((IntKind.i64.wrap (left2 - (List.length a1 : Int))) < 0) = true then
 some (-1)
 else
 l0 n a1 (fun left7 =>
 some left7) n (IntKind.i64.wrap (left2 - (List.length a1 : Int))) 0
noncomputable def code : Code := Try.f25.body.getD .skip
abbrev ash : List ASh := [.ro (.sl (.st (.pair (.int .i64) (.pair (.str) (.sl (.int .i64)))))), .ro (.int .i64)]
abbrev rsh : List RSh := [.ro (.int .i64)]
def ent (n : Nat) : FEnt := ⟨ash, rsh, fun v => F n v.1 v.2.1⟩
noncomputable def cx (n : Nat) : Ctx := mkCtx Try.prog TYS [(24, laws_szLit.ent n)]
noncomputable def d : FnD := ⟨code, 27, .nil, [(.tmp 4, .int .i64, .ro)]⟩
noncomputable def kr (n : Nat) (v : AVs ash) : KN rsh := endK (cx n) d (avEnc ash v) (rvDec rsh)
noncomputable def b0 : Code := Code.l (Code.l (Code.r (Code.l (Code.r (Code.r (Code.r code))))))
def an : An := .seq .nil (.seq .nil (.seq (.seq .nil (.cond (.seq .nil .nil) .nil)) (.seq (.seq .nil (.block (some [1]) (.cut 0 [0, 1, 5]))) (.seq .nil .nil))))
def an0 : An := .seq (.seq .nil (.cond .nil .nil)) (.seq (.block (some [0, 1, 5]) (.seq .nil (.seq .nil (.cond (.seq .nil .nil) .nil)))) .nil)
abbrev sh0 : ES := ⟨[(0, .v (.sl (.st (.pair (.int .i64) (.pair (.str) (.sl (.int .i64))))))), (1, .v (.int .i64)), (5, .v (.int .i64))], []⟩
abbrev sh0_0 : ES := ⟨[(1, .v (.int .i64))], []⟩
def g0 (n m : Nat) (x : sh0.V) (kn : KN rsh) (kx : KX rsh) : Option (RVs rsh) := l0 n x.1.1 (fun y0 => kx 0 (sh0_0.enc ((y0, ()), (())))) m x.1.2.1 x.1.2.2.1
def T (n : Nat) : Tab (RVs rsh) := fun j e kn kx => match j with
 | 0 => ES.on sh0 e fun x => g0 n n x kn kx
 | _ => none
theorem mk (n : Nat) : MOk (cx n) := mkCtx_ok (mem_cons (laws_szLit.ok n) mem_nil)
theorem u0 (n : Nat) (v : AVs ash) : UnitOk (cx n) 27 (T n) (kr n v) 0 (.loop b0) :=
 loop_u (n := n) (CO _) (mk n) (MX _) an0 [(0, [1])] [0, 1, 5] sh0 (g0 n) (fun _ _ _ => rfl) (fun _ _ _ => rfl) (fun m x kn kx => by kernel_rfl) (l := []) (by kernel_rfl) (mem_nil)
theorem ok (n : Nat) : EntOk Try.prog 25 (ent n) :=
 ent_okU (c := cx n) (e := ent n) (d := d) (CO _) (mk n) (MX _) an Try.func25 (by kernel_rfl) (T n) (l := [(0, .loop b0)]) (by kernel_rfl) (fun v => mem_cons (u0 n v) mem_nil) (fun v => by kernel_rfl)
end laws_szLitS
namespace laws_szRule
def F (n : Nat) (a1 : (List (Int × ByteArray × List Int)) × (Int × ByteArray × List Int) × List (Int × ByteArray × List Int)) (left2 : Int) : Option Int :=
 (laws_szExpS.F n a1.1 left2).bind fun r3 =>
 if decide (r3 < 0) = true then
 some (-1)
 else
 (laws_szLit.F n a1.2.1 r3).bind fun r4 =>
 if decide (r4 < 0) = true then
 some (-1)
 else
 (laws_szLitS.F n a1.2.2 r4).bind fun r5 =>
 if decide (r5 < 0) = true then
 some (-1)
 else
 some r5
noncomputable def code : Code := Try.f7.body.getD .skip
abbrev ash : List ASh := [.ro (.st (.pair (.sl (.st (.pair (.int .i64) (.pair (.str) (.sl (.int .i64)))))) (.pair (.st (.pair (.int .i64) (.pair (.str) (.sl (.int .i64))))) (.sl (.st (.pair (.int .i64) (.pair (.str) (.sl (.int .i64))))))))), .ro (.int .i64)]
abbrev rsh : List RSh := [.ro (.int .i64)]
def ent (n : Nat) : FEnt := ⟨ash, rsh, fun v => F n v.1 v.2.1⟩
noncomputable def cx (n : Nat) : Ctx := mkCtx Try.prog TYS [(23, laws_szExpS.ent n), (24, laws_szLit.ent n), (25, laws_szLitS.ent n)]
noncomputable def d : FnD := ⟨code, 24, .nil, [(.tmp 4, .int .i64, .ro)]⟩
def an : An := .seq .nil (.seq .nil (.seq (.seq .nil (.cond (.seq .nil .nil) .nil)) (.seq .nil (.seq (.seq .nil (.cond (.seq .nil .nil) .nil)) (.seq .nil (.seq (.seq .nil (.cond (.seq .nil .nil) .nil)) (.seq .nil .nil)))))))
theorem ok (n : Nat) : EntOk Try.prog 7 (ent n) :=
 ent_ok0 (c := cx n) (e := ent n) (d := d) (CO _) (mkCtx_ok (mem_cons (laws_szExpS.ok n) (mem_cons (laws_szLit.ok n) (mem_cons (laws_szLitS.ok n) mem_nil)))) (MX _) an Try.func7 (by kernel_rfl) (by kernel_rfl) (fun v => by kernel_rfl)
end laws_szRule
namespace laws_toIntS
def l0 (n : Nat) (a2 : List Int) (K0 : (List Int) → Option (List Int)) : Nat → Int → (List Int) → Option (List Int)
 | 0, _, _ => none
 | k + 1, i3, out4 =>
 if decide (i3 < (List.length a2 : Int)) = true then
 if (0 : Int) ≤ i3 ∧ i3 < (List.length a2 : Int) then
 if (0 : Int) ≤ i3 ∧ i3 < (List.length out4 : Int) then
 let w5 : List Int := List.set out4 (Int.toNat i3) (List.getD a2 (Int.toNat i3) 0)
 l0 n a2 K0 k (IntKind.i64.wrap (i3 + 1)) w5
 else
 none
 else
 none
 else
 K0 out4
def F (n : Nat) (a1 : List Int) : Option (List Int) :=
 if (0 : Int) ≤ (List.length a1 : Int) ∧ (List.length a1 : Int) ≤ (List.length a1 : Int) ∧ (List.length a1 : Int) ≤ (lim : Int) then
 l0 n a1 (fun out6 =>
 some out6) n 0 (List.replicate (Int.toNat (List.length a1 : Int)) 0)
 else
 none
noncomputable def code : Code := Try.f53.body.getD .skip
abbrev ash : List ASh := [.ro (.sl (.int .i64))]
abbrev rsh : List RSh := [.own (.sl (.int .i64)) (.own .ro)]
def ent (n : Nat) : FEnt := ⟨ash, rsh, fun v => F n v.1⟩
noncomputable def cx (n : Nat) : Ctx := mkCtx Try.prog TYS []
noncomputable def d : FnD := ⟨code, 22, .nil, [(.tmp 2, .sl (.int .i64), .own .ro)]⟩
noncomputable def kr (n : Nat) (v : AVs ash) : KN rsh := endK (cx n) d (avEnc ash v) (rvDec rsh)
noncomputable def b0 : Code := Code.l (Code.l (Code.r (Code.l (Code.r (Code.r code)))))
def an : An := .seq .nil (.seq (.reg [(7, .own .ro)]) (.seq (.seq .nil (.block (some [3]) (.cut 0 [0, 3, 4]))) (.seq .nil .nil)))
def an0 : An := .seq (.seq .nil (.cond .nil .nil)) (.seq (.block (some [0, 3, 4]) .nil) .nil)
abbrev sh0 : ES := ⟨[(0, .v (.sl (.int .i64))), (3, .al 3 []), (4, .v (.int .i64))], [⟨3, .sl (.int .i64), .own .ro, false, false, none⟩]⟩
abbrev sh0_0 : ES := ⟨[(3, .al 3 [])], [⟨3, .sl (.int .i64), .own .ro, false, false, none⟩]⟩
def g0 (n m : Nat) (x : sh0.V) (kn : KN rsh) (kx : KX rsh) : Option (RVs rsh) := l0 n x.1.1 (fun y0 => kx 0 (sh0_0.enc (((()), ()), (y0, ())))) m x.1.2.2.1 x.2.1
def T (n : Nat) : Tab (RVs rsh) := fun j e kn kx => match j with
 | 0 => ES.on sh0 e fun x => g0 n n x kn kx
 | _ => none
theorem mk (n : Nat) : MOk (cx n) := mkCtx_ok (mem_nil)
theorem u0 (n : Nat) (v : AVs ash) : UnitOk (cx n) 22 (T n) (kr n v) 0 (.loop b0) :=
 loop_u (n := n) (CO _) (mk n) (MX _) an0 [(0, [3])] [0, 3, 4] sh0 (g0 n) (fun _ _ _ => rfl) (fun _ _ _ => rfl) (fun m x kn kx => by kernel_rfl) (l := []) (by kernel_rfl) (mem_nil)
theorem ok (n : Nat) : EntOk Try.prog 53 (ent n) :=
 ent_okU (c := cx n) (e := ent n) (d := d) (CO _) (mk n) (MX _) an Try.func53 (by kernel_rfl) (T n) (l := [(0, .loop b0)]) (by kernel_rfl) (fun v => mem_cons (u0 n v) mem_nil) (fun v => by kernel_rfl)
end laws_toIntS
namespace laws_toExp
def F (n : Nat) (a1 : Int × ByteArray × List Int) : Option (Int × ByteArray × List Int) :=
 (laws_toIntS.F n a1.2.2).bind fun r2 =>
 some (a1.1, (a1.2.1, r2))
noncomputable def code : Code := Try.f52.body.getD .skip
abbrev ash : List ASh := [.ro (.st (.pair (.int .i64) (.pair (.str) (.sl (.int .i64)))))]
abbrev rsh : List RSh := [.own (.st (.pair (.int .i64) (.pair (.str) (.sl (.int .i64))))) (.pr .ro (.pr .ro (.own .ro)))]
def ent (n : Nat) : FEnt := ⟨ash, rsh, fun v => F n v.1⟩
noncomputable def cx (n : Nat) : Ctx := mkCtx Try.prog TYS [(53, laws_toIntS.ent n)]
noncomputable def d : FnD := ⟨code, 15, .nil, [(.cell 2 59, .st (.pair (.int .i64) (.pair (.str) (.sl (.int .i64)))), .pr .ro (.pr .ro (.own .ro)))]⟩
def an : An := .seq (.reg [(2, .pr .ro (.pr .ro (.own .ro)))]) (.seq (.reg [(3, .pr .ro (.pr .ro (.own .ro)))]) (.seq .nil (.seq .nil (.seq (.reg [(12, .own .ro)]) (.seq .nil .nil)))))
theorem ok (n : Nat) : EntOk Try.prog 52 (ent n) :=
 ent_ok0 (c := cx n) (e := ent n) (d := d) (CO _) (mkCtx_ok (mem_cons (laws_toIntS.ok n) mem_nil)) (MX _) an Try.func52 (by kernel_rfl) (by kernel_rfl) (fun v => by kernel_rfl)
end laws_toExp
namespace laws_toExpS
def l0 (n : Nat) (a2 : List (Int × ByteArray × List Int)) (K0 : (List (Int × ByteArray × List Int)) → Option (List (Int × ByteArray × List Int))) : Nat → Int → (List (Int × ByteArray × List Int)) → Option (List (Int × ByteArray × List Int))
 | 0, _, _ => none
 | k + 1, i3, out4 =>
 if decide (i3 < (List.length a2 : Int)) = true then
 if (0 : Int) ≤ i3 ∧ i3 < (List.length a2 : Int) then
 (laws_toExp.F n (List.getD a2 (Int.toNat i3) (0, (ByteArray.empty, [])))).bind fun r5 =>
 if (0 : Int) ≤ i3 ∧ i3 < (List.length out4 : Int) then
 l0 n a2 K0 k (IntKind.i64.wrap (i3 + 1)) (List.set out4 (Int.toNat i3) r5)
 else
 none
 else
 none
 else
 K0 out4
def F (n : Nat) (a1 : List (Int × ByteArray × List Int)) : Option (List (Int × ByteArray × List Int)) :=
 if (0 : Int) ≤ (List.length a1 : Int) ∧ (List.length a1 : Int) ≤ (List.length a1 : Int) ∧ (List.length a1 : Int) ≤ (lim : Int) then
 l0 n a1 (fun out6 =>
 some out6) n 0 (List.replicate (Int.toNat (List.length a1 : Int)) (0, (ByteArray.empty, [])))
 else
 none
noncomputable def code : Code := Try.f29.body.getD .skip
abbrev ash : List ASh := [.ro (.sl (.st (.pair (.int .i64) (.pair (.str) (.sl (.int .i64))))))]
abbrev rsh : List RSh := [.own (.sl (.st (.pair (.int .i64) (.pair (.str) (.sl (.int .i64)))))) (.own (.pr .ro (.pr .ro (.own .ro))))]
def ent (n : Nat) : FEnt := ⟨ash, rsh, fun v => F n v.1⟩
noncomputable def cx (n : Nat) : Ctx := mkCtx Try.prog TYS [(52, laws_toExp.ent n)]
noncomputable def d : FnD := ⟨code, 23, .nil, [(.tmp 2, .sl (.st (.pair (.int .i64) (.pair (.str) (.sl (.int .i64))))), .own (.pr .ro (.pr .ro (.own .ro))))]⟩
noncomputable def kr (n : Nat) (v : AVs ash) : KN rsh := endK (cx n) d (avEnc ash v) (rvDec rsh)
noncomputable def b0 : Code := Code.l (Code.l (Code.r (Code.l (Code.r (Code.r code)))))
def an : An := .seq .nil (.seq (.reg [(7, .own (.pr .ro (.pr .ro (.own .ro))))]) (.seq (.seq .nil (.block (some [3]) (.cut 0 [0, 3, 4]))) (.seq .nil .nil)))
def an0 : An := .seq (.seq .nil (.cond .nil .nil)) (.seq (.block (some [0, 3, 4]) (.reg [(20, .pr .ro (.pr .ro (.own .ro)))])) .nil)
abbrev sh0 : ES := ⟨[(0, .v (.sl (.st (.pair (.int .i64) (.pair (.str) (.sl (.int .i64))))))), (3, .al 3 []), (4, .v (.int .i64))], [⟨3, .sl (.st (.pair (.int .i64) (.pair (.str) (.sl (.int .i64))))), .own (.pr .ro (.pr .ro (.own .ro))), false, false, none⟩]⟩
abbrev sh0_0 : ES := ⟨[(3, .al 3 [])], [⟨3, .sl (.st (.pair (.int .i64) (.pair (.str) (.sl (.int .i64))))), .own (.pr .ro (.pr .ro (.own .ro))), false, false, none⟩]⟩
def g0 (n m : Nat) (x : sh0.V) (kn : KN rsh) (kx : KX rsh) : Option (RVs rsh) := l0 n x.1.1 (fun y0 => kx 0 (sh0_0.enc (((()), ()), (y0, ())))) m x.1.2.2.1 x.2.1
def T (n : Nat) : Tab (RVs rsh) := fun j e kn kx => match j with
 | 0 => ES.on sh0 e fun x => g0 n n x kn kx
 | _ => none
theorem mk (n : Nat) : MOk (cx n) := mkCtx_ok (mem_cons (laws_toExp.ok n) mem_nil)
theorem u0 (n : Nat) (v : AVs ash) : UnitOk (cx n) 23 (T n) (kr n v) 0 (.loop b0) :=
 loop_u (n := n) (CO _) (mk n) (MX _) an0 [(0, [3])] [0, 3, 4] sh0 (g0 n) (fun _ _ _ => rfl) (fun _ _ _ => rfl) (fun m x kn kx => by kernel_rfl) (l := []) (by kernel_rfl) (mem_nil)
theorem ok (n : Nat) : EntOk Try.prog 29 (ent n) :=
 ent_okU (c := cx n) (e := ent n) (d := d) (CO _) (mk n) (MX _) an Try.func29 (by kernel_rfl) (T n) (l := [(0, .loop b0)]) (by kernel_rfl) (fun v => mem_cons (u0 n v) mem_nil) (fun v => by kernel_rfl)
end laws_toExpS
namespace laws_toLit
def F (n : Nat) (a1 : Int × ByteArray × List Int) : Option (Int × ByteArray × List Int) :=
 (laws_toIntS.F n a1.2.2).bind fun r2 =>
 some (a1.1, (a1.2.1, r2))
noncomputable def code : Code := Try.f30.body.getD .skip
abbrev ash : List ASh := [.ro (.st (.pair (.int .i64) (.pair (.str) (.sl (.int .i64)))))]
abbrev rsh : List RSh := [.own (.st (.pair (.int .i64) (.pair (.str) (.sl (.int .i64))))) (.pr .ro (.pr .ro (.own .ro)))]
def ent (n : Nat) : FEnt := ⟨ash, rsh, fun v => F n v.1⟩
noncomputable def cx (n : Nat) : Ctx := mkCtx Try.prog TYS [(53, laws_toIntS.ent n)]
noncomputable def d : FnD := ⟨code, 15, .nil, [(.cell 2 32, .st (.pair (.int .i64) (.pair (.str) (.sl (.int .i64)))), .pr .ro (.pr .ro (.own .ro)))]⟩
def an : An := .seq (.reg [(2, .pr .ro (.pr .ro (.own .ro)))]) (.seq (.reg [(3, .pr .ro (.pr .ro (.own .ro)))]) (.seq .nil (.seq .nil (.seq (.reg [(12, .own .ro)]) (.seq .nil .nil)))))
theorem ok (n : Nat) : EntOk Try.prog 30 (ent n) :=
 ent_ok0 (c := cx n) (e := ent n) (d := d) (CO _) (mkCtx_ok (mem_cons (laws_toIntS.ok n) mem_nil)) (MX _) an Try.func30 (by kernel_rfl) (by kernel_rfl) (fun v => by kernel_rfl)
end laws_toLit
namespace laws_toLitS
def l0 (n : Nat) (a2 : List (Int × ByteArray × List Int)) (K0 : (List (Int × ByteArray × List Int)) → Option (List (Int × ByteArray × List Int))) : Nat → Int → (List (Int × ByteArray × List Int)) → Option (List (Int × ByteArray × List Int))
 | 0, _, _ => none
 | k + 1, i3, out4 =>
 if decide (i3 < (List.length a2 : Int)) = true then
 if (0 : Int) ≤ i3 ∧ i3 < (List.length a2 : Int) then
 (laws_toLit.F n (List.getD a2 (Int.toNat i3) (0, (ByteArray.empty, [])))).bind fun r5 =>
 if (0 : Int) ≤ i3 ∧ i3 < (List.length out4 : Int) then
 l0 n a2 K0 k (IntKind.i64.wrap (i3 + 1)) (List.set out4 (Int.toNat i3) r5)
 else
 none
 else
 none
 else
 K0 out4
def F (n : Nat) (a1 : List (Int × ByteArray × List Int)) : Option (List (Int × ByteArray × List Int)) :=
 if (0 : Int) ≤ (List.length a1 : Int) ∧ (List.length a1 : Int) ≤ (List.length a1 : Int) ∧ (List.length a1 : Int) ≤ (lim : Int) then
 l0 n a1 (fun out6 =>
 some out6) n 0 (List.replicate (Int.toNat (List.length a1 : Int)) (0, (ByteArray.empty, [])))
 else
 none
noncomputable def code : Code := Try.f31.body.getD .skip
abbrev ash : List ASh := [.ro (.sl (.st (.pair (.int .i64) (.pair (.str) (.sl (.int .i64))))))]
abbrev rsh : List RSh := [.own (.sl (.st (.pair (.int .i64) (.pair (.str) (.sl (.int .i64)))))) (.own (.pr .ro (.pr .ro (.own .ro))))]
def ent (n : Nat) : FEnt := ⟨ash, rsh, fun v => F n v.1⟩
noncomputable def cx (n : Nat) : Ctx := mkCtx Try.prog TYS [(30, laws_toLit.ent n)]
noncomputable def d : FnD := ⟨code, 23, .nil, [(.tmp 2, .sl (.st (.pair (.int .i64) (.pair (.str) (.sl (.int .i64))))), .own (.pr .ro (.pr .ro (.own .ro))))]⟩
noncomputable def kr (n : Nat) (v : AVs ash) : KN rsh := endK (cx n) d (avEnc ash v) (rvDec rsh)
noncomputable def b0 : Code := Code.l (Code.l (Code.r (Code.l (Code.r (Code.r code)))))
def an : An := .seq .nil (.seq (.reg [(7, .own (.pr .ro (.pr .ro (.own .ro))))]) (.seq (.seq .nil (.block (some [3]) (.cut 0 [0, 3, 4]))) (.seq .nil .nil)))
def an0 : An := .seq (.seq .nil (.cond .nil .nil)) (.seq (.block (some [0, 3, 4]) (.reg [(20, .pr .ro (.pr .ro (.own .ro)))])) .nil)
abbrev sh0 : ES := ⟨[(0, .v (.sl (.st (.pair (.int .i64) (.pair (.str) (.sl (.int .i64))))))), (3, .al 3 []), (4, .v (.int .i64))], [⟨3, .sl (.st (.pair (.int .i64) (.pair (.str) (.sl (.int .i64))))), .own (.pr .ro (.pr .ro (.own .ro))), false, false, none⟩]⟩
abbrev sh0_0 : ES := ⟨[(3, .al 3 [])], [⟨3, .sl (.st (.pair (.int .i64) (.pair (.str) (.sl (.int .i64))))), .own (.pr .ro (.pr .ro (.own .ro))), false, false, none⟩]⟩
def g0 (n m : Nat) (x : sh0.V) (kn : KN rsh) (kx : KX rsh) : Option (RVs rsh) := l0 n x.1.1 (fun y0 => kx 0 (sh0_0.enc (((()), ()), (y0, ())))) m x.1.2.2.1 x.2.1
def T (n : Nat) : Tab (RVs rsh) := fun j e kn kx => match j with
 | 0 => ES.on sh0 e fun x => g0 n n x kn kx
 | _ => none
theorem mk (n : Nat) : MOk (cx n) := mkCtx_ok (mem_cons (laws_toLit.ok n) mem_nil)
theorem u0 (n : Nat) (v : AVs ash) : UnitOk (cx n) 23 (T n) (kr n v) 0 (.loop b0) :=
 loop_u (n := n) (CO _) (mk n) (MX _) an0 [(0, [3])] [0, 3, 4] sh0 (g0 n) (fun _ _ _ => rfl) (fun _ _ _ => rfl) (fun m x kn kx => by kernel_rfl) (l := []) (by kernel_rfl) (mem_nil)
theorem ok (n : Nat) : EntOk Try.prog 31 (ent n) :=
 ent_okU (c := cx n) (e := ent n) (d := d) (CO _) (mk n) (MX _) an Try.func31 (by kernel_rfl) (T n) (l := [(0, .loop b0)]) (by kernel_rfl) (fun v => mem_cons (u0 n v) mem_nil) (fun v => by kernel_rfl)
end laws_toLitS
namespace laws_toRule
def F (n : Nat) (a1 : (List (Int × ByteArray × List Int)) × (Int × ByteArray × List Int) × List (Int × ByteArray × List Int)) : Option ((List (Int × ByteArray × List Int)) × (Int × ByteArray × List Int) × List (Int × ByteArray × List Int)) :=
 (laws_toExpS.F n a1.1).bind fun r2 =>
 (laws_toLit.F n a1.2.1).bind fun r3 =>
 (laws_toLitS.F n a1.2.2).bind fun r4 =>
 some (r2, (r3, r4))
noncomputable def code : Code := Try.f9.body.getD .skip
abbrev ash : List ASh := [.ro (.st (.pair (.sl (.st (.pair (.int .i64) (.pair (.str) (.sl (.int .i64)))))) (.pair (.st (.pair (.int .i64) (.pair (.str) (.sl (.int .i64))))) (.sl (.st (.pair (.int .i64) (.pair (.str) (.sl (.int .i64)))))))))]
abbrev rsh : List RSh := [.own (.st (.pair (.sl (.st (.pair (.int .i64) (.pair (.str) (.sl (.int .i64)))))) (.pair (.st (.pair (.int .i64) (.pair (.str) (.sl (.int .i64))))) (.sl (.st (.pair (.int .i64) (.pair (.str) (.sl (.int .i64))))))))) (.pr (.own (.pr .ro (.pr .ro (.own .ro)))) (.pr (.pr .ro (.pr .ro (.own .ro))) (.own (.pr .ro (.pr .ro (.own .ro))))))]
def ent (n : Nat) : FEnt := ⟨ash, rsh, fun v => F n v.1⟩
noncomputable def cx (n : Nat) : Ctx := mkCtx Try.prog TYS [(29, laws_toExpS.ent n), (30, laws_toLit.ent n), (31, laws_toLitS.ent n)]
noncomputable def d : FnD := ⟨code, 17, .nil, [(.cell 2 35, .st (.pair (.sl (.st (.pair (.int .i64) (.pair (.str) (.sl (.int .i64)))))) (.pair (.st (.pair (.int .i64) (.pair (.str) (.sl (.int .i64))))) (.sl (.st (.pair (.int .i64) (.pair (.str) (.sl (.int .i64)))))))), .pr (.own (.pr .ro (.pr .ro (.own .ro)))) (.pr (.pr .ro (.pr .ro (.own .ro))) (.own (.pr .ro (.pr .ro (.own .ro))))))]⟩
def an : An := .seq (.reg [(2, .pr (.own (.pr .ro (.pr .ro (.own .ro)))) (.pr (.pr .ro (.pr .ro (.own .ro))) (.own (.pr .ro (.pr .ro (.own .ro))))))]) (.seq (.reg [(3, .pr (.own .ro) (.pr (.pr .ro (.pr .ro (.own .ro))) (.own .ro)))]) (.seq (.reg [(6, .own (.pr .ro (.pr .ro (.own .ro))))]) (.seq (.reg [(10, .pr .ro (.pr .ro (.own .ro)))]) (.seq (.reg [(14, .own (.pr .ro (.pr .ro (.own .ro))))]) (.seq .nil .nil)))))
theorem ok (n : Nat) : EntOk Try.prog 9 (ent n) :=
 ent_ok0 (c := cx n) (e := ent n) (d := d) (CO _) (mkCtx_ok (mem_cons (laws_toExpS.ok n) (mem_cons (laws_toLit.ok n) (mem_cons (laws_toLitS.ok n) mem_nil)))) (MX _) an Try.func9 (by kernel_rfl) (by kernel_rfl) (fun v => by kernel_rfl)
end laws_toRule
namespace spec_l01Between
def F (n : Nat) (t1 : Int) (lo2 : Int) (hi3 : Int) : Option Bool :=
 if (decide (t1 ≥ lo2)) = true then
 some (decide (t1 ≤ hi3))
 else
 some false
noncomputable def code : Code := Try.f75.body.getD .skip
abbrev ash : List ASh := [.ro (.int .i64), .ro (.int .i64), .ro (.int .i64)]
abbrev rsh : List RSh := [.ro .bool]
def ent (n : Nat) : FEnt := ⟨ash, rsh, fun v => F n v.1 v.2.1 v.2.2.1⟩
noncomputable def cx (n : Nat) : Ctx := mkCtx Try.prog TYS []
noncomputable def d : FnD := ⟨code, 15, .nil, [(.tmp 6, .bool, .ro)]⟩
def an : An := .seq .nil (.seq .nil .nil)
theorem ok (n : Nat) : EntOk Try.prog 75 (ent n) :=
 ent_ok0 (c := cx n) (e := ent n) (d := d) (CO _) (mkCtx_ok (mem_nil)) (MX _) an Try.func75 (by kernel_rfl) (by kernel_rfl) (fun v => by kernel_rfl)
end spec_l01Between
namespace spec_l04Side
def F (n : Nat) (r1 : (List (Int × ByteArray × List Int)) × (Int × ByteArray × List Int) × List (Int × ByteArray × List Int)) (out2 : List ByteArray) (t3 : Int) : Option ByteArray :=
 if (0 : Int) ≤ t3 ∧ t3 < (List.length r1.1 : Int) then
 (spec_l01Between.F n ((List.getD r1.1 (Int.toNat t3) (0, (ByteArray.empty, []))).1) 5 7).bind fun r4 =>
 if r4 = true then
 if (0 : Int) ≤ t3 ∧ t3 < (List.length out2 : Int) then
 if ByteArray.size ⟨#[40]⟩ + ByteArray.size (List.getD out2 (Int.toNat t3) ByteArray.empty) ≤ lim then
 if ByteArray.size (⟨#[40]⟩ ++ (List.getD out2 (Int.toNat t3) ByteArray.empty)) + ByteArray.size ⟨#[41]⟩ ≤ lim then
 some ((⟨#[40]⟩ ++ (List.getD out2 (Int.toNat t3) ByteArray.empty)) ++ ⟨#[41]⟩)
 else
 none
 else
 none
 else
 none
 else
 if (0 : Int) ≤ t3 ∧ t3 < (List.length out2 : Int) then
 some (List.getD out2 (Int.toNat t3) ByteArray.empty)
 else
 none
 else
 none
noncomputable def code : Code := Try.f76.body.getD .skip
abbrev ash : List ASh := [.ro (.st (.pair (.sl (.st (.pair (.int .i64) (.pair (.str) (.sl (.int .i64)))))) (.pair (.st (.pair (.int .i64) (.pair (.str) (.sl (.int .i64))))) (.sl (.st (.pair (.int .i64) (.pair (.str) (.sl (.int .i64))))))))), .ro (.sl (.str)), .ro (.int .i64)]
abbrev rsh : List RSh := [.ro .str]
def ent (n : Nat) : FEnt := ⟨ash, rsh, fun v => F n v.1 v.2.1 v.2.2.1⟩
noncomputable def cx (n : Nat) : Ctx := mkCtx Try.prog TYS [(75, spec_l01Between.ent n)]
noncomputable def d : FnD := ⟨code, 24, .nil, [(.tmp 6, .str, .ro)]⟩
def an : An := .seq .nil (.seq (.seq .nil (.cond (.seq .nil .nil) .nil)) (.seq .nil .nil))
theorem ok (n : Nat) : EntOk Try.prog 76 (ent n) :=
 ent_ok0 (c := cx n) (e := ent n) (d := d) (CO _) (mkCtx_ok (mem_cons (spec_l01Between.ok n) mem_nil)) (MX _) an Try.func76 (by kernel_rfl) (by kernel_rfl) (fun v => by kernel_rfl)
end spec_l04Side
namespace spec_l04Exps
def l1 (n : Nat) (t6 : Int) (t8 : (List (Int × ByteArray × List Int)) × (Int × ByteArray × List Int) × List (Int × ByteArray × List Int)) (t10 : List ByteArray) (t11 : Int × ByteArray × List Int) (K2 : (List Int) → Option ((List ByteArray) × Bool)) : Nat → Int → (List Int) → Option ((List ByteArray) × Bool)
 | 0, _, _ => none
 | k + 1, t7, t9 =>
 if decide (t7 < (List.length t11.2.2 : Int)) = true then
 if (0 : Int) ≤ t7 ∧ t7 < (List.length t11.2.2 : Int) then
 (spec_l01Between.F n (List.getD t11.2.2 (Int.toNat t7) 0) 0 (IntKind.i64.wrap (t6 - 1))).bind fun r12 =>
 if (!r12) = true then
 some (t10, false)
 else
 if (0 : Int) ≤ t7 ∧ t7 < (List.length t11.2.2 : Int) then
 if (0 : Int) ≤ (List.getD t11.2.2 (Int.toNat t7) 0) ∧ (List.getD t11.2.2 (Int.toNat t7) 0) < (List.length t9 : Int) then
 if (0 : Int) ≤ (List.getD t11.2.2 (Int.toNat t7) 0) ∧ (List.getD t11.2.2 (Int.toNat t7) 0) < (List.length t9 : Int) then
 let w13 : List Int := List.set t9 (Int.toNat (List.getD t11.2.2 (Int.toNat t7) 0)) (IntKind.i64.wrap ((List.getD t9 (Int.toNat (List.getD t11.2.2 (Int.toNat t7) 0)) 0) + 1))
 l1 n t6 t8 t10 t11 K2 k (IntKind.i64.wrap (t7 + 1)) w13
 else
 none
 else
 none
 else
 none
 else
 none
 else
 K2 t9
def l3 (n : Nat) (t22 : Int) (t25 : (List (Int × ByteArray × List Int)) × (Int × ByteArray × List Int) × List (Int × ByteArray × List Int)) (t26 : List Int) (t27 : List ByteArray) (t28 : Int × ByteArray × List Int) (K5 : ByteArray → Option ((List ByteArray) × Bool)) : Nat → ByteArray → Int → Option ((List ByteArray) × Bool)
 | 0, _, _ => none
 | k + 1, t23, t24 =>
 if decide (t24 < (List.length t28.2.2 : Int)) = true then
 if decide (t24 = 0) = true then
 if ByteArray.size t23 + ByteArray.size ⟨#[40]⟩ ≤ lim then
 if (0 : Int) ≤ t24 ∧ t24 < (List.length t28.2.2 : Int) then
 if (0 : Int) ≤ (List.getD t28.2.2 (Int.toNat t24) 0) ∧ (List.getD t28.2.2 (Int.toNat t24) 0) < (List.length t27 : Int) then
 if ByteArray.size (t23 ++ ⟨#[40]⟩) + ByteArray.size (List.getD t27 (Int.toNat (List.getD t28.2.2 (Int.toNat t24) 0)) ByteArray.empty) ≤ lim then
 l3 n t22 t25 t26 t27 t28 K5 k ((t23 ++ ⟨#[40]⟩) ++ (List.getD t27 (Int.toNat (List.getD t28.2.2 (Int.toNat t24) 0)) ByteArray.empty)) (IntKind.i64.wrap (t24 + 1))
 else
 none
 else
 none
 else
 none
 else
 none
 else
 if ByteArray.size t23 + ByteArray.size ⟨#[44, 32]⟩ ≤ lim then
 if (0 : Int) ≤ t24 ∧ t24 < (List.length t28.2.2 : Int) then
 if (0 : Int) ≤ (List.getD t28.2.2 (Int.toNat t24) 0) ∧ (List.getD t28.2.2 (Int.toNat t24) 0) < (List.length t27 : Int) then
 if ByteArray.size (t23 ++ ⟨#[44, 32]⟩) + ByteArray.size (List.getD t27 (Int.toNat (List.getD t28.2.2 (Int.toNat t24) 0)) ByteArray.empty) ≤ lim then
 l3 n t22 t25 t26 t27 t28 K5 k ((t23 ++ ⟨#[44, 32]⟩) ++ (List.getD t27 (Int.toNat (List.getD t28.2.2 (Int.toNat t24) 0)) ByteArray.empty)) (IntKind.i64.wrap (t24 + 1))
 else
 none
 else
 none
 else
 none
 else
 none
 else
 K5 t23
def j4 (n : Nat) (t30 : Int) (t31 : Bool) (t32 : (List (Int × ByteArray × List Int)) × (Int × ByteArray × List Int) × List (Int × ByteArray × List Int)) (t33 : List Int) (t34 : List ByteArray) (t35 : Int × ByteArray × List Int) (Kn : ByteArray → Option ((List ByteArray) × Bool)) : Option ((List ByteArray) × Bool) :=
 if t31 = true then
 if (!decide ((List.length t35.2.2 : Int) = 2)) = true then
 some (t34, false)
 else
 if (0 : Int) ≤ (IntKind.i64.wrap (t35.1 - 5)) ∧ (IntKind.i64.wrap (t35.1 - 5)) < (List.length ([⟨#[32, 43, 32]⟩, ⟨#[32, 45, 32]⟩, ⟨#[32, 42, 32]⟩] : List ByteArray) : Int) then
 if (0 : Int) ≤ 0 ∧ 0 < (List.length t35.2.2 : Int) then
 (spec_l04Side.F n t32 t34 (List.getD t35.2.2 (0) 0)).bind fun r36 =>
 if ByteArray.size r36 + ByteArray.size (List.getD ([⟨#[32, 43, 32]⟩, ⟨#[32, 45, 32]⟩, ⟨#[32, 42, 32]⟩] : List ByteArray) (Int.toNat (IntKind.i64.wrap (t35.1 - 5))) ByteArray.empty) ≤ lim then
 if (0 : Int) ≤ 1 ∧ 1 < (List.length t35.2.2 : Int) then
 (spec_l04Side.F n t32 t34 (List.getD t35.2.2 (1) 0)).bind fun r37 =>
 if ByteArray.size (r36 ++ (List.getD ([⟨#[32, 43, 32]⟩, ⟨#[32, 45, 32]⟩, ⟨#[32, 42, 32]⟩] : List ByteArray) (Int.toNat (IntKind.i64.wrap (t35.1 - 5))) ByteArray.empty)) + ByteArray.size r37 ≤ lim then
 Kn ((r36 ++ (List.getD ([⟨#[32, 43, 32]⟩, ⟨#[32, 45, 32]⟩, ⟨#[32, 42, 32]⟩] : List ByteArray) (Int.toNat (IntKind.i64.wrap (t35.1 - 5))) ByteArray.empty)) ++ r37)
 else
 none
 else
 none
 else
 none
 else
 none
 else
 none
 else
 some (t34, false)
def j2 (n : Nat) (t15 : Int) (t16 : Int) (t17 : Bool) (t18 : (List (Int × ByteArray × List Int)) × (Int × ByteArray × List Int) × List (Int × ByteArray × List Int)) (t19 : List Int) (t20 : List ByteArray) (t21 : Int × ByteArray × List Int) (Kn : ByteArray → Option ((List ByteArray) × Bool)) : Option ((List ByteArray) × Bool) :=
 if t17 = true then
 Kn t21.2.1
 else
 if decide (t16 = 2) = true then
 Kn ⟨#[95]⟩
 else
 if decide (t16 = 4) = true then
 l3 n t15 t18 t19 t20 t21 (fun t29 =>
 if decide ((List.length t21.2.2 : Int) > 0) = true then
 if ByteArray.size t29 + ByteArray.size ⟨#[41]⟩ ≤ lim then
 Kn (t29 ++ ⟨#[41]⟩)
 else
 none
 else
 Kn t29) n t21.2.1 0
 else
 if decide (t16 = 5) = true then
 j4 n t15 (decide (t16 = 5)) t18 t19 t20 t21 (fun t38 =>
 Kn t38)
 else
 if decide (t16 = 6) = true then
 j4 n t15 (decide (t16 = 6)) t18 t19 t20 t21 (fun t39 =>
 Kn t39)
 else
 j4 n t15 (decide (t16 = 7)) t18 t19 t20 t21 (fun t40 =>
 Kn t40)
def j6 (n : Nat) (t48 : Int) (t49 : ByteArray) (t50 : (List (Int × ByteArray × List Int)) × (Int × ByteArray × List Int) × List (Int × ByteArray × List Int)) (t51 : List Int) (t52 : List ByteArray) (Kn : (List ByteArray) → Option ((List ByteArray) × Bool)) : Option ((List ByteArray) × Bool) :=
 if (0 : Int) ≤ t48 ∧ t48 < (List.length t52 : Int) then
 Kn (List.set t52 (Int.toNat t48) t49)
 else
 none
def j5 (n : Nat) (t42 : Int) (t43 : ByteArray) (t44 : (List (Int × ByteArray × List Int)) × (Int × ByteArray × List Int) × List (Int × ByteArray × List Int)) (t45 : List Int) (t46 : List ByteArray) (t47 : Int × ByteArray × List Int) (Kn : (List ByteArray) → Option ((List ByteArray) × Bool)) : Option ((List ByteArray) × Bool) :=
 if (decide (t47.1 ≤ 3)) = true then
 if (decide ((List.length t47.2.2 : Int) > 0)) = false then
 if decide ((ByteArray.size t43 : Int) > 3000) = true then
 some (t46, false)
 else
 j6 n t42 t43 t44 t45 t46 (fun t53 =>
 Kn t53)
 else
 some (t46, false)
 else
 if decide ((ByteArray.size t43 : Int) > 3000) = true then
 some (t46, false)
 else
 j6 n t42 t43 t44 t45 t46 (fun t54 =>
 Kn t54)
def l0 (n : Nat) (t3 : (List (Int × ByteArray × List Int)) × (Int × ByteArray × List Int) × List (Int × ByteArray × List Int)) (K0 : (List Int) → (List ByteArray) → Option ((List ByteArray) × Bool)) : Nat → Int → (List Int) → (List ByteArray) → Option ((List ByteArray) × Bool)
 | 0, _, _, _ => none
 | k + 1, t2, t4, t5 =>
 if decide (t2 < (List.length t3.1 : Int)) = true then
 if (0 : Int) ≤ t2 ∧ t2 < (List.length t3.1 : Int) then
 l1 n t2 t3 t5 (List.getD t3.1 (Int.toNat t2) (0, (ByteArray.empty, []))) (fun t14 =>
 if decide (((List.getD t3.1 (Int.toNat t2) (0, (ByteArray.empty, []))).1) = 1) = true then
 j2 n t2 ((List.getD t3.1 (Int.toNat t2) (0, (ByteArray.empty, []))).1) (decide (((List.getD t3.1 (Int.toNat t2) (0, (ByteArray.empty, []))).1) = 1)) t3 t14 t5 (List.getD t3.1 (Int.toNat t2) (0, (ByteArray.empty, []))) (fun t41 =>
 j5 n t2 t41 t3 t14 t5 (List.getD t3.1 (Int.toNat t2) (0, (ByteArray.empty, []))) (fun t55 =>
 l0 n t3 K0 k (IntKind.i64.wrap (t2 + 1)) t14 t55))
 else
 j2 n t2 ((List.getD t3.1 (Int.toNat t2) (0, (ByteArray.empty, []))).1) (decide (((List.getD t3.1 (Int.toNat t2) (0, (ByteArray.empty, []))).1) = 3)) t3 t14 t5 (List.getD t3.1 (Int.toNat t2) (0, (ByteArray.empty, []))) (fun t56 =>
 j5 n t2 t56 t3 t14 t5 (List.getD t3.1 (Int.toNat t2) (0, (ByteArray.empty, []))) (fun t57 =>
 l0 n t3 K0 k (IntKind.i64.wrap (t2 + 1)) t14 t57))) n 0 t4
 else
 none
 else
 K0 t4 t5
def l8 (n : Nat) (t64 : Int) (t67 : List ByteArray) (t68 : List (Int × ByteArray × List Int)) (K9 : (List Int) → Option ((List ByteArray) × Bool)) : Nat → Int → (List Int) → Option ((List ByteArray) × Bool)
 | 0, _, _ => none
 | k + 1, t65, t66 =>
 if (0 : Int) ≤ t64 ∧ t64 < (List.length t68 : Int) then
 if decide (t65 < (List.length (((List.getD t68 (Int.toNat t64) (0, (ByteArray.empty, []))).2).2) : Int)) = true then
 if (0 : Int) ≤ t64 ∧ t64 < (List.length t68 : Int) then
 if (0 : Int) ≤ t65 ∧ t65 < (List.length (((List.getD t68 (Int.toNat t64) (0, (ByteArray.empty, []))).2).2) : Int) then
 (spec_l01Between.F n (List.getD (((List.getD t68 (Int.toNat t64) (0, (ByteArray.empty, []))).2).2) (Int.toNat t65) 0) 0 (IntKind.i64.wrap ((List.length t66 : Int) - 1))).bind fun r69 =>
 if (!r69) = true then
 some (t67, false)
 else
 if (0 : Int) ≤ t64 ∧ t64 < (List.length t68 : Int) then
 if (0 : Int) ≤ t65 ∧ t65 < (List.length (((List.getD t68 (Int.toNat t64) (0, (ByteArray.empty, []))).2).2) : Int) then
 if (0 : Int) ≤ (List.getD (((List.getD t68 (Int.toNat t64) (0, (ByteArray.empty, []))).2).2) (Int.toNat t65) 0) ∧ (List.getD (((List.getD t68 (Int.toNat t64) (0, (ByteArray.empty, []))).2).2) (Int.toNat t65) 0) < (List.length t66 : Int) then
 if (0 : Int) ≤ (List.getD (((List.getD t68 (Int.toNat t64) (0, (ByteArray.empty, []))).2).2) (Int.toNat t65) 0) ∧ (List.getD (((List.getD t68 (Int.toNat t64) (0, (ByteArray.empty, []))).2).2) (Int.toNat t65) 0) < (List.length t66 : Int) then
 let w70 : List Int := List.set t66 (Int.toNat (List.getD (((List.getD t68 (Int.toNat t64) (0, (ByteArray.empty, []))).2).2) (Int.toNat t65) 0)) (IntKind.i64.wrap ((List.getD t66 (Int.toNat (List.getD (((List.getD t68 (Int.toNat t64) (0, (ByteArray.empty, []))).2).2) (Int.toNat t65) 0)) 0) + 1))
 l8 n t64 t67 t68 K9 k (IntKind.i64.wrap (t65 + 1)) w70
 else
 none
 else
 none
 else
 none
 else
 none
 else
 none
 else
 none
 else
 K9 t66
 else
 none
def l7 (n : Nat) (t62 : List ByteArray) (t63 : List (Int × ByteArray × List Int)) (K7 : (List Int) → Option ((List ByteArray) × Bool)) : Nat → Int → (List Int) → Option ((List ByteArray) × Bool)
 | 0, _, _ => none
 | k + 1, t60, t61 =>
 if decide (t60 < (List.length t63 : Int)) = true then
 l8 n t60 t62 t63 (fun t71 =>
 l7 n t62 t63 K7 k (IntKind.i64.wrap (t60 + 1)) t71) n 0 t61
 else
 K7 t61
def l9 (n : Nat) (t74 : List Int) (t75 : List ByteArray) (K11 : Unit → Option ((List ByteArray) × Bool)) : Nat → Int → Option ((List ByteArray) × Bool)
 | 0, _ => none
 | k + 1, t73 =>
 if decide (t73 < (List.length t74 : Int)) = true then
 if (0 : Int) ≤ t73 ∧ t73 < (List.length t74 : Int) then
 if (!decide ((List.getD t74 (Int.toNat t73) 0) = 1)) = true then
 some (t75, false)
 else
 l9 n t74 t75 K11 k (IntKind.i64.wrap (t73 + 1))
 else
 none
 else
 K11 ()
def F (n : Nat) (t1 : (List (Int × ByteArray × List Int)) × (Int × ByteArray × List Int) × List (Int × ByteArray × List Int)) : Option ((List ByteArray) × Bool) :=
 if decide ((List.length t1.1 : Int) > 60) = true then
 some ([], false)
 else
 if (0 : Int) ≤ (List.length t1.1 : Int) ∧ (List.length t1.1 : Int) ≤ (List.length t1.1 : Int) ∧ (List.length t1.1 : Int) ≤ (lim : Int) then
 if (0 : Int) ≤ (List.length t1.1 : Int) ∧ (List.length t1.1 : Int) ≤ (List.length t1.1 : Int) ∧ (List.length t1.1 : Int) ≤ (lim : Int) then
 l0 n t1 (fun t58 t59 =>
 if List.length [t1.2.1] + List.length t1.2.2 ≤ lim then
 l7 n t59 ([t1.2.1] ++ t1.2.2) (fun t72 =>
 l9 n t72 t59 (fun _ =>
 some (t59, true)) n 0) n 0 t58
 else
 none) n 0 (List.replicate (Int.toNat (List.length t1.1 : Int)) 0) (List.replicate (Int.toNat (List.length t1.1 : Int)) ByteArray.empty)
 else
 none
 else
 none
noncomputable def code : Code := Try.f50.body.getD .skip
abbrev ash : List ASh := [.ro (.st (.pair (.sl (.st (.pair (.int .i64) (.pair (.str) (.sl (.int .i64)))))) (.pair (.st (.pair (.int .i64) (.pair (.str) (.sl (.int .i64))))) (.sl (.st (.pair (.int .i64) (.pair (.str) (.sl (.int .i64)))))))))]
abbrev rsh : List RSh := [.ro (.sl (.str)), .ro .bool]
def ent (n : Nat) : FEnt := ⟨ash, rsh, fun v => F n v.1⟩
noncomputable def cx (n : Nat) : Ctx := mkCtx Try.prog TYS [(75, spec_l01Between.ent n), (76, spec_l04Side.ent n)]
noncomputable def d : FnD := ⟨code, 224, .nil, [(.tmp 2, .sl (.str), .ro), (.tmp 3, .bool, .ro)]⟩
noncomputable def kr (n : Nat) (v : AVs ash) : KN rsh := endK (cx n) d (avEnc ash v) (rvDec rsh)
noncomputable def b1 : Code := Code.l (Code.l (Code.r (Code.l (Code.r (Code.l (Code.l (Code.r (Code.l (Code.l (Code.r (Code.l (Code.r (Code.r (Code.r (Code.r code)))))))))))))))
noncomputable def b3 : Code := Code.l (Code.l (Code.r (Code.l (Code.r (Code.l (Code.r (Code.r (Code.r (Code.r (Code.r (Code.l (Code.r (Code.l (Code.r (Code.r (Code.r (Code.l (Code.l (Code.r (Code.l (Code.l (Code.r (Code.l (Code.r (Code.r (Code.r (Code.r code)))))))))))))))))))))))))))
noncomputable def c4 : Code := (Code.r (Code.r (Code.r (Code.r (Code.r (Code.r (Code.r (Code.l (Code.r (Code.l (Code.r (Code.r (Code.r (Code.l (Code.l (Code.r (Code.l (Code.l (Code.r (Code.l (Code.r (Code.r (Code.r (Code.r code))))))))))))))))))))))))
noncomputable def c2 : Code := (Code.r (Code.l (Code.r (Code.l (Code.r (Code.r (Code.r (Code.l (Code.l (Code.r (Code.l (Code.l (Code.r (Code.l (Code.r (Code.r (Code.r (Code.r code))))))))))))))))))
noncomputable def c6 : Code := (Code.r (Code.r (Code.r (Code.r (Code.r (Code.l (Code.l (Code.r (Code.l (Code.l (Code.r (Code.l (Code.r (Code.r (Code.r (Code.r code))))))))))))))))
noncomputable def c5 : Code := (Code.r (Code.r (Code.r (Code.r (Code.l (Code.l (Code.r (Code.l (Code.l (Code.r (Code.l (Code.r (Code.r (Code.r (Code.r code)))))))))))))))
noncomputable def b0 : Code := Code.l (Code.l (Code.r (Code.l (Code.r (Code.r (Code.r (Code.r code)))))))
noncomputable def b8 : Code := Code.l (Code.l (Code.r (Code.l (Code.l (Code.r (Code.l (Code.l (Code.r (Code.l (Code.r (Code.r (Code.r (Code.r (Code.r (Code.r code)))))))))))))))
noncomputable def b7 : Code := Code.l (Code.l (Code.r (Code.l (Code.r (Code.r (Code.r (Code.r (Code.r (Code.r code)))))))))
noncomputable def b9 : Code := Code.l (Code.l (Code.r (Code.l (Code.r (Code.r (Code.r (Code.r (Code.r (Code.r (Code.r code))))))))))
def an : An := .seq .nil (.seq (.seq .nil (.cond (.seq .nil .nil) .nil)) (.seq (.reg [(24, .own .ro)]) (.seq (.reg [(28, .own .ro)]) (.seq (.seq .nil (.block (some [1, 4, 5]) (.cut 0 [1, 4, 5, 6]))) (.seq (.reg [(164, .own .ro)]) (.seq (.seq .nil (.block (some [4, 5]) (.cut 7 [4, 5, 12, 13]))) (.seq (.seq .nil (.block (some [5]) (.cut 9 [4, 5, 15]))) (.seq .nil .nil))))))))
def an1 : An := .seq (.seq .nil (.cond .nil .nil)) (.seq (.block (some [1, 4, 5, 6, 7, 8]) (.seq (.seq .nil (.cond (.seq .nil .nil) .nil)) .nil)) .nil)
abbrev sh1 : ES := ⟨[(1, .pt 1 []), (4, .al 4 []), (5, .al 5 []), (6, .v (.int .i64)), (7, .pt 7 []), (8, .v (.int .i64))], [⟨1, .st (.pair (.sl (.st (.pair (.int .i64) (.pair (.str) (.sl (.int .i64)))))) (.pair (.st (.pair (.int .i64) (.pair (.str) (.sl (.int .i64))))) (.sl (.st (.pair (.int .i64) (.pair (.str) (.sl (.int .i64)))))))), .ro, true, false, none⟩, ⟨4, .sl (.int .i64), .own .ro, false, false, none⟩, ⟨5, .sl (.str), .own .ro, false, false, none⟩, ⟨7, .st (.pair (.int .i64) (.pair (.str) (.sl (.int .i64)))), .ro, true, false, none⟩]⟩
abbrev sh1_2 : ES := ⟨[(1, .pt 1 []), (4, .al 4 []), (5, .al 5 []), (6, .v (.int .i64)), (7, .pt 7 [])], [⟨1, .st (.pair (.sl (.st (.pair (.int .i64) (.pair (.str) (.sl (.int .i64)))))) (.pair (.st (.pair (.int .i64) (.pair (.str) (.sl (.int .i64))))) (.sl (.st (.pair (.int .i64) (.pair (.str) (.sl (.int .i64)))))))), .ro, true, false, none⟩, ⟨4, .sl (.int .i64), .own .ro, false, false, none⟩, ⟨5, .sl (.str), .own .ro, false, false, none⟩, ⟨7, .st (.pair (.int .i64) (.pair (.str) (.sl (.int .i64)))), .ro, true, false, none⟩]⟩
def an3 : An := .seq (.seq .nil (.cond .nil .nil)) (.seq (.block (some [1, 4, 5, 6, 7, 9, 10]) (.seq (.seq .nil (.cond .nil .nil)) .nil)) .nil)
abbrev sh3 : ES := ⟨[(1, .pt 1 []), (4, .al 4 []), (5, .al 5 []), (6, .v (.int .i64)), (7, .pt 7 []), (9, .v .str), (10, .v (.int .i64))], [⟨1, .st (.pair (.sl (.st (.pair (.int .i64) (.pair (.str) (.sl (.int .i64)))))) (.pair (.st (.pair (.int .i64) (.pair (.str) (.sl (.int .i64))))) (.sl (.st (.pair (.int .i64) (.pair (.str) (.sl (.int .i64)))))))), .ro, true, false, none⟩, ⟨4, .sl (.int .i64), .own .ro, false, false, none⟩, ⟨5, .sl (.str), .own .ro, false, false, none⟩, ⟨7, .st (.pair (.int .i64) (.pair (.str) (.sl (.int .i64)))), .ro, true, false, none⟩]⟩
abbrev sh3_5 : ES := ⟨[(1, .pt 1 []), (4, .al 4 []), (5, .al 5 []), (6, .v (.int .i64)), (7, .pt 7 []), (9, .v .str)], [⟨1, .st (.pair (.sl (.st (.pair (.int .i64) (.pair (.str) (.sl (.int .i64)))))) (.pair (.st (.pair (.int .i64) (.pair (.str) (.sl (.int .i64))))) (.sl (.st (.pair (.int .i64) (.pair (.str) (.sl (.int .i64)))))))), .ro, true, false, none⟩, ⟨4, .sl (.int .i64), .own .ro, false, false, none⟩, ⟨5, .sl (.str), .own .ro, false, false, none⟩, ⟨7, .st (.pair (.int .i64) (.pair (.str) (.sl (.int .i64)))), .ro, true, false, none⟩]⟩
def an4 : An := .cond (.seq (.seq .nil (.cond (.seq .nil .nil) .nil)) (.seq .nil .nil)) (.seq .nil .nil)
abbrev sh4 : ES := ⟨[(1, .pt 1 []), (4, .al 4 []), (5, .al 5 []), (6, .v (.int .i64)), (7, .pt 7 []), (111, .v .bool)], [⟨1, .st (.pair (.sl (.st (.pair (.int .i64) (.pair (.str) (.sl (.int .i64)))))) (.pair (.st (.pair (.int .i64) (.pair (.str) (.sl (.int .i64))))) (.sl (.st (.pair (.int .i64) (.pair (.str) (.sl (.int .i64)))))))), .ro, true, false, none⟩, ⟨4, .sl (.int .i64), .own .ro, false, false, none⟩, ⟨5, .sl (.str), .own .ro, false, false, none⟩, ⟨7, .st (.pair (.int .i64) (.pair (.str) (.sl (.int .i64)))), .ro, true, false, none⟩]⟩
abbrev sh4_n : ES := ⟨[(1, .pt 1 []), (4, .al 4 []), (5, .al 5 []), (6, .v (.int .i64)), (7, .pt 7 []), (9, .v .str)], [⟨1, .st (.pair (.sl (.st (.pair (.int .i64) (.pair (.str) (.sl (.int .i64)))))) (.pair (.st (.pair (.int .i64) (.pair (.str) (.sl (.int .i64))))) (.sl (.st (.pair (.int .i64) (.pair (.str) (.sl (.int .i64)))))))), .ro, true, false, none⟩, ⟨4, .sl (.int .i64), .own .ro, false, false, none⟩, ⟨5, .sl (.str), .own .ro, false, false, none⟩, ⟨7, .st (.pair (.int .i64) (.pair (.str) (.sl (.int .i64)))), .ro, true, false, none⟩]⟩
def an2 : An := .cond .nil (.seq .nil (.cond .nil (.seq .nil (.cond (.seq .nil (.seq (.seq .nil (.block (some [1, 4, 5, 6, 7, 9]) (.cut 3 [1, 4, 5, 6, 7, 9, 10]))) (.seq .nil (.cond .nil .nil)))) (.seq (.seq .nil (.cond .nil (.seq .nil (.cond .nil .nil)))) (.cut 4 [1, 4, 5, 6, 7, 111]))))))
abbrev sh2 : ES := ⟨[(1, .pt 1 []), (4, .al 4 []), (5, .al 5 []), (6, .v (.int .i64)), (7, .pt 7 []), (69, .v (.int .i64)), (71, .v .bool)], [⟨1, .st (.pair (.sl (.st (.pair (.int .i64) (.pair (.str) (.sl (.int .i64)))))) (.pair (.st (.pair (.int .i64) (.pair (.str) (.sl (.int .i64))))) (.sl (.st (.pair (.int .i64) (.pair (.str) (.sl (.int .i64)))))))), .ro, true, false, none⟩, ⟨4, .sl (.int .i64), .own .ro, false, false, none⟩, ⟨5, .sl (.str), .own .ro, false, false, none⟩, ⟨7, .st (.pair (.int .i64) (.pair (.str) (.sl (.int .i64)))), .ro, true, false, none⟩]⟩
abbrev sh2_n : ES := ⟨[(1, .pt 1 []), (4, .al 4 []), (5, .al 5 []), (6, .v (.int .i64)), (7, .pt 7 []), (9, .v .str)], [⟨1, .st (.pair (.sl (.st (.pair (.int .i64) (.pair (.str) (.sl (.int .i64)))))) (.pair (.st (.pair (.int .i64) (.pair (.str) (.sl (.int .i64))))) (.sl (.st (.pair (.int .i64) (.pair (.str) (.sl (.int .i64)))))))), .ro, true, false, none⟩, ⟨4, .sl (.int .i64), .own .ro, false, false, none⟩, ⟨5, .sl (.str), .own .ro, false, false, none⟩, ⟨7, .st (.pair (.int .i64) (.pair (.str) (.sl (.int .i64)))), .ro, true, false, none⟩]⟩
def an6 : An := .nil
abbrev sh6 : ES := ⟨[(1, .pt 1 []), (4, .al 4 []), (5, .al 5 []), (6, .v (.int .i64)), (9, .v .str)], [⟨1, .st (.pair (.sl (.st (.pair (.int .i64) (.pair (.str) (.sl (.int .i64)))))) (.pair (.st (.pair (.int .i64) (.pair (.str) (.sl (.int .i64))))) (.sl (.st (.pair (.int .i64) (.pair (.str) (.sl (.int .i64)))))))), .ro, true, false, none⟩, ⟨4, .sl (.int .i64), .own .ro, false, false, none⟩, ⟨5, .sl (.str), .own .ro, false, false, none⟩]⟩
abbrev sh6_n : ES := ⟨[(1, .pt 1 []), (4, .al 4 []), (5, .al 5 []), (6, .v (.int .i64))], [⟨1, .st (.pair (.sl (.st (.pair (.int .i64) (.pair (.str) (.sl (.int .i64)))))) (.pair (.st (.pair (.int .i64) (.pair (.str) (.sl (.int .i64))))) (.sl (.st (.pair (.int .i64) (.pair (.str) (.sl (.int .i64)))))))), .ro, true, false, none⟩, ⟨4, .sl (.int .i64), .own .ro, false, false, none⟩, ⟨5, .sl (.str), .own .ro, false, false, none⟩]⟩
def an5 : An := .seq (.seq .nil (.cond (.seq .nil .nil) .nil)) (.cut 6 [1, 4, 5, 6, 9])
abbrev sh5 : ES := ⟨[(1, .pt 1 []), (4, .al 4 []), (5, .al 5 []), (6, .v (.int .i64)), (7, .pt 7 []), (9, .v .str)], [⟨1, .st (.pair (.sl (.st (.pair (.int .i64) (.pair (.str) (.sl (.int .i64)))))) (.pair (.st (.pair (.int .i64) (.pair (.str) (.sl (.int .i64))))) (.sl (.st (.pair (.int .i64) (.pair (.str) (.sl (.int .i64)))))))), .ro, true, false, none⟩, ⟨4, .sl (.int .i64), .own .ro, false, false, none⟩, ⟨5, .sl (.str), .own .ro, false, false, none⟩, ⟨7, .st (.pair (.int .i64) (.pair (.str) (.sl (.int .i64)))), .ro, true, false, none⟩]⟩
abbrev sh5_n : ES := ⟨[(1, .pt 1 []), (4, .al 4 []), (5, .al 5 []), (6, .v (.int .i64))], [⟨1, .st (.pair (.sl (.st (.pair (.int .i64) (.pair (.str) (.sl (.int .i64)))))) (.pair (.st (.pair (.int .i64) (.pair (.str) (.sl (.int .i64))))) (.sl (.st (.pair (.int .i64) (.pair (.str) (.sl (.int .i64)))))))), .ro, true, false, none⟩, ⟨4, .sl (.int .i64), .own .ro, false, false, none⟩, ⟨5, .sl (.str), .own .ro, false, false, none⟩]⟩
def an0 : An := .seq (.seq .nil (.cond .nil .nil)) (.seq (.block (some [1, 4, 5, 6]) (.seq .nil (.seq (.seq .nil (.block (some [1, 4, 5, 6, 7]) (.cut 1 [1, 4, 5, 6, 7, 8]))) (.seq .nil (.seq (.seq .nil (.block (some [1, 4, 5, 6, 7, 9]) (.seq (.seq .nil (.cond .nil .nil)) (.cut 2 [1, 4, 5, 6, 7, 69, 71])))) (.cut 5 [1, 4, 5, 6, 7, 9])))))) .nil)
abbrev sh0 : ES := ⟨[(1, .pt 1 []), (4, .al 4 []), (5, .al 5 []), (6, .v (.int .i64))], [⟨1, .st (.pair (.sl (.st (.pair (.int .i64) (.pair (.str) (.sl (.int .i64)))))) (.pair (.st (.pair (.int .i64) (.pair (.str) (.sl (.int .i64))))) (.sl (.st (.pair (.int .i64) (.pair (.str) (.sl (.int .i64)))))))), .ro, true, false, none⟩, ⟨4, .sl (.int .i64), .own .ro, false, false, none⟩, ⟨5, .sl (.str), .own .ro, false, false, none⟩]⟩
abbrev sh0_0 : ES := ⟨[(1, .pt 1 []), (4, .al 4 []), (5, .al 5 [])], [⟨1, .st (.pair (.sl (.st (.pair (.int .i64) (.pair (.str) (.sl (.int .i64)))))) (.pair (.st (.pair (.int .i64) (.pair (.str) (.sl (.int .i64))))) (.sl (.st (.pair (.int .i64) (.pair (.str) (.sl (.int .i64)))))))), .ro, true, false, none⟩, ⟨4, .sl (.int .i64), .own .ro, false, false, none⟩, ⟨5, .sl (.str), .own .ro, false, false, none⟩]⟩
def an8 : An := .seq (.seq .nil (.cond .nil .nil)) (.seq (.block (some [4, 5, 12, 13, 14]) (.seq (.seq .nil (.cond (.seq .nil .nil) .nil)) .nil)) .nil)
abbrev sh8 : ES := ⟨[(4, .al 4 []), (5, .al 5 []), (12, .al 12 []), (13, .v (.int .i64)), (14, .v (.int .i64))], [⟨4, .sl (.int .i64), .own .ro, false, false, none⟩, ⟨5, .sl (.str), .own .ro, false, false, none⟩, ⟨12, .sl (.st (.pair (.int .i64) (.pair (.str) (.sl (.int .i64))))), .own .ro, false, false, none⟩]⟩
abbrev sh8_9 : ES := ⟨[(4, .al 4 []), (5, .al 5 []), (12, .al 12 []), (13, .v (.int .i64))], [⟨4, .sl (.int .i64), .own .ro, false, false, none⟩, ⟨5, .sl (.str), .own .ro, false, false, none⟩, ⟨12, .sl (.st (.pair (.int .i64) (.pair (.str) (.sl (.int .i64))))), .own .ro, false, false, none⟩]⟩
def an7 : An := .seq (.seq .nil (.cond .nil .nil)) (.seq (.block (some [4, 5, 12, 13]) (.seq .nil (.block (some [4, 5, 12, 13]) (.cut 8 [4, 5, 12, 13, 14])))) .nil)
abbrev sh7 : ES := ⟨[(4, .al 4 []), (5, .al 5 []), (12, .al 12 []), (13, .v (.int .i64))], [⟨4, .sl (.int .i64), .own .ro, false, false, none⟩, ⟨5, .sl (.str), .own .ro, false, false, none⟩, ⟨12, .sl (.st (.pair (.int .i64) (.pair (.str) (.sl (.int .i64))))), .own .ro, false, false, none⟩]⟩
abbrev sh7_7 : ES := ⟨[(4, .al 4 []), (5, .al 5 [])], [⟨4, .sl (.int .i64), .own .ro, false, false, none⟩, ⟨5, .sl (.str), .own .ro, false, false, none⟩]⟩
def an9 : An := .seq (.seq .nil (.cond .nil .nil)) (.seq (.block (some [4, 5, 15]) (.seq .nil (.cond (.seq .nil .nil) .nil))) .nil)
abbrev sh9 : ES := ⟨[(4, .al 4 []), (5, .al 5 []), (15, .v (.int .i64))], [⟨4, .sl (.int .i64), .own .ro, false, false, none⟩, ⟨5, .sl (.str), .own .ro, false, false, none⟩]⟩
abbrev sh9_11 : ES := ⟨[(5, .al 5 [])], [⟨5, .sl (.str), .own .ro, false, false, none⟩]⟩
def g1 (n m : Nat) (x : sh1.V) (kn : KN rsh) (kx : KX rsh) : Option (RVs rsh) := l1 n x.1.2.2.2.1 x.2.1 x.2.2.2.1 x.2.2.2.2.1 (fun y0 => kx 2 (sh1_2.enc (((()), (()), (()), x.1.2.2.2.1, (()), ()), (x.2.1, y0, x.2.2.2.1, x.2.2.2.2.1, ())))) m x.1.2.2.2.2.2.1 x.2.2.1
def g3 (n m : Nat) (x : sh3.V) (kn : KN rsh) (kx : KX rsh) : Option (RVs rsh) := l3 n x.1.2.2.2.1 x.2.1 x.2.2.1 x.2.2.2.1 x.2.2.2.2.1 (fun y0 => kx 5 (sh3_5.enc (((()), (()), (()), x.1.2.2.2.1, (()), y0, ()), (x.2.1, x.2.2.1, x.2.2.2.1, x.2.2.2.2.1, ())))) m x.1.2.2.2.2.2.1 x.1.2.2.2.2.2.2.1
def g4 (n m : Nat) (x : sh4.V) (kn : KN rsh) (kx : KX rsh) : Option (RVs rsh) := j4 n x.1.2.2.2.1 x.1.2.2.2.2.2.1 x.2.1 x.2.2.1 x.2.2.2.1 x.2.2.2.2.1 (fun y0 => kn (sh4_n.enc (((()), (()), (()), x.1.2.2.2.1, (()), y0, ()), (x.2.1, x.2.2.1, x.2.2.2.1, x.2.2.2.2.1, ()))))
def g2 (n m : Nat) (x : sh2.V) (kn : KN rsh) (kx : KX rsh) : Option (RVs rsh) := j2 n x.1.2.2.2.1 x.1.2.2.2.2.2.1 x.1.2.2.2.2.2.2.1 x.2.1 x.2.2.1 x.2.2.2.1 x.2.2.2.2.1 (fun y0 => kn (sh2_n.enc (((()), (()), (()), x.1.2.2.2.1, (()), y0, ()), (x.2.1, x.2.2.1, x.2.2.2.1, x.2.2.2.2.1, ()))))
def g6 (n m : Nat) (x : sh6.V) (kn : KN rsh) (kx : KX rsh) : Option (RVs rsh) := j6 n x.1.2.2.2.1 x.1.2.2.2.2.1 x.2.1 x.2.2.1 x.2.2.2.1 (fun y0 => kn (sh6_n.enc (((()), (()), (()), x.1.2.2.2.1, ()), (x.2.1, x.2.2.1, y0, ()))))
def g5 (n m : Nat) (x : sh5.V) (kn : KN rsh) (kx : KX rsh) : Option (RVs rsh) := j5 n x.1.2.2.2.1 x.1.2.2.2.2.2.1 x.2.1 x.2.2.1 x.2.2.2.1 x.2.2.2.2.1 (fun y0 => kn (sh5_n.enc (((()), (()), (()), x.1.2.2.2.1, ()), (x.2.1, x.2.2.1, y0, ()))))
def g0 (n m : Nat) (x : sh0.V) (kn : KN rsh) (kx : KX rsh) : Option (RVs rsh) := l0 n x.2.1 (fun y0 y1 => kx 0 (sh0_0.enc (((()), (()), (()), ()), (x.2.1, y0, y1, ())))) m x.1.2.2.2.1 x.2.2.1 x.2.2.2.1
def g8 (n m : Nat) (x : sh8.V) (kn : KN rsh) (kx : KX rsh) : Option (RVs rsh) := l8 n x.1.2.2.2.1 x.2.2.1 x.2.2.2.1 (fun y0 => kx 9 (sh8_9.enc (((()), (()), (()), x.1.2.2.2.1, ()), (y0, x.2.2.1, x.2.2.2.1, ())))) m x.1.2.2.2.2.1 x.2.1
def g7 (n m : Nat) (x : sh7.V) (kn : KN rsh) (kx : KX rsh) : Option (RVs rsh) := l7 n x.2.2.1 x.2.2.2.1 (fun y0 => kx 7 (sh7_7.enc (((()), (()), ()), (y0, x.2.2.1, ())))) m x.1.2.2.2.1 x.2.1
def g9 (n m : Nat) (x : sh9.V) (kn : KN rsh) (kx : KX rsh) : Option (RVs rsh) := l9 n x.2.1 x.2.2.1 (fun _ => kx 11 (sh9_11.enc (((()), ()), (x.2.2.1, ())))) m x.1.2.2.1
def T (n : Nat) : Tab (RVs rsh) := fun j e kn kx => match j with
 | 1 => ES.on sh1 e fun x => g1 n n x kn kx
 | 3 => ES.on sh3 e fun x => g3 n n x kn kx
 | 4 => ES.on sh4 e fun x => g4 n n x kn kx
 | 2 => ES.on sh2 e fun x => g2 n n x kn kx
 | 6 => ES.on sh6 e fun x => g6 n n x kn kx
 | 5 => ES.on sh5 e fun x => g5 n n x kn kx
 | 0 => ES.on sh0 e fun x => g0 n n x kn kx
 | 8 => ES.on sh8 e fun x => g8 n n x kn kx
 | 7 => ES.on sh7 e fun x => g7 n n x kn kx
 | 9 => ES.on sh9 e fun x => g9 n n x kn kx
 | _ => none
theorem mk (n : Nat) : MOk (cx n) := mkCtx_ok (mem_cons (spec_l01Between.ok n) (mem_cons (spec_l04Side.ok n) mem_nil))
theorem u1 (n : Nat) (v : AVs ash) : UnitOk (cx n) 224 (T n) (kr n v) 1 (.loop b1) :=
 loop_u (n := n) (CO _) (mk n) (MX _) an1 [(0, [1, 4, 5]), (1, [1, 4, 5, 6]), (2, [1, 4, 5, 6, 7])] [1, 4, 5, 6, 7, 8] sh1 (g1 n) (fun _ _ _ => rfl) (fun _ _ _ => rfl) (fun m x kn kx => by kernel_rfl) (l := []) (by kernel_rfl) (mem_nil)
theorem u3 (n : Nat) (v : AVs ash) : UnitOk (cx n) 224 (T n) (kr n v) 3 (.loop b3) :=
 loop_u (n := n) (CO _) (mk n) (MX _) an3 [(0, [1, 4, 5]), (1, [1, 4, 5, 6]), (4, [1, 4, 5, 6, 7, 9]), (5, [1, 4, 5, 6, 7, 9])] [1, 4, 5, 6, 7, 9, 10] sh3 (g3 n) (fun _ _ _ => rfl) (fun _ _ _ => rfl) (fun m x kn kx => by kernel_rfl) (l := []) (by kernel_rfl) (mem_nil)
theorem u4 (n : Nat) (v : AVs ash) : UnitOk (cx n) 224 (T n) (kr n v) 4 (c4) :=
 join_u (CO _) (mk n) (MX _) an4 [(0, [1, 4, 5]), (1, [1, 4, 5, 6]), (4, [1, 4, 5, 6, 7, 9])] [1, 4, 5, 6, 7, 9] sh4 (g4 n n) (fun _ _ _ => rfl) (fun x kn kx => by kernel_rfl) (l := []) (by kernel_rfl) (mem_nil)
theorem u2 (n : Nat) (v : AVs ash) : UnitOk (cx n) 224 (T n) (kr n v) 2 (c2) :=
 join_u (CO _) (mk n) (MX _) an2 [(0, [1, 4, 5]), (1, [1, 4, 5, 6]), (4, [1, 4, 5, 6, 7, 9])] [1, 4, 5, 6, 7, 9] sh2 (g2 n n) (fun _ _ _ => rfl) (fun x kn kx => by kernel_rfl) (l := [(3, .loop b3), (4, c4)]) (by kernel_rfl) (mem_cons (u3 n v) (mem_cons (u4 n v) mem_nil))
theorem u6 (n : Nat) (v : AVs ash) : UnitOk (cx n) 224 (T n) (kr n v) 6 (c6) :=
 join_u (CO _) (mk n) (MX _) an6 [(0, [1, 4, 5]), (1, [1, 4, 5, 6])] [1, 4, 5, 6] sh6 (g6 n n) (fun _ _ _ => rfl) (fun x kn kx => by kernel_rfl) (l := []) (by kernel_rfl) (mem_nil)
theorem u5 (n : Nat) (v : AVs ash) : UnitOk (cx n) 224 (T n) (kr n v) 5 (c5) :=
 join_u (CO _) (mk n) (MX _) an5 [(0, [1, 4, 5]), (1, [1, 4, 5, 6])] [1, 4, 5, 6] sh5 (g5 n n) (fun _ _ _ => rfl) (fun x kn kx => by kernel_rfl) (l := [(6, c6)]) (by kernel_rfl) (mem_cons (u6 n v) mem_nil)
theorem u0 (n : Nat) (v : AVs ash) : UnitOk (cx n) 224 (T n) (kr n v) 0 (.loop b0) :=
 loop_u (n := n) (CO _) (mk n) (MX _) an0 [(0, [1, 4, 5])] [1, 4, 5, 6] sh0 (g0 n) (fun _ _ _ => rfl) (fun _ _ _ => rfl) (fun m x kn kx => by kernel_rfl) (l := [(1, .loop b1), (2, c2), (5, c5)]) (by kernel_rfl) (mem_cons (u1 n v) (mem_cons (u2 n v) (mem_cons (u5 n v) mem_nil)))
theorem u8 (n : Nat) (v : AVs ash) : UnitOk (cx n) 224 (T n) (kr n v) 8 (.loop b8) :=
 loop_u (n := n) (CO _) (mk n) (MX _) an8 [(7, [4, 5]), (8, [4, 5, 12, 13]), (9, [4, 5, 12, 13])] [4, 5, 12, 13, 14] sh8 (g8 n) (fun _ _ _ => rfl) (fun _ _ _ => rfl) (fun m x kn kx => by kernel_rfl) (l := []) (by kernel_rfl) (mem_nil)
theorem u7 (n : Nat) (v : AVs ash) : UnitOk (cx n) 224 (T n) (kr n v) 7 (.loop b7) :=
 loop_u (n := n) (CO _) (mk n) (MX _) an7 [(7, [4, 5])] [4, 5, 12, 13] sh7 (g7 n) (fun _ _ _ => rfl) (fun _ _ _ => rfl) (fun m x kn kx => by kernel_rfl) (l := [(8, .loop b8)]) (by kernel_rfl) (mem_cons (u8 n v) mem_nil)
theorem u9 (n : Nat) (v : AVs ash) : UnitOk (cx n) 224 (T n) (kr n v) 9 (.loop b9) :=
 loop_u (n := n) (CO _) (mk n) (MX _) an9 [(11, [5])] [4, 5, 15] sh9 (g9 n) (fun _ _ _ => rfl) (fun _ _ _ => rfl) (fun m x kn kx => by kernel_rfl) (l := []) (by kernel_rfl) (mem_nil)
theorem ok (n : Nat) : EntOk Try.prog 50 (ent n) :=
 ent_okU (c := cx n) (e := ent n) (d := d) (CO _) (mk n) (MX _) an Try.func50 (by kernel_rfl) (T n) (l := [(0, .loop b0), (7, .loop b7), (9, .loop b9)]) (by kernel_rfl) (fun v => mem_cons (u0 n v) (mem_cons (u7 n v) (mem_cons (u9 n v) mem_nil))) (fun v => by kernel_rfl)
end spec_l04Exps
namespace spec_l04Lit
def l1 (n : Nat) (t6 : List ByteArray) (t9 : Int × ByteArray × List Int) (K0 : ByteArray → Option (ByteArray × Bool)) : Nat → ByteArray → Int → Option (ByteArray × Bool)
 | 0, _, _ => none
 | k + 1, t7, t8 =>
 if decide (t8 < (List.length t9.2.2 : Int)) = true then
 if decide (t8 > 0) = true then
 if ByteArray.size t7 + ByteArray.size ⟨#[44, 32]⟩ ≤ lim then
 if (0 : Int) ≤ t8 ∧ t8 < (List.length t9.2.2 : Int) then
 if (0 : Int) ≤ (List.getD t9.2.2 (Int.toNat t8) 0) ∧ (List.getD t9.2.2 (Int.toNat t8) 0) < (List.length t6 : Int) then
 if ByteArray.size (t7 ++ ⟨#[44, 32]⟩) + ByteArray.size (List.getD t6 (Int.toNat (List.getD t9.2.2 (Int.toNat t8) 0)) ByteArray.empty) ≤ lim then
 l1 n t6 t9 K0 k ((t7 ++ ⟨#[44, 32]⟩) ++ (List.getD t6 (Int.toNat (List.getD t9.2.2 (Int.toNat t8) 0)) ByteArray.empty)) (IntKind.i64.wrap (t8 + 1))
 else
 none
 else
 none
 else
 none
 else
 none
 else
 if (0 : Int) ≤ t8 ∧ t8 < (List.length t9.2.2 : Int) then
 if (0 : Int) ≤ (List.getD t9.2.2 (Int.toNat t8) 0) ∧ (List.getD t9.2.2 (Int.toNat t8) 0) < (List.length t6 : Int) then
 if ByteArray.size t7 + ByteArray.size (List.getD t6 (Int.toNat (List.getD t9.2.2 (Int.toNat t8) 0)) ByteArray.empty) ≤ lim then
 l1 n t6 t9 K0 k (t7 ++ (List.getD t6 (Int.toNat (List.getD t9.2.2 (Int.toNat t8) 0)) ByteArray.empty)) (IntKind.i64.wrap (t8 + 1))
 else
 none
 else
 none
 else
 none
 else
 K0 t7
def j0 (n : Nat) (t3 : List ByteArray) (t4 : ByteArray) (t5 : Int × ByteArray × List Int) : Option (ByteArray × Bool) :=
 l1 n t3 t5 (fun t10 =>
 if ByteArray.size t10 + ByteArray.size ⟨#[41]⟩ ≤ lim then
 if (decide (t5.1 = 1)) = false then
 some (t10 ++ ⟨#[41]⟩, decide (t5.1 = 2))
 else
 some (t10 ++ ⟨#[41]⟩, true)
 else
 none) n t4 0
def F (n : Nat) (t1 : Int × ByteArray × List Int) (t2 : List ByteArray) : Option (ByteArray × Bool) :=
 if decide (t1.1 = 3) = true then
 if (!decide ((List.length t1.2.2 : Int) = 2)) = true then
 some (ByteArray.empty, false)
 else
 if (0 : Int) ≤ 0 ∧ 0 < (List.length t1.2.2 : Int) then
 if (0 : Int) ≤ (List.getD t1.2.2 (0) 0) ∧ (List.getD t1.2.2 (0) 0) < (List.length t2 : Int) then
 if ByteArray.size (List.getD t2 (Int.toNat (List.getD t1.2.2 (0) 0)) ByteArray.empty) + ByteArray.size ⟨#[32]⟩ ≤ lim then
 if ByteArray.size ((List.getD t2 (Int.toNat (List.getD t1.2.2 (0) 0)) ByteArray.empty) ++ ⟨#[32]⟩) + ByteArray.size t1.2.1 ≤ lim then
 if ByteArray.size (((List.getD t2 (Int.toNat (List.getD t1.2.2 (0) 0)) ByteArray.empty) ++ ⟨#[32]⟩) ++ t1.2.1) + ByteArray.size ⟨#[32]⟩ ≤ lim then
 if (0 : Int) ≤ 1 ∧ 1 < (List.length t1.2.2 : Int) then
 if (0 : Int) ≤ (List.getD t1.2.2 (1) 0) ∧ (List.getD t1.2.2 (1) 0) < (List.length t2 : Int) then
 if ByteArray.size ((((List.getD t2 (Int.toNat (List.getD t1.2.2 (0) 0)) ByteArray.empty) ++ ⟨#[32]⟩) ++ t1.2.1) ++ ⟨#[32]⟩) + ByteArray.size (List.getD t2 (Int.toNat (List.getD t1.2.2 (1) 0)) ByteArray.empty) ≤ lim then
 some (((((List.getD t2 (Int.toNat (List.getD t1.2.2 (0) 0)) ByteArray.empty) ++ ⟨#[32]⟩) ++ t1.2.1) ++ ⟨#[32]⟩) ++ (List.getD t2 (Int.toNat (List.getD t1.2.2 (1) 0)) ByteArray.empty), true)
 else
 none
 else
 none
 else
 none
 else
 none
 else
 none
 else
 none
 else
 none
 else
 none
 else
 if ByteArray.size t1.2.1 + ByteArray.size ⟨#[40]⟩ ≤ lim then
 if decide (t1.1 = 2) = true then
 if ByteArray.size ⟨#[33]⟩ + ByteArray.size (t1.2.1 ++ ⟨#[40]⟩) ≤ lim then
 j0 n t2 (⟨#[33]⟩ ++ (t1.2.1 ++ ⟨#[40]⟩)) t1
 else
 none
 else
 j0 n t2 (t1.2.1 ++ ⟨#[40]⟩) t1
 else
 none
noncomputable def code : Code := Try.f51.body.getD .skip
abbrev ash : List ASh := [.ro (.st (.pair (.int .i64) (.pair (.str) (.sl (.int .i64))))), .ro (.sl (.str))]
abbrev rsh : List RSh := [.ro .str, .ro .bool]
def ent (n : Nat) : FEnt := ⟨ash, rsh, fun v => F n v.1 v.2.1⟩
noncomputable def cx (n : Nat) : Ctx := mkCtx Try.prog TYS []
noncomputable def d : FnD := ⟨code, 74, .nil, [(.tmp 4, .str, .ro), (.tmp 5, .bool, .ro)]⟩
noncomputable def kr (n : Nat) (v : AVs ash) : KN rsh := endK (cx n) d (avEnc ash v) (rvDec rsh)
noncomputable def b1 : Code := Code.l (Code.l (Code.r (Code.l (Code.r (Code.r (Code.r (Code.r code)))))))
noncomputable def c0 : Code := (Code.r (Code.r (Code.r (Code.r code))))
def an : An := .seq .nil (.seq (.seq .nil (.cond (.seq (.seq .nil (.cond (.seq .nil .nil) .nil)) (.seq .nil .nil)) .nil)) (.seq .nil (.seq (.seq .nil (.cond .nil .nil)) (.cut 0 [1, 2, 6]))))
def an1 : An := .seq (.seq .nil (.cond .nil .nil)) (.seq (.block (some [1, 2, 6, 7]) (.seq (.seq .nil (.cond .nil .nil)) .nil)) .nil)
abbrev sh1 : ES := ⟨[(1, .v (.sl (.str))), (2, .pt 2 []), (6, .v .str), (7, .v (.int .i64))], [⟨2, .st (.pair (.int .i64) (.pair (.str) (.sl (.int .i64)))), .ro, true, false, none⟩]⟩
abbrev sh1_0 : ES := ⟨[(2, .pt 2 []), (6, .v .str)], [⟨2, .st (.pair (.int .i64) (.pair (.str) (.sl (.int .i64)))), .ro, true, false, none⟩]⟩
def an0 : An := .seq (.seq .nil (.block (some [2, 6]) (.cut 1 [1, 2, 6, 7]))) (.seq .nil .nil)
abbrev sh0 : ES := ⟨[(1, .v (.sl (.str))), (2, .pt 2 []), (6, .v .str)], [⟨2, .st (.pair (.int .i64) (.pair (.str) (.sl (.int .i64)))), .ro, true, false, none⟩]⟩
def g1 (n m : Nat) (x : sh1.V) (kn : KN rsh) (kx : KX rsh) : Option (RVs rsh) := l1 n x.1.1 x.2.1 (fun y0 => kx 0 (sh1_0.enc (((()), y0, ()), (x.2.1, ())))) m x.1.2.2.1 x.1.2.2.2.1
def g0 (n m : Nat) (x : sh0.V) (kn : KN rsh) (kx : KX rsh) : Option (RVs rsh) := j0 n x.1.1 x.1.2.2.1 x.2.1
def T (n : Nat) : Tab (RVs rsh) := fun j e kn kx => match j with
 | 1 => ES.on sh1 e fun x => g1 n n x kn kx
 | 0 => ES.on sh0 e fun x => g0 n n x kn kx
 | _ => none
theorem mk (n : Nat) : MOk (cx n) := mkCtx_ok (mem_nil)
theorem u1 (n : Nat) (v : AVs ash) : UnitOk (cx n) 74 (T n) (kr n v) 1 (.loop b1) :=
 loop_u (n := n) (CO _) (mk n) (MX _) an1 [(0, [2, 6])] [1, 2, 6, 7] sh1 (g1 n) (fun _ _ _ => rfl) (fun _ _ _ => rfl) (fun m x kn kx => by kernel_rfl) (l := []) (by kernel_rfl) (mem_nil)
theorem u0 (n : Nat) (v : AVs ash) : UnitOk (cx n) 74 (T n) (kr n v) 0 (c0) :=
 join_u (CO _) (mk n) (MX _) an0 [] [4, 5] sh0 (g0 n n) (fun _ _ _ => rfl) (fun x kn kx => by kernel_rfl) (l := [(1, .loop b1)]) (by kernel_rfl) (mem_cons (u1 n v) mem_nil)
theorem ok (n : Nat) : EntOk Try.prog 51 (ent n) :=
 ent_okU (c := cx n) (e := ent n) (d := d) (CO _) (mk n) (MX _) an Try.func51 (by kernel_rfl) (T n) (l := [(0, c0)]) (by kernel_rfl) (fun v => mem_cons (u0 n v) mem_nil) (fun v => by kernel_rfl)
end spec_l04Lit
namespace spec_RuleText
def j3 (n : Nat) (t15 : List ByteArray) (t16 : ByteArray) (t17 : Int) (t18 : (List (Int × ByteArray × List Int)) × (Int × ByteArray × List Int) × List (Int × ByteArray × List Int)) (Kn : ByteArray → Option ByteArray) : Option ByteArray :=
 if (0 : Int) ≤ t17 ∧ t17 < (List.length t18.2.2 : Int) then
 (spec_l04Lit.F n (List.getD t18.2.2 (Int.toNat t17) (0, (ByteArray.empty, []))) t15).bind fun r19 =>
 if (!r19.2) = true then
 some ByteArray.empty
 else
 if ByteArray.size t16 + ByteArray.size r19.1 ≤ lim then
 Kn (t16 ++ r19.1)
 else
 none
 else
 none
def j2 (n : Nat) (t11 : List ByteArray) (t12 : ByteArray) (t13 : Int) (t14 : (List (Int × ByteArray × List Int)) × (Int × ByteArray × List Int) × List (Int × ByteArray × List Int)) (Kn : ByteArray → Int → Option ByteArray) : Option ByteArray :=
 if decide (t13 = 0) = true then
 if ByteArray.size t12 + ByteArray.size ⟨#[32, 58, 45, 32]⟩ ≤ lim then
 j3 n t11 (t12 ++ ⟨#[32, 58, 45, 32]⟩) t13 t14 (fun t20 =>
 Kn t20 (IntKind.i64.wrap (t13 + 1)))
 else
 none
 else
 if ByteArray.size t12 + ByteArray.size ⟨#[44, 32]⟩ ≤ lim then
 j3 n t11 (t12 ++ ⟨#[44, 32]⟩) t13 t14 (fun t21 =>
 Kn t21 (IntKind.i64.wrap (t13 + 1)))
 else
 none
def l1 (n : Nat) (t7 : List ByteArray) (t10 : (List (Int × ByteArray × List Int)) × (Int × ByteArray × List Int) × List (Int × ByteArray × List Int)) (K0 : ByteArray → Option ByteArray) : Nat → ByteArray → Int → Option ByteArray
 | 0, _, _ => none
 | k + 1, t8, t9 =>
 if (decide (t9 < (List.length t10.2.2 : Int))) = true then
 if decide ((ByteArray.size t8 : Int) ≤ 3000) = true then
 j2 n t7 t8 t9 t10 (fun t22 t23 =>
 l1 n t7 t10 K0 k t22 t23)
 else
 K0 t8
 else
 K0 t8
def j0 (n : Nat) (t4 : List ByteArray) (t5 : ByteArray) (t6 : (List (Int × ByteArray × List Int)) × (Int × ByteArray × List Int) × List (Int × ByteArray × List Int)) : Option ByteArray :=
 l1 n t4 t6 (fun t24 =>
 if ByteArray.size t24 + ByteArray.size ⟨#[46]⟩ ≤ lim then
 if decide ((ByteArray.size (t24 ++ ⟨#[46]⟩) : Int) > 3000) = true then
 some ByteArray.empty
 else
 some (t24 ++ ⟨#[46]⟩)
 else
 none) n t5 0
def F (n : Nat) (t1 : (List (Int × ByteArray × List Int)) × (Int × ByteArray × List Int) × List (Int × ByteArray × List Int)) : Option ByteArray :=
 if decide ((List.length t1.2.2 : Int) > 3000) = true then
 some ByteArray.empty
 else
 (spec_l04Exps.F n t1).bind fun r2 =>
 if (!r2.2) = true then
 some ByteArray.empty
 else
 (spec_l04Lit.F n t1.2.1 r2.1).bind fun r3 =>
 if (!r3.2) = false then
 if (!decide (t1.2.1.1 = 1)) = true then
 some ByteArray.empty
 else
 j0 n r2.1 r3.1 t1
 else
 some ByteArray.empty
noncomputable def code : Code := Try.f26.body.getD .skip
abbrev ash : List ASh := [.ro (.st (.pair (.sl (.st (.pair (.int .i64) (.pair (.str) (.sl (.int .i64)))))) (.pair (.st (.pair (.int .i64) (.pair (.str) (.sl (.int .i64))))) (.sl (.st (.pair (.int .i64) (.pair (.str) (.sl (.int .i64)))))))))]
abbrev rsh : List RSh := [.ro .str]
def ent (n : Nat) : FEnt := ⟨ash, rsh, fun v => F n v.1⟩
noncomputable def cx (n : Nat) : Ctx := mkCtx Try.prog TYS [(50, spec_l04Exps.ent n), (51, spec_l04Lit.ent n)]
noncomputable def d : FnD := ⟨code, 74, .nil, [(.tmp 2, .str, .ro)]⟩
noncomputable def kr (n : Nat) (v : AVs ash) : KN rsh := endK (cx n) d (avEnc ash v) (rvDec rsh)
noncomputable def c3 : Code := (Code.r (Code.l (Code.l (Code.r (Code.l (Code.l (Code.r (Code.l (Code.r (Code.r (Code.r (Code.r (Code.r (Code.r code))))))))))))))
noncomputable def c2 : Code := (Code.r (Code.l (Code.l (Code.r (Code.l (Code.r (Code.r (Code.r (Code.r (Code.r (Code.r code)))))))))))
noncomputable def b1 : Code := Code.l (Code.l (Code.r (Code.l (Code.r (Code.r (Code.r (Code.r (Code.r (Code.r code)))))))))
noncomputable def c0 : Code := (Code.r (Code.r (Code.r (Code.r (Code.r (Code.r code))))))
def an : An := .seq .nil (.seq (.seq .nil (.cond (.seq .nil .nil) .nil)) (.seq .nil (.seq (.seq .nil (.cond (.seq .nil .nil) .nil)) (.seq .nil (.seq (.seq .nil (.cond (.seq .nil .nil) .nil)) (.cut 0 [1, 3, 5]))))))
def an3 : An := .seq .nil (.seq (.seq .nil (.cond (.seq .nil .nil) .nil)) .nil)
abbrev sh3 : ES := ⟨[(1, .pt 1 []), (3, .v (.sl (.str))), (5, .v .str), (6, .v (.int .i64))], [⟨1, .st (.pair (.sl (.st (.pair (.int .i64) (.pair (.str) (.sl (.int .i64)))))) (.pair (.st (.pair (.int .i64) (.pair (.str) (.sl (.int .i64))))) (.sl (.st (.pair (.int .i64) (.pair (.str) (.sl (.int .i64)))))))), .ro, true, false, none⟩]⟩
abbrev sh3_n : ES := ⟨[(1, .pt 1 []), (3, .v (.sl (.str))), (5, .v .str), (6, .v (.int .i64))], [⟨1, .st (.pair (.sl (.st (.pair (.int .i64) (.pair (.str) (.sl (.int .i64)))))) (.pair (.st (.pair (.int .i64) (.pair (.str) (.sl (.int .i64))))) (.sl (.st (.pair (.int .i64) (.pair (.str) (.sl (.int .i64)))))))), .ro, true, false, none⟩]⟩
def an2 : An := .seq (.block (some [1, 3, 5, 6]) (.seq (.seq .nil (.cond .nil .nil)) (.cut 3 [1, 3, 5, 6]))) .nil
abbrev sh2 : ES := ⟨[(1, .pt 1 []), (3, .v (.sl (.str))), (5, .v .str), (6, .v (.int .i64))], [⟨1, .st (.pair (.sl (.st (.pair (.int .i64) (.pair (.str) (.sl (.int .i64)))))) (.pair (.st (.pair (.int .i64) (.pair (.str) (.sl (.int .i64))))) (.sl (.st (.pair (.int .i64) (.pair (.str) (.sl (.int .i64)))))))), .ro, true, false, none⟩]⟩
abbrev sh2_n : ES := ⟨[(1, .pt 1 []), (3, .v (.sl (.str))), (5, .v .str), (6, .v (.int .i64))], [⟨1, .st (.pair (.sl (.st (.pair (.int .i64) (.pair (.str) (.sl (.int .i64)))))) (.pair (.st (.pair (.int .i64) (.pair (.str) (.sl (.int .i64))))) (.sl (.st (.pair (.int .i64) (.pair (.str) (.sl (.int .i64)))))))), .ro, true, false, none⟩]⟩
def an1 : An := .seq (.seq .nil (.cond .nil .nil)) (.cut 2 [1, 3, 5, 6])
abbrev sh1 : ES := ⟨[(1, .pt 1 []), (3, .v (.sl (.str))), (5, .v .str), (6, .v (.int .i64))], [⟨1, .st (.pair (.sl (.st (.pair (.int .i64) (.pair (.str) (.sl (.int .i64)))))) (.pair (.st (.pair (.int .i64) (.pair (.str) (.sl (.int .i64))))) (.sl (.st (.pair (.int .i64) (.pair (.str) (.sl (.int .i64)))))))), .ro, true, false, none⟩]⟩
abbrev sh1_0 : ES := ⟨[(5, .v .str)], []⟩
def an0 : An := .seq (.seq .nil (.block (some [5]) (.cut 1 [1, 3, 5, 6]))) (.seq .nil (.seq (.seq .nil (.cond (.seq .nil .nil) .nil)) (.seq .nil .nil)))
abbrev sh0 : ES := ⟨[(1, .pt 1 []), (3, .v (.sl (.str))), (5, .v .str)], [⟨1, .st (.pair (.sl (.st (.pair (.int .i64) (.pair (.str) (.sl (.int .i64)))))) (.pair (.st (.pair (.int .i64) (.pair (.str) (.sl (.int .i64))))) (.sl (.st (.pair (.int .i64) (.pair (.str) (.sl (.int .i64)))))))), .ro, true, false, none⟩]⟩
def g3 (n m : Nat) (x : sh3.V) (kn : KN rsh) (kx : KX rsh) : Option (RVs rsh) := j3 n x.1.2.1 x.1.2.2.1 x.1.2.2.2.1 x.2.1 (fun y0 => kn (sh3_n.enc (((()), x.1.2.1, y0, x.1.2.2.2.1, ()), (x.2.1, ()))))
def g2 (n m : Nat) (x : sh2.V) (kn : KN rsh) (kx : KX rsh) : Option (RVs rsh) := j2 n x.1.2.1 x.1.2.2.1 x.1.2.2.2.1 x.2.1 (fun y0 y1 => kn (sh2_n.enc (((()), x.1.2.1, y0, y1, ()), (x.2.1, ()))))
def g1 (n m : Nat) (x : sh1.V) (kn : KN rsh) (kx : KX rsh) : Option (RVs rsh) := l1 n x.1.2.1 x.2.1 (fun y0 => kx 0 (sh1_0.enc ((y0, ()), (())))) m x.1.2.2.1 x.1.2.2.2.1
def g0 (n m : Nat) (x : sh0.V) (kn : KN rsh) (kx : KX rsh) : Option (RVs rsh) := j0 n x.1.2.1 x.1.2.2.1 x.2.1
def T (n : Nat) : Tab (RVs rsh) := fun j e kn kx => match j with
 | 3 => ES.on sh3 e fun x => g3 n n x kn kx
 | 2 => ES.on sh2 e fun x => g2 n n x kn kx
 | 1 => ES.on sh1 e fun x => g1 n n x kn kx
 | 0 => ES.on sh0 e fun x => g0 n n x kn kx
 | _ => none
theorem mk (n : Nat) : MOk (cx n) := mkCtx_ok (mem_cons (spec_l04Exps.ok n) (mem_cons (spec_l04Lit.ok n) mem_nil))
theorem u3 (n : Nat) (v : AVs ash) : UnitOk (cx n) 74 (T n) (kr n v) 3 (c3) :=
 join_u (CO _) (mk n) (MX _) an3 [(0, [5]), (1, [1, 3, 5, 6])] [1, 3, 5, 6] sh3 (g3 n n) (fun _ _ _ => rfl) (fun x kn kx => by kernel_rfl) (l := []) (by kernel_rfl) (mem_nil)
theorem u2 (n : Nat) (v : AVs ash) : UnitOk (cx n) 74 (T n) (kr n v) 2 (c2) :=
 join_u (CO _) (mk n) (MX _) an2 [(0, [5])] [1, 3, 5, 6] sh2 (g2 n n) (fun _ _ _ => rfl) (fun x kn kx => by kernel_rfl) (l := [(3, c3)]) (by kernel_rfl) (mem_cons (u3 n v) mem_nil)
theorem u1 (n : Nat) (v : AVs ash) : UnitOk (cx n) 74 (T n) (kr n v) 1 (.loop b1) :=
 loop_u (n := n) (CO _) (mk n) (MX _) an1 [(0, [5])] [1, 3, 5, 6] sh1 (g1 n) (fun _ _ _ => rfl) (fun _ _ _ => rfl) (fun m x kn kx => by kernel_rfl) (l := [(2, c2)]) (by kernel_rfl) (mem_cons (u2 n v) mem_nil)
theorem u0 (n : Nat) (v : AVs ash) : UnitOk (cx n) 74 (T n) (kr n v) 0 (c0) :=
 join_u (CO _) (mk n) (MX _) an0 [] [2] sh0 (g0 n n) (fun _ _ _ => rfl) (fun x kn kx => by kernel_rfl) (l := [(1, .loop b1)]) (by kernel_rfl) (mem_cons (u1 n v) mem_nil)
theorem ok (n : Nat) : EntOk Try.prog 26 (ent n) :=
 ent_okU (c := cx n) (e := ent n) (d := d) (CO _) (mk n) (MX _) an Try.func26 (by kernel_rfl) (T n) (l := [(0, c0)]) (by kernel_rfl) (fun v => mem_cons (u0 n v) mem_nil) (fun v => by kernel_rfl)
end spec_RuleText
namespace spec_l16Text
def F (n : Nat) (r1 : (List (Int × ByteArray × List Int)) × (Int × ByteArray × List Int) × List (Int × ByteArray × List Int)) (t2 : Int) : Option ByteArray :=
 if (0 : Int) ≤ t2 ∧ t2 < (List.length r1.1 : Int) then
 if decide (((List.getD r1.1 (Int.toNat t2) (0, (ByteArray.empty, []))).1) = 1) = true then
 if (0 : Int) ≤ t2 ∧ t2 < (List.length r1.1 : Int) then
 if ByteArray.size ⟨#[118]⟩ + ByteArray.size (((List.getD r1.1 (Int.toNat t2) (0, (ByteArray.empty, []))).2).1) ≤ lim then
 some (⟨#[118]⟩ ++ (((List.getD r1.1 (Int.toNat t2) (0, (ByteArray.empty, []))).2).1))
 else
 none
 else
 none
 else
 if (0 : Int) ≤ t2 ∧ t2 < (List.length r1.1 : Int) then
 if ByteArray.size ⟨#[116]⟩ + ByteArray.size (((List.getD r1.1 (Int.toNat t2) (0, (ByteArray.empty, []))).2).1) ≤ lim then
 some (⟨#[116]⟩ ++ (((List.getD r1.1 (Int.toNat t2) (0, (ByteArray.empty, []))).2).1))
 else
 none
 else
 none
 else
 none
noncomputable def code : Code := Try.f27.body.getD .skip
abbrev ash : List ASh := [.ro (.st (.pair (.sl (.st (.pair (.int .i64) (.pair (.str) (.sl (.int .i64)))))) (.pair (.st (.pair (.int .i64) (.pair (.str) (.sl (.int .i64))))) (.sl (.st (.pair (.int .i64) (.pair (.str) (.sl (.int .i64))))))))), .ro (.int .i64)]
abbrev rsh : List RSh := [.ro .str]
def ent (n : Nat) : FEnt := ⟨ash, rsh, fun v => F n v.1 v.2.1⟩
noncomputable def cx (n : Nat) : Ctx := mkCtx Try.prog TYS []
noncomputable def d : FnD := ⟨code, 26, .nil, [(.tmp 4, .str, .ro)]⟩
def an : An := .seq .nil (.seq (.seq .nil (.cond (.seq .nil .nil) .nil)) (.seq .nil .nil))
theorem ok (n : Nat) : EntOk Try.prog 27 (ent n) :=
 ent_ok0 (c := cx n) (e := ent n) (d := d) (CO _) (mkCtx_ok (mem_nil)) (MX _) an Try.func27 (by kernel_rfl) (by kernel_rfl) (fun v => by kernel_rfl)
end spec_l16Text
namespace spec_l05In
def l0 (n : Nat) (list3 : List ByteArray) (s4 : ByteArray) (K0 : Unit → Option Bool) : Nat → Int → Option Bool
 | 0, _ => none
 | k + 1, i5 =>
 if decide (i5 < (List.length list3 : Int)) = true then
 if (0 : Int) ≤ i5 ∧ i5 < (List.length list3 : Int) then
 if (Abs.seq (List.getD list3 (Int.toNat i5) ByteArray.empty) s4) = true then
 some true
 else
 l0 n list3 s4 K0 k (IntKind.i64.wrap (i5 + 1))
 else
 none
 else
 K0 ()
def F (n : Nat) (list1 : List ByteArray) (s2 : ByteArray) : Option Bool :=
 l0 n list1 s2 (fun _ =>
 some false) n 0
noncomputable def code : Code := Try.f28.body.getD .skip
abbrev ash : List ASh := [.ro (.sl (.str)), .ro .str]
abbrev rsh : List RSh := [.ro .bool]
def ent (n : Nat) : FEnt := ⟨ash, rsh, fun v => F n v.1 v.2.1⟩
noncomputable def cx (n : Nat) : Ctx := mkCtx Try.prog TYS []
noncomputable def d : FnD := ⟨code, 18, .nil, [(.tmp 4, .bool, .ro)]⟩
noncomputable def kr (n : Nat) (v : AVs ash) : KN rsh := endK (cx n) d (avEnc ash v) (rvDec rsh)
noncomputable def b0 : Code := Code.l (Code.l (Code.r (Code.l (Code.r code))))
def an : An := .seq .nil (.seq (.seq .nil (.block (some []) (.cut 0 [0, 1, 5]))) (.seq .nil .nil))
def an0 : An := .seq (.seq .nil (.cond .nil .nil)) (.seq (.block (some [0, 1, 5]) (.seq .nil (.cond (.seq .nil .nil) .nil))) .nil)
abbrev sh0 : ES := ⟨[(0, .v (.sl (.str))), (1, .v .str), (5, .v (.int .i64))], []⟩
abbrev sh0_0 : ES := ⟨[], []⟩
def g0 (n m : Nat) (x : sh0.V) (kn : KN rsh) (kx : KX rsh) : Option (RVs rsh) := l0 n x.1.1 x.1.2.1 (fun _ => kx 0 (sh0_0.enc ((()), (())))) m x.1.2.2.1
def T (n : Nat) : Tab (RVs rsh) := fun j e kn kx => match j with
 | 0 => ES.on sh0 e fun x => g0 n n x kn kx
 | _ => none
theorem mk (n : Nat) : MOk (cx n) := mkCtx_ok (mem_nil)
theorem u0 (n : Nat) (v : AVs ash) : UnitOk (cx n) 18 (T n) (kr n v) 0 (.loop b0) :=
 loop_u (n := n) (CO _) (mk n) (MX _) an0 [(0, [])] [0, 1, 5] sh0 (g0 n) (fun _ _ _ => rfl) (fun _ _ _ => rfl) (fun m x kn kx => by kernel_rfl) (l := []) (by kernel_rfl) (mem_nil)
theorem ok (n : Nat) : EntOk Try.prog 28 (ent n) :=
 ent_okU (c := cx n) (e := ent n) (d := d) (CO _) (mk n) (MX _) an Try.func28 (by kernel_rfl) (T n) (l := [(0, .loop b0)]) (by kernel_rfl) (fun v => mem_cons (u0 n v) mem_nil) (fun v => by kernel_rfl)
end spec_l05In
namespace spec_PlainRule
def l2 (n : Nat) (t7 : Int) (t9 : (List (Int × ByteArray × List Int)) × (Int × ByteArray × List Int) × List (Int × ByteArray × List Int)) (K2 : (List ByteArray) → Option Bool) : Nat → Int → (List ByteArray) → Option Bool
 | 0, _, _ => none
 | k + 1, t8, t10 =>
 if (0 : Int) ≤ t7 ∧ t7 < (List.length t9.2.2 : Int) then
 if decide (t8 < (List.length (((List.getD t9.2.2 (Int.toNat t7) (0, (ByteArray.empty, []))).2).2) : Int)) = true then
 if (0 : Int) ≤ t7 ∧ t7 < (List.length t9.2.2 : Int) then
 if (0 : Int) ≤ t8 ∧ t8 < (List.length (((List.getD t9.2.2 (Int.toNat t7) (0, (ByteArray.empty, []))).2).2) : Int) then
 (spec_l16Text.F n t9 (List.getD (((List.getD t9.2.2 (Int.toNat t7) (0, (ByteArray.empty, []))).2).2) (Int.toNat t8) 0)).bind fun r11 =>
 if List.length t10 + List.length [r11] ≤ lim then
 l2 n t7 t9 K2 k (IntKind.i64.wrap (t8 + 1)) (t10 ++ [r11])
 else
 none
 else
 none
 else
 none
 else
 K2 t10
 else
 none
def l1 (n : Nat) (t5 : (List (Int × ByteArray × List Int)) × (Int × ByteArray × List Int) × List (Int × ByteArray × List Int)) (K0 : (List ByteArray) → Option Bool) : Nat → Int → (List ByteArray) → Option Bool
 | 0, _, _ => none
 | k + 1, t4, t6 =>
 if decide (t4 < (List.length t5.2.2 : Int)) = true then
 if (0 : Int) ≤ t4 ∧ t4 < (List.length t5.2.2 : Int) then
 if (!decide (((List.getD t5.2.2 (Int.toNat t4) (0, (ByteArray.empty, []))).1) = 1)) = true then
 some false
 else
 l2 n t4 t5 (fun t12 =>
 l1 n t5 K0 k (IntKind.i64.wrap (t4 + 1)) t12) n 0 t6
 else
 none
 else
 K0 t6
def l3 (n : Nat) (t15 : (List (Int × ByteArray × List Int)) × (Int × ByteArray × List Int) × List (Int × ByteArray × List Int)) (t16 : List ByteArray) (K4 : Unit → Option Bool) : Nat → Int → Option Bool
 | 0, _ => none
 | k + 1, t14 =>
 if decide (t14 < (List.length t15.1 : Int)) = true then
 if (0 : Int) ≤ t14 ∧ t14 < (List.length t15.1 : Int) then
 if (!decide (((List.getD t15.1 (Int.toNat t14) (0, (ByteArray.empty, []))).1) = 1)) = true then
 if (0 : Int) ≤ t14 ∧ t14 < (List.length t15.1 : Int) then
 if (!decide (((List.getD t15.1 (Int.toNat t14) (0, (ByteArray.empty, []))).1) = 3)) = true then
 some false
 else
 l3 n t15 t16 K4 k (IntKind.i64.wrap (t14 + 1))
 else
 none
 else
 l3 n t15 t16 K4 k (IntKind.i64.wrap (t14 + 1))
 else
 none
 else
 K4 ()
def l4 (n : Nat) (t18 : (List (Int × ByteArray × List Int)) × (Int × ByteArray × List Int) × List (Int × ByteArray × List Int)) (t19 : List ByteArray) (K6 : Unit → Option Bool) : Nat → Int → Option Bool
 | 0, _ => none
 | k + 1, t17 =>
 if decide (t17 < (List.length t18.2.1.2.2 : Int)) = true then
 if (0 : Int) ≤ t17 ∧ t17 < (List.length t18.2.1.2.2 : Int) then
 if (0 : Int) ≤ (List.getD t18.2.1.2.2 (Int.toNat t17) 0) ∧ (List.getD t18.2.1.2.2 (Int.toNat t17) 0) < (List.length t18.1 : Int) then
 if (decide (((List.getD t18.1 (Int.toNat (List.getD t18.2.1.2.2 (Int.toNat t17) 0)) (0, (ByteArray.empty, []))).1) = 1)) = true then
 if (0 : Int) ≤ t17 ∧ t17 < (List.length t18.2.1.2.2 : Int) then
 (spec_l16Text.F n t18 (List.getD t18.2.1.2.2 (Int.toNat t17) 0)).bind fun r20 =>
 (spec_l05In.F n t19 r20).bind fun r21 =>
 if (!r21) = true then
 some false
 else
 l4 n t18 t19 K6 k (IntKind.i64.wrap (t17 + 1))
 else
 none
 else
 l4 n t18 t19 K6 k (IntKind.i64.wrap (t17 + 1))
 else
 none
 else
 none
 else
 K6 ()
def j0 (n : Nat) (t3 : (List (Int × ByteArray × List Int)) × (Int × ByteArray × List Int) × List (Int × ByteArray × List Int)) : Option Bool :=
 l1 n t3 (fun t13 =>
 l3 n t3 t13 (fun _ =>
 l4 n t3 t13 (fun _ =>
 some true) n 0) n 0) n 0 []
def F (n : Nat) (t1 : (List (Int × ByteArray × List Int)) × (Int × ByteArray × List Int) × List (Int × ByteArray × List Int)) : Option Bool :=
 (spec_RuleText.F n t1).bind fun r2 =>
 if (Abs.seq r2 ByteArray.empty) = false then
 if decide ((List.length t1.2.2 : Int) > 6) = true then
 some false
 else
 j0 n t1
 else
 some false
noncomputable def code : Code := Try.f8.body.getD .skip
abbrev ash : List ASh := [.ro (.st (.pair (.sl (.st (.pair (.int .i64) (.pair (.str) (.sl (.int .i64)))))) (.pair (.st (.pair (.int .i64) (.pair (.str) (.sl (.int .i64))))) (.sl (.st (.pair (.int .i64) (.pair (.str) (.sl (.int .i64)))))))))]
abbrev rsh : List RSh := [.ro .bool]
def ent (n : Nat) : FEnt := ⟨ash, rsh, fun v => F n v.1⟩
noncomputable def cx (n : Nat) : Ctx := mkCtx Try.prog TYS [(26, spec_RuleText.ent n), (27, spec_l16Text.ent n), (28, spec_l05In.ent n)]
noncomputable def d : FnD := ⟨code, 113, .nil, [(.tmp 2, .bool, .ro)]⟩
noncomputable def kr (n : Nat) (v : AVs ash) : KN rsh := endK (cx n) d (avEnc ash v) (rvDec rsh)
noncomputable def b2 : Code := Code.l (Code.l (Code.r (Code.r (Code.l (Code.l (Code.r (Code.l (Code.l (Code.r (Code.l (Code.r (Code.r (Code.r code)))))))))))))
noncomputable def b1 : Code := Code.l (Code.l (Code.r (Code.l (Code.r (Code.r (Code.r code))))))
noncomputable def b3 : Code := Code.l (Code.l (Code.r (Code.l (Code.r (Code.r (Code.r (Code.r code)))))))
noncomputable def b4 : Code := Code.l (Code.l (Code.r (Code.l (Code.r (Code.r (Code.r (Code.r (Code.r code))))))))
noncomputable def c0 : Code := (Code.r (Code.r code))
def an : An := .seq .nil (.seq (.seq .nil (.cond (.seq .nil .nil) .nil)) (.cut 0 [1]))
def an2 : An := .seq (.seq .nil (.cond .nil .nil)) (.seq (.block (some [1, 3, 4, 5]) .nil) .nil)
abbrev sh2 : ES := ⟨[(1, .pt 1 []), (3, .al 3 []), (4, .v (.int .i64)), (5, .v (.int .i64))], [⟨1, .st (.pair (.sl (.st (.pair (.int .i64) (.pair (.str) (.sl (.int .i64)))))) (.pair (.st (.pair (.int .i64) (.pair (.str) (.sl (.int .i64))))) (.sl (.st (.pair (.int .i64) (.pair (.str) (.sl (.int .i64)))))))), .ro, true, false, none⟩, ⟨3, .sl (.str), .own .ro, false, false, none⟩]⟩
abbrev sh2_2 : ES := ⟨[(1, .pt 1 []), (3, .al 3 []), (4, .v (.int .i64))], [⟨1, .st (.pair (.sl (.st (.pair (.int .i64) (.pair (.str) (.sl (.int .i64)))))) (.pair (.st (.pair (.int .i64) (.pair (.str) (.sl (.int .i64))))) (.sl (.st (.pair (.int .i64) (.pair (.str) (.sl (.int .i64)))))))), .ro, true, false, none⟩, ⟨3, .sl (.str), .own .ro, false, false, none⟩]⟩
def an1 : An := .seq (.seq .nil (.cond .nil .nil)) (.seq (.block (some [1, 3, 4]) (.seq (.seq .nil (.cond (.seq .nil .nil) .nil)) (.seq .nil (.block (some [1, 3, 4]) (.cut 2 [1, 3, 4, 5]))))) .nil)
abbrev sh1 : ES := ⟨[(1, .pt 1 []), (3, .al 3 []), (4, .v (.int .i64))], [⟨1, .st (.pair (.sl (.st (.pair (.int .i64) (.pair (.str) (.sl (.int .i64)))))) (.pair (.st (.pair (.int .i64) (.pair (.str) (.sl (.int .i64))))) (.sl (.st (.pair (.int .i64) (.pair (.str) (.sl (.int .i64)))))))), .ro, true, false, none⟩, ⟨3, .sl (.str), .own .ro, false, false, none⟩]⟩
abbrev sh1_0 : ES := ⟨[(1, .pt 1 []), (3, .al 3 [])], [⟨1, .st (.pair (.sl (.st (.pair (.int .i64) (.pair (.str) (.sl (.int .i64)))))) (.pair (.st (.pair (.int .i64) (.pair (.str) (.sl (.int .i64))))) (.sl (.st (.pair (.int .i64) (.pair (.str) (.sl (.int .i64)))))))), .ro, true, false, none⟩, ⟨3, .sl (.str), .own .ro, false, false, none⟩]⟩
def an3 : An := .seq (.seq .nil (.cond .nil .nil)) (.seq (.block (some [1, 3, 6]) (.seq .nil (.cond (.seq .nil .nil) .nil))) .nil)
abbrev sh3 : ES := ⟨[(1, .pt 1 []), (3, .al 3 []), (6, .v (.int .i64))], [⟨1, .st (.pair (.sl (.st (.pair (.int .i64) (.pair (.str) (.sl (.int .i64)))))) (.pair (.st (.pair (.int .i64) (.pair (.str) (.sl (.int .i64))))) (.sl (.st (.pair (.int .i64) (.pair (.str) (.sl (.int .i64)))))))), .ro, true, false, none⟩, ⟨3, .sl (.str), .own .ro, false, false, none⟩]⟩
abbrev sh3_4 : ES := ⟨[(1, .pt 1 []), (3, .al 3 [])], [⟨1, .st (.pair (.sl (.st (.pair (.int .i64) (.pair (.str) (.sl (.int .i64)))))) (.pair (.st (.pair (.int .i64) (.pair (.str) (.sl (.int .i64))))) (.sl (.st (.pair (.int .i64) (.pair (.str) (.sl (.int .i64)))))))), .ro, true, false, none⟩, ⟨3, .sl (.str), .own .ro, false, false, none⟩]⟩
def an4 : An := .seq (.seq .nil (.cond .nil .nil)) (.seq (.block (some [1, 3, 7]) (.seq .nil (.cond (.seq .nil .nil) .nil))) .nil)
abbrev sh4 : ES := ⟨[(1, .pt 1 []), (3, .al 3 []), (7, .v (.int .i64))], [⟨1, .st (.pair (.sl (.st (.pair (.int .i64) (.pair (.str) (.sl (.int .i64)))))) (.pair (.st (.pair (.int .i64) (.pair (.str) (.sl (.int .i64))))) (.sl (.st (.pair (.int .i64) (.pair (.str) (.sl (.int .i64)))))))), .ro, true, false, none⟩, ⟨3, .sl (.str), .own .ro, false, false, none⟩]⟩
abbrev sh4_6 : ES := ⟨[], []⟩
def an0 : An := .seq (.reg [(17, .own .ro)]) (.seq (.seq .nil (.block (some [1, 3]) (.cut 1 [1, 3, 4]))) (.seq (.seq .nil (.block (some [1, 3]) (.cut 3 [1, 3, 6]))) (.seq (.seq .nil (.block (some []) (.cut 4 [1, 3, 7]))) (.seq .nil .nil))))
abbrev sh0 : ES := ⟨[(1, .pt 1 [])], [⟨1, .st (.pair (.sl (.st (.pair (.int .i64) (.pair (.str) (.sl (.int .i64)))))) (.pair (.st (.pair (.int .i64) (.pair (.str) (.sl (.int .i64))))) (.sl (.st (.pair (.int .i64) (.pair (.str) (.sl (.int .i64)))))))), .ro, true, false, none⟩]⟩
def g2 (n m : Nat) (x : sh2.V) (kn : KN rsh) (kx : KX rsh) : Option (RVs rsh) := l2 n x.1.2.2.1 x.2.1 (fun y0 => kx 2 (sh2_2.enc (((()), (()), x.1.2.2.1, ()), (x.2.1, y0, ())))) m x.1.2.2.2.1 x.2.2.1
def g1 (n m : Nat) (x : sh1.V) (kn : KN rsh) (kx : KX rsh) : Option (RVs rsh) := l1 n x.2.1 (fun y0 => kx 0 (sh1_0.enc (((()), (()), ()), (x.2.1, y0, ())))) m x.1.2.2.1 x.2.2.1
def g3 (n m : Nat) (x : sh3.V) (kn : KN rsh) (kx : KX rsh) : Option (RVs rsh) := l3 n x.2.1 x.2.2.1 (fun _ => kx 4 (sh3_4.enc (((()), (()), ()), (x.2.1, x.2.2.1, ())))) m x.1.2.2.1
def g4 (n m : Nat) (x : sh4.V) (kn : KN rsh) (kx : KX rsh) : Option (RVs rsh) := l4 n x.2.1 x.2.2.1 (fun _ => kx 6 (sh4_6.enc ((()), (())))) m x.1.2.2.1
def g0 (n m : Nat) (x : sh0.V) (kn : KN rsh) (kx : KX rsh) : Option (RVs rsh) := j0 n x.2.1
def T (n : Nat) : Tab (RVs rsh) := fun j e kn kx => match j with
 | 2 => ES.on sh2 e fun x => g2 n n x kn kx
 | 1 => ES.on sh1 e fun x => g1 n n x kn kx
 | 3 => ES.on sh3 e fun x => g3 n n x kn kx
 | 4 => ES.on sh4 e fun x => g4 n n x kn kx
 | 0 => ES.on sh0 e fun x => g0 n n x kn kx
 | _ => none
theorem mk (n : Nat) : MOk (cx n) := mkCtx_ok (mem_cons (spec_RuleText.ok n) (mem_cons (spec_l16Text.ok n) (mem_cons (spec_l05In.ok n) mem_nil)))
theorem u2 (n : Nat) (v : AVs ash) : UnitOk (cx n) 113 (T n) (kr n v) 2 (.loop b2) :=
 loop_u (n := n) (CO _) (mk n) (MX _) an2 [(0, [1, 3]), (1, [1, 3, 4]), (2, [1, 3, 4])] [1, 3, 4, 5] sh2 (g2 n) (fun _ _ _ => rfl) (fun _ _ _ => rfl) (fun m x kn kx => by kernel_rfl) (l := []) (by kernel_rfl) (mem_nil)
theorem u1 (n : Nat) (v : AVs ash) : UnitOk (cx n) 113 (T n) (kr n v) 1 (.loop b1) :=
 loop_u (n := n) (CO _) (mk n) (MX _) an1 [(0, [1, 3])] [1, 3, 4] sh1 (g1 n) (fun _ _ _ => rfl) (fun _ _ _ => rfl) (fun m x kn kx => by kernel_rfl) (l := [(2, .loop b2)]) (by kernel_rfl) (mem_cons (u2 n v) mem_nil)
theorem u3 (n : Nat) (v : AVs ash) : UnitOk (cx n) 113 (T n) (kr n v) 3 (.loop b3) :=
 loop_u (n := n) (CO _) (mk n) (MX _) an3 [(4, [1, 3])] [1, 3, 6] sh3 (g3 n) (fun _ _ _ => rfl) (fun _ _ _ => rfl) (fun m x kn kx => by kernel_rfl) (l := []) (by kernel_rfl) (mem_nil)
theorem u4 (n : Nat) (v : AVs ash) : UnitOk (cx n) 113 (T n) (kr n v) 4 (.loop b4) :=
 loop_u (n := n) (CO _) (mk n) (MX _) an4 [(6, [])] [1, 3, 7] sh4 (g4 n) (fun _ _ _ => rfl) (fun _ _ _ => rfl) (fun m x kn kx => by kernel_rfl) (l := []) (by kernel_rfl) (mem_nil)
theorem u0 (n : Nat) (v : AVs ash) : UnitOk (cx n) 113 (T n) (kr n v) 0 (c0) :=
 join_u (CO _) (mk n) (MX _) an0 [] [2] sh0 (g0 n n) (fun _ _ _ => rfl) (fun x kn kx => by kernel_rfl) (l := [(1, .loop b1), (3, .loop b3), (4, .loop b4)]) (by kernel_rfl) (mem_cons (u1 n v) (mem_cons (u3 n v) (mem_cons (u4 n v) mem_nil)))
theorem ok (n : Nat) : EntOk Try.prog 8 (ent n) :=
 ent_okU (c := cx n) (e := ent n) (d := d) (CO _) (mk n) (MX _) an Try.func8 (by kernel_rfl) (T n) (l := [(0, c0)]) (by kernel_rfl) (fun v => mem_cons (u0 n v) mem_nil) (fun v => by kernel_rfl)
end spec_PlainRule
namespace spec_l09Env_get
def l0 (n : Nat) (name3 : ByteArray) (e5 : (List ByteArray) × List ByteArray) (K0 : Unit → Option (ByteArray × Bool)) : Nat → Int → Option (ByteArray × Bool)
 | 0, _ => none
 | k + 1, i4 =>
 if decide (i4 < (List.length e5.1 : Int)) = true then
 if (0 : Int) ≤ i4 ∧ i4 < (List.length e5.1 : Int) then
 if (Abs.seq (List.getD e5.1 (Int.toNat i4) ByteArray.empty) name3) = true then
 if (0 : Int) ≤ i4 ∧ i4 < (List.length e5.2 : Int) then
 some (List.getD e5.2 (Int.toNat i4) ByteArray.empty, true)
 else
 none
 else
 l0 n name3 e5 K0 k (IntKind.i64.wrap (i4 + 1))
 else
 none
 else
 K0 ()
def F (n : Nat) (e1 : (List ByteArray) × List ByteArray) (name2 : ByteArray) : Option (ByteArray × Bool) :=
 l0 n name2 e1 (fun _ =>
 some (ByteArray.empty, false)) n 0
noncomputable def code : Code := Try.f39.body.getD .skip
abbrev ash : List ASh := [.ro (.st (.pair (.sl (.str)) (.sl (.str)))), .ro .str]
abbrev rsh : List RSh := [.ro .str, .ro .bool]
def ent (n : Nat) : FEnt := ⟨ash, rsh, fun v => F n v.1 v.2.1⟩
noncomputable def cx (n : Nat) : Ctx := mkCtx Try.prog TYS []
noncomputable def d : FnD := ⟨code, 26, .nil, [(.tmp 4, .str, .ro), (.tmp 5, .bool, .ro)]⟩
noncomputable def kr (n : Nat) (v : AVs ash) : KN rsh := endK (cx n) d (avEnc ash v) (rvDec rsh)
noncomputable def b0 : Code := Code.l (Code.l (Code.r (Code.l (Code.r code))))
def an : An := .seq .nil (.seq (.seq .nil (.block (some []) (.cut 0 [1, 2, 6]))) (.seq .nil .nil))
def an0 : An := .seq (.seq .nil (.cond .nil .nil)) (.seq (.block (some [1, 2, 6]) (.seq .nil (.cond (.seq .nil .nil) .nil))) .nil)
abbrev sh0 : ES := ⟨[(1, .v .str), (2, .pt 2 []), (6, .v (.int .i64))], [⟨2, .st (.pair (.sl (.str)) (.sl (.str))), .ro, true, false, none⟩]⟩
abbrev sh0_0 : ES := ⟨[], []⟩
def g0 (n m : Nat) (x : sh0.V) (kn : KN rsh) (kx : KX rsh) : Option (RVs rsh) := l0 n x.1.1 x.2.1 (fun _ => kx 0 (sh0_0.enc ((()), (())))) m x.1.2.2.1
def T (n : Nat) : Tab (RVs rsh) := fun j e kn kx => match j with
 | 0 => ES.on sh0 e fun x => g0 n n x kn kx
 | _ => none
theorem mk (n : Nat) : MOk (cx n) := mkCtx_ok (mem_nil)
theorem u0 (n : Nat) (v : AVs ash) : UnitOk (cx n) 26 (T n) (kr n v) 0 (.loop b0) :=
 loop_u (n := n) (CO _) (mk n) (MX _) an0 [(0, [])] [1, 2, 6] sh0 (g0 n) (fun _ _ _ => rfl) (fun _ _ _ => rfl) (fun m x kn kx => by kernel_rfl) (l := []) (by kernel_rfl) (mem_nil)
theorem ok (n : Nat) : EntOk Try.prog 39 (ent n) :=
 ent_okU (c := cx n) (e := ent n) (d := d) (CO _) (mk n) (MX _) an Try.func39 (by kernel_rfl) (T n) (l := [(0, .loop b0)]) (by kernel_rfl) (fun v => mem_cons (u0 n v) mem_nil) (fun v => by kernel_rfl)
end spec_l09Env_get
namespace spec_l09Env_with
def F (n : Nat) (e1 : (List ByteArray) × List ByteArray) (name2 : ByteArray) (val3 : ByteArray) : Option ((List ByteArray) × List ByteArray) :=
 if List.length ([] : List ByteArray) + List.length e1.1 ≤ lim then
 if List.length ([] ++ e1.1) + List.length [name2] ≤ lim then
 if List.length ([] : List ByteArray) + List.length e1.2 ≤ lim then
 if List.length ([] ++ e1.2) + List.length [val3] ≤ lim then
 some (([] ++ e1.1) ++ [name2], ([] ++ e1.2) ++ [val3])
 else
 none
 else
 none
 else
 none
 else
 none
noncomputable def code : Code := Try.f67.body.getD .skip
abbrev ash : List ASh := [.ro (.st (.pair (.sl (.str)) (.sl (.str)))), .ro .str, .ro .str]
abbrev rsh : List RSh := [.ro (.st (.pair (.sl (.str)) (.sl (.str))))]
def ent (n : Nat) : FEnt := ⟨ash, rsh, fun v => F n v.1 v.2.1 v.2.2.1⟩
noncomputable def cx (n : Nat) : Ctx := mkCtx Try.prog TYS []
noncomputable def d : FnD := ⟨code, 22, .nil, [(.cell 6 68, .st (.pair (.sl (.str)) (.sl (.str))), .ro)]⟩
def an : An := .seq .nil (.seq (.reg [(7, .own .ro), (14, .own .ro), (21, .pr (.own .ro) (.own .ro))]) .nil)
theorem ok (n : Nat) : EntOk Try.prog 67 (ent n) :=
 ent_ok0 (c := cx n) (e := ent n) (d := d) (CO _) (mkCtx_ok (mem_nil)) (MX _) an Try.func67 (by kernel_rfl) (by kernel_rfl) (fun v => by kernel_rfl)
end spec_l09Env_with
namespace spec_l16Put
def l1 (n : Nat) (t13 : (List (Int × ByteArray × List Int)) × (Int × ByteArray × List Int) × List (Int × ByteArray × List Int)) (t14 : Int × ByteArray × List Int) (t15 : (List (Int × ByteArray × List Int)) × (Int × ByteArray × List Int) × List (Int × ByteArray × List Int)) (t16 : Int × ByteArray × List Int) (t18 : (List ByteArray) × List ByteArray) (K0 : ((List ByteArray) × List ByteArray) → Option (((List ByteArray) × List ByteArray) × Bool)) : Nat → Int → ((List ByteArray) × List ByteArray) → Option (((List ByteArray) × List ByteArray) × Bool)
 | 0, _, _ => none
 | k + 1, t12, t17 =>
 if decide (t12 < (List.length t14.2.2 : Int)) = true then
 if (0 : Int) ≤ t12 ∧ t12 < (List.length t14.2.2 : Int) then
 if (0 : Int) ≤ (List.getD t14.2.2 (Int.toNat t12) 0) ∧ (List.getD t14.2.2 (Int.toNat t12) 0) < (List.length t13.1 : Int) then
 if (0 : Int) ≤ t12 ∧ t12 < (List.length t16.2.2 : Int) then
 (spec_l16Text.F n t15 (List.getD t16.2.2 (Int.toNat t12) 0)).bind fun r19 =>
 if (!decide (((List.getD t13.1 (Int.toNat (List.getD t14.2.2 (Int.toNat t12) 0)) (0, (ByteArray.empty, []))).1) = 1)) = true then
 if ByteArray.size ⟨#[116]⟩ + ByteArray.size (((List.getD t13.1 (Int.toNat (List.getD t14.2.2 (Int.toNat t12) 0)) (0, (ByteArray.empty, []))).2).1) ≤ lim then
 if (!(Abs.seq (⟨#[116]⟩ ++ (((List.getD t13.1 (Int.toNat (List.getD t14.2.2 (Int.toNat t12) 0)) (0, (ByteArray.empty, []))).2).1)) r19)) = true then
 some (t17, false)
 else
 l1 n t13 t14 t15 t16 t18 K0 k (IntKind.i64.wrap (t12 + 1)) t17
 else
 none
 else
 (spec_l09Env_get.F n t17 (((List.getD t13.1 (Int.toNat (List.getD t14.2.2 (Int.toNat t12) 0)) (0, (ByteArray.empty, []))).2).1)).bind fun r20 =>
 if r20.2 = true then
 if (!(Abs.seq r20.1 r19)) = true then
 some (t17, false)
 else
 if (!r20.2) = true then
 (spec_l09Env_with.F n t17 (((List.getD t13.1 (Int.toNat (List.getD t14.2.2 (Int.toNat t12) 0)) (0, (ByteArray.empty, []))).2).1) r19).bind fun r21 =>
 l1 n t13 t14 t15 t16 t18 K0 k (IntKind.i64.wrap (t12 + 1)) r21
 else
 l1 n t13 t14 t15 t16 t18 K0 k (IntKind.i64.wrap (t12 + 1)) t17
 else
 if (!r20.2) = true then
 (spec_l09Env_with.F n t17 (((List.getD t13.1 (Int.toNat (List.getD t14.2.2 (Int.toNat t12) 0)) (0, (ByteArray.empty, []))).2).1) r19).bind fun r22 =>
 l1 n t13 t14 t15 t16 t18 K0 k (IntKind.i64.wrap (t12 + 1)) r22
 else
 l1 n t13 t14 t15 t16 t18 K0 k (IntKind.i64.wrap (t12 + 1)) t17
 else
 none
 else
 none
 else
 none
 else
 K0 t17
def j0 (n : Nat) (t6 : (List (Int × ByteArray × List Int)) × (Int × ByteArray × List Int) × List (Int × ByteArray × List Int)) (t7 : Int × ByteArray × List Int) (t8 : (List (Int × ByteArray × List Int)) × (Int × ByteArray × List Int) × List (Int × ByteArray × List Int)) (t9 : Int × ByteArray × List Int) (t10 : (List ByteArray) × List ByteArray) (t11 : (List ByteArray) × List ByteArray) : Option (((List ByteArray) × List ByteArray) × Bool) :=
 l1 n t6 t7 t8 t9 t11 (fun t23 =>
 some (t23, true)) n 0 t10
def F (n : Nat) (t1 : (List (Int × ByteArray × List Int)) × (Int × ByteArray × List Int) × List (Int × ByteArray × List Int)) (t2 : Int × ByteArray × List Int) (t3 : (List (Int × ByteArray × List Int)) × (Int × ByteArray × List Int) × List (Int × ByteArray × List Int)) (t4 : Int × ByteArray × List Int) (t5 : (List ByteArray) × List ByteArray) : Option (((List ByteArray) × List ByteArray) × Bool) :=
 if (!(Abs.seq t2.2.1 t4.2.1)) = false then
 if (!decide ((List.length t2.2.2 : Int) = (List.length t4.2.2 : Int))) = true then
 some (t5, false)
 else
 j0 n t1 t2 t3 t4 t5 ([], [])
 else
 some (t5, false)
noncomputable def code : Code := Try.f37.body.getD .skip
abbrev ash : List ASh := [.ro (.st (.pair (.sl (.st (.pair (.int .i64) (.pair (.str) (.sl (.int .i64)))))) (.pair (.st (.pair (.int .i64) (.pair (.str) (.sl (.int .i64))))) (.sl (.st (.pair (.int .i64) (.pair (.str) (.sl (.int .i64))))))))), .ro (.st (.pair (.int .i64) (.pair (.str) (.sl (.int .i64))))), .ro (.st (.pair (.sl (.st (.pair (.int .i64) (.pair (.str) (.sl (.int .i64)))))) (.pair (.st (.pair (.int .i64) (.pair (.str) (.sl (.int .i64))))) (.sl (.st (.pair (.int .i64) (.pair (.str) (.sl (.int .i64))))))))), .ro (.st (.pair (.int .i64) (.pair (.str) (.sl (.int .i64))))), .ro (.st (.pair (.sl (.str)) (.sl (.str))))]
abbrev rsh : List RSh := [.ro (.st (.pair (.sl (.str)) (.sl (.str)))), .ro .bool]
def ent (n : Nat) : FEnt := ⟨ash, rsh, fun v => F n v.1 v.2.1 v.2.2.1 v.2.2.2.1 v.2.2.2.2.1⟩
noncomputable def cx (n : Nat) : Ctx := mkCtx Try.prog TYS [(27, spec_l16Text.ent n), (39, spec_l09Env_get.ent n), (67, spec_l09Env_with.ent n)]
noncomputable def d : FnD := ⟨code, 86, .nil, [(.cell 10 68, .st (.pair (.sl (.str)) (.sl (.str))), .ro), (.tmp 11, .bool, .ro)]⟩
noncomputable def kr (n : Nat) (v : AVs ash) : KN rsh := endK (cx n) d (avEnc ash v) (rvDec rsh)
noncomputable def b1 : Code := Code.l (Code.l (Code.r (Code.l (Code.r (Code.r code)))))
noncomputable def c0 : Code := (Code.r (Code.r code))
def an : An := .seq .nil (.seq (.seq .nil (.cond (.seq .nil .nil) .nil)) (.cut 0 [5, 6, 7, 8, 9, 10]))
def an1 : An := .seq (.seq .nil (.cond .nil .nil)) (.seq (.block (some [5, 6, 7, 8, 9, 10, 12]) (.seq .nil (.seq .nil (.seq (.seq .nil (.cond (.seq (.seq .nil (.cond (.seq .nil .nil) .nil)) .nil) .nil)) (.seq .nil (.seq (.seq .nil (.cond (.seq .nil .nil) .nil)) (.seq .nil (.cond .nil .nil)))))))) .nil)
abbrev sh1 : ES := ⟨[(5, .pt 5 []), (6, .pt 6 []), (7, .pt 7 []), (8, .pt 8 []), (9, .pt 9 []), (10, .pt 10 []), (12, .v (.int .i64))], [⟨5, .st (.pair (.sl (.st (.pair (.int .i64) (.pair (.str) (.sl (.int .i64)))))) (.pair (.st (.pair (.int .i64) (.pair (.str) (.sl (.int .i64))))) (.sl (.st (.pair (.int .i64) (.pair (.str) (.sl (.int .i64)))))))), .ro, true, false, none⟩, ⟨6, .st (.pair (.int .i64) (.pair (.str) (.sl (.int .i64)))), .ro, true, false, none⟩, ⟨7, .st (.pair (.sl (.st (.pair (.int .i64) (.pair (.str) (.sl (.int .i64)))))) (.pair (.st (.pair (.int .i64) (.pair (.str) (.sl (.int .i64))))) (.sl (.st (.pair (.int .i64) (.pair (.str) (.sl (.int .i64)))))))), .ro, true, false, none⟩, ⟨8, .st (.pair (.int .i64) (.pair (.str) (.sl (.int .i64)))), .ro, true, false, none⟩, ⟨9, .st (.pair (.sl (.str)) (.sl (.str))), .ro, true, false, none⟩, ⟨10, .st (.pair (.sl (.str)) (.sl (.str))), .ro, true, false, none⟩]⟩
abbrev sh1_0 : ES := ⟨[(9, .pt 9 []), (10, .pt 10 [])], [⟨9, .st (.pair (.sl (.str)) (.sl (.str))), .ro, true, false, none⟩, ⟨10, .st (.pair (.sl (.str)) (.sl (.str))), .ro, true, false, none⟩]⟩
def an0 : An := .seq (.seq .nil (.block (some [9, 10]) (.cut 1 [5, 6, 7, 8, 9, 10, 12]))) (.seq .nil .nil)
abbrev sh0 : ES := ⟨[(5, .pt 5 []), (6, .pt 6 []), (7, .pt 7 []), (8, .pt 8 []), (9, .pt 9 []), (10, .pt 10 [])], [⟨5, .st (.pair (.sl (.st (.pair (.int .i64) (.pair (.str) (.sl (.int .i64)))))) (.pair (.st (.pair (.int .i64) (.pair (.str) (.sl (.int .i64))))) (.sl (.st (.pair (.int .i64) (.pair (.str) (.sl (.int .i64)))))))), .ro, true, false, none⟩, ⟨6, .st (.pair (.int .i64) (.pair (.str) (.sl (.int .i64)))), .ro, true, false, none⟩, ⟨7, .st (.pair (.sl (.st (.pair (.int .i64) (.pair (.str) (.sl (.int .i64)))))) (.pair (.st (.pair (.int .i64) (.pair (.str) (.sl (.int .i64))))) (.sl (.st (.pair (.int .i64) (.pair (.str) (.sl (.int .i64)))))))), .ro, true, false, none⟩, ⟨8, .st (.pair (.int .i64) (.pair (.str) (.sl (.int .i64)))), .ro, true, false, none⟩, ⟨9, .st (.pair (.sl (.str)) (.sl (.str))), .ro, true, false, none⟩, ⟨10, .st (.pair (.sl (.str)) (.sl (.str))), .ro, true, false, none⟩]⟩
def g1 (n m : Nat) (x : sh1.V) (kn : KN rsh) (kx : KX rsh) : Option (RVs rsh) := l1 n x.2.1 x.2.2.1 x.2.2.2.1 x.2.2.2.2.1 x.2.2.2.2.2.2.1 (fun y0 => kx 0 (sh1_0.enc (((()), (()), ()), (y0, x.2.2.2.2.2.2.1, ())))) m x.1.2.2.2.2.2.2.1 x.2.2.2.2.2.1
def g0 (n m : Nat) (x : sh0.V) (kn : KN rsh) (kx : KX rsh) : Option (RVs rsh) := j0 n x.2.1 x.2.2.1 x.2.2.2.1 x.2.2.2.2.1 x.2.2.2.2.2.1 x.2.2.2.2.2.2.1
def T (n : Nat) : Tab (RVs rsh) := fun j e kn kx => match j with
 | 1 => ES.on sh1 e fun x => g1 n n x kn kx
 | 0 => ES.on sh0 e fun x => g0 n n x kn kx
 | _ => none
theorem mk (n : Nat) : MOk (cx n) := mkCtx_ok (mem_cons (spec_l16Text.ok n) (mem_cons (spec_l09Env_get.ok n) (mem_cons (spec_l09Env_with.ok n) mem_nil)))
theorem u1 (n : Nat) (v : AVs ash) : UnitOk (cx n) 86 (T n) (kr n v) 1 (.loop b1) :=
 loop_u (n := n) (CO _) (mk n) (MX _) an1 [(0, [9, 10])] [5, 6, 7, 8, 9, 10, 12] sh1 (g1 n) (fun _ _ _ => rfl) (fun _ _ _ => rfl) (fun m x kn kx => by kernel_rfl) (l := []) (by kernel_rfl) (mem_nil)
theorem u0 (n : Nat) (v : AVs ash) : UnitOk (cx n) 86 (T n) (kr n v) 0 (c0) :=
 join_u (CO _) (mk n) (MX _) an0 [] [10, 11] sh0 (g0 n n) (fun _ _ _ => rfl) (fun x kn kx => by kernel_rfl) (l := [(1, .loop b1)]) (by kernel_rfl) (mem_cons (u1 n v) mem_nil)
theorem ok (n : Nat) : EntOk Try.prog 37 (ent n) :=
 ent_okU (c := cx n) (e := ent n) (d := d) (CO _) (mk n) (MX _) an Try.func37 (by kernel_rfl) (T n) (l := [(0, c0)]) (by kernel_rfl) (fun v => mem_cons (u0 n v) mem_nil) (fun v => by kernel_rfl)
end spec_l16Put
namespace spec_l16Way
def l0 (n : Nat) (self : ((List (Int × ByteArray × List Int)) × (Int × ByteArray × List Int) × List (Int × ByteArray × List Int)) → ((List (Int × ByteArray × List Int)) × (Int × ByteArray × List Int) × List (Int × ByteArray × List Int)) → Int → ((List ByteArray) × List ByteArray) → Option (((List ByteArray) × List ByteArray) × Bool)) (i5 : Int) (a7 : (List (Int × ByteArray × List Int)) × (Int × ByteArray × List Int) × List (Int × ByteArray × List Int)) (b8 : (List (Int × ByteArray × List Int)) × (Int × ByteArray × List Int) × List (Int × ByteArray × List Int)) (e9 : (List ByteArray) × List ByteArray) (t10 : (List ByteArray) × List ByteArray) (K0 : Unit → Option (((List ByteArray) × List ByteArray) × Bool)) : Nat → Int → Option (((List ByteArray) × List ByteArray) × Bool)
 | 0, _ => none
 | k + 1, k6 =>
 if decide (k6 < (List.length b8.2.2 : Int)) = true then
 if (0 : Int) ≤ i5 ∧ i5 < (List.length a7.2.2 : Int) then
 if (0 : Int) ≤ k6 ∧ k6 < (List.length b8.2.2 : Int) then
 (spec_l16Put.F n a7 (List.getD a7.2.2 (Int.toNat i5) (0, (ByteArray.empty, []))) b8 (List.getD b8.2.2 (Int.toNat k6) (0, (ByteArray.empty, []))) e9).bind fun r11 =>
 if (!r11.2) = true then
 l0 n self i5 a7 b8 e9 t10 K0 k (IntKind.i64.wrap (k6 + 1))
 else
 (self a7 b8 (IntKind.i64.wrap (i5 + 1)) r11.1).bind fun r12 =>
 if r12.2 = true then
 some (r12.1, true)
 else
 l0 n self i5 a7 b8 e9 t10 K0 k (IntKind.i64.wrap (k6 + 1))
 else
 none
 else
 none
 else
 K0 ()
def G (n : Nat) (self : ((List (Int × ByteArray × List Int)) × (Int × ByteArray × List Int) × List (Int × ByteArray × List Int)) → ((List (Int × ByteArray × List Int)) × (Int × ByteArray × List Int) × List (Int × ByteArray × List Int)) → Int → ((List ByteArray) × List ByteArray) → Option (((List ByteArray) × List ByteArray) × Bool)) (a1 : (List (Int × ByteArray × List Int)) × (Int × ByteArray × List Int) × List (Int × ByteArray × List Int)) (b2 : (List (Int × ByteArray × List Int)) × (Int × ByteArray × List Int) × List (Int × ByteArray × List Int)) (i3 : Int) (e4 : (List ByteArray) × List ByteArray) : Option (((List ByteArray) × List ByteArray) × Bool) :=
 if decide (i3 = (List.length a1.2.2 : Int)) = true then
 some (e4, true)
 else
 l0 n self i3 a1 b2 e4 ([], []) (fun _ =>
 some (e4, false)) n 0
def F : Nat → ((List (Int × ByteArray × List Int)) × (Int × ByteArray × List Int) × List (Int × ByteArray × List Int)) → ((List (Int × ByteArray × List Int)) × (Int × ByteArray × List Int) × List (Int × ByteArray × List Int)) → Int → ((List ByteArray) × List ByteArray) → Option (((List ByteArray) × List ByteArray) × Bool)
 | 0 => fun _ _ _ _ => none
 | n + 1 => G n (F n)
noncomputable def code : Code := Try.f38.body.getD .skip
abbrev ash : List ASh := [.ro (.st (.pair (.sl (.st (.pair (.int .i64) (.pair (.str) (.sl (.int .i64)))))) (.pair (.st (.pair (.int .i64) (.pair (.str) (.sl (.int .i64))))) (.sl (.st (.pair (.int .i64) (.pair (.str) (.sl (.int .i64))))))))), .ro (.st (.pair (.sl (.st (.pair (.int .i64) (.pair (.str) (.sl (.int .i64)))))) (.pair (.st (.pair (.int .i64) (.pair (.str) (.sl (.int .i64))))) (.sl (.st (.pair (.int .i64) (.pair (.str) (.sl (.int .i64))))))))), .ro (.int .i64), .ro (.st (.pair (.sl (.str)) (.sl (.str))))]
abbrev rsh : List RSh := [.ro (.st (.pair (.sl (.str)) (.sl (.str)))), .ro .bool]
def ent (n : Nat) : FEnt := ⟨ash, rsh, fun v => F n v.1 v.2.1 v.2.2.1 v.2.2.2.1⟩
noncomputable def cx (n : Nat) : Ctx := mkCtx Try.prog TYS [(37, spec_l16Put.ent n), (38, ent n)]
noncomputable def d : FnD := ⟨code, 59, .nil, [(.cell 8 68, .st (.pair (.sl (.str)) (.sl (.str))), .ro), (.tmp 9, .bool, .ro)]⟩
noncomputable def kr (n : Nat) (v : AVs ash) : KN rsh := endK (cx n) d (avEnc ash v) (rvDec rsh)
noncomputable def b0 : Code := Code.l (Code.l (Code.r (Code.l (Code.r (Code.r code)))))
def an : An := .seq .nil (.seq (.seq .nil (.cond (.seq .nil .nil) .nil)) (.seq (.seq .nil (.block (some [7, 8]) (.cut 0 [2, 4, 5, 7, 8, 10]))) (.seq .nil .nil)))
def an0 : An := .seq (.seq .nil (.cond .nil .nil)) (.seq (.block (some [2, 4, 5, 7, 8, 10]) (.seq .nil (.seq (.seq .nil (.cond .nil .nil)) (.seq .nil (.seq .nil (.cond (.seq .nil .nil) .nil)))))) .nil)
abbrev sh0 : ES := ⟨[(2, .v (.int .i64)), (4, .pt 4 []), (5, .pt 5 []), (7, .pt 7 []), (8, .pt 8 []), (10, .v (.int .i64))], [⟨4, .st (.pair (.sl (.st (.pair (.int .i64) (.pair (.str) (.sl (.int .i64)))))) (.pair (.st (.pair (.int .i64) (.pair (.str) (.sl (.int .i64))))) (.sl (.st (.pair (.int .i64) (.pair (.str) (.sl (.int .i64)))))))), .ro, true, false, none⟩, ⟨5, .st (.pair (.sl (.st (.pair (.int .i64) (.pair (.str) (.sl (.int .i64)))))) (.pair (.st (.pair (.int .i64) (.pair (.str) (.sl (.int .i64))))) (.sl (.st (.pair (.int .i64) (.pair (.str) (.sl (.int .i64)))))))), .ro, true, false, none⟩, ⟨7, .st (.pair (.sl (.str)) (.sl (.str))), .ro, true, false, none⟩, ⟨8, .st (.pair (.sl (.str)) (.sl (.str))), .ro, true, false, none⟩]⟩
abbrev sh0_0 : ES := ⟨[(7, .pt 7 []), (8, .pt 8 [])], [⟨7, .st (.pair (.sl (.str)) (.sl (.str))), .ro, true, false, none⟩, ⟨8, .st (.pair (.sl (.str)) (.sl (.str))), .ro, true, false, none⟩]⟩
def g0 (n m : Nat) (x : sh0.V) (kn : KN rsh) (kx : KX rsh) : Option (RVs rsh) := l0 n (F n) x.1.1 x.2.1 x.2.2.1 x.2.2.2.1 x.2.2.2.2.1 (fun _ => kx 0 (sh0_0.enc (((()), (()), ()), (x.2.2.2.1, x.2.2.2.2.1, ())))) m x.1.2.2.2.2.2.1
def T (n : Nat) : Tab (RVs rsh) := fun j e kn kx => match j with
 | 0 => ES.on sh0 e fun x => g0 n n x kn kx
 | _ => none
theorem mk (n : Nat) (ih : EntOk Try.prog 38 (ent n)) : MOk (cx n) := mkCtx_ok (mem_cons (spec_l16Put.ok n) (mem_cons ih mem_nil))
theorem u0 (n : Nat) (v : AVs ash) (ih : EntOk Try.prog 38 (ent n)) : UnitOk (cx n) 59 (T n) (kr n v) 0 (.loop b0) :=
 loop_u (n := n) (CO _) (mk n ih) (MX _) an0 [(0, [7, 8])] [2, 4, 5, 7, 8, 10] sh0 (g0 n) (fun _ _ _ => rfl) (fun _ _ _ => rfl) (fun m x kn kx => by kernel_rfl) (l := []) (by kernel_rfl) (mem_nil)
theorem ok : (n : Nat) → EntOk Try.prog 38 (ent n)
 | 0 => ent_none Try.f38 (by kernel_rfl) (by kernel_rfl) (by kernel_rfl) (fun _ => rfl)
 | n + 1 => have ih := ok n
  ent_okU (c := cx n) (e := ent (n + 1)) (d := d) (CO _) (mk n ih) (MX _) an Try.func38 (by kernel_rfl) (T n) (l := [(0, .loop b0)]) (by kernel_rfl) (fun v => mem_cons (u0 n v ih) mem_nil) (fun v => by kernel_rfl)
end spec_l16Way
namespace spec_Carries
def j2 (n : Nat) (t16 : Int) (t17 : Bool) (t18 : (List (Int × ByteArray × List Int)) × (Int × ByteArray × List Int) × List (Int × ByteArray × List Int)) (t19 : (List ByteArray) × List ByteArray) (t20 : (List ByteArray) × List ByteArray) (t21 : (List ByteArray) × List ByteArray) (Kn : ((List ByteArray) × List ByteArray) → Option (((List ByteArray) × List ByteArray) × Bool)) : Option (((List ByteArray) × List ByteArray) × Bool) :=
 if t17 = true then
 if (0 : Int) ≤ t16 ∧ t16 < (List.length t18.1 : Int) then
 (spec_l09Env_get.F n t20 (((List.getD t18.1 (Int.toNat t16) (0, (ByteArray.empty, []))).2).1)).bind fun r22 =>
 if (0 : Int) ≤ t16 ∧ t16 < (List.length t18.1 : Int) then
 if List.length t21.1 + List.length ([((List.getD t18.1 (Int.toNat t16) (0, (ByteArray.empty, []))).2).1] : List ByteArray) ≤ lim then
 if (0 : Int) ≤ 1 ∧ (1 : Int) ≤ (ByteArray.size r22.1 : Int) ∧ (ByteArray.size r22.1 : Int) ≤ (ByteArray.size r22.1 : Int) then
 if List.length t21.2 + List.length [ByteArray.extract r22.1 (Int.toNat 1) (Int.toNat (ByteArray.size r22.1 : Int))] ≤ lim then
 Kn (t21.1 ++ [((List.getD t18.1 (Int.toNat t16) (0, (ByteArray.empty, []))).2).1], t21.2 ++ [ByteArray.extract r22.1 (Int.toNat 1) (Int.toNat (ByteArray.size r22.1 : Int))])
 else
 none
 else
 none
 else
 none
 else
 none
 else
 none
 else
 Kn t21
def l1 (n : Nat) (t11 : (List (Int × ByteArray × List Int)) × (Int × ByteArray × List Int) × List (Int × ByteArray × List Int)) (t12 : (List ByteArray) × List ByteArray) (t13 : (List ByteArray) × List ByteArray) (K0 : ((List ByteArray) × List ByteArray) → Option (((List ByteArray) × List ByteArray) × Bool)) : Nat → Int → ((List ByteArray) × List ByteArray) → Option (((List ByteArray) × List ByteArray) × Bool)
 | 0, _, _ => none
 | k + 1, t10, t14 =>
 if decide (t10 < (List.length t11.1 : Int)) = true then
 if (0 : Int) ≤ t10 ∧ t10 < (List.length t11.1 : Int) then
 if (decide (((List.getD t11.1 (Int.toNat t10) (0, (ByteArray.empty, []))).1) = 1)) = true then
 if (0 : Int) ≤ t10 ∧ t10 < (List.length t11.1 : Int) then
 (spec_l05In.F n t14.1 (((List.getD t11.1 (Int.toNat t10) (0, (ByteArray.empty, []))).2).1)).bind fun r15 =>
 j2 n t10 (!r15) t11 t12 t13 t14 (fun t23 =>
 l1 n t11 t12 t13 K0 k (IntKind.i64.wrap (t10 + 1)) t23)
 else
 none
 else
 j2 n t10 false t11 t12 t13 t14 (fun t24 =>
 l1 n t11 t12 t13 K0 k (IntKind.i64.wrap (t10 + 1)) t24)
 else
 none
 else
 K0 t14
def j0 (n : Nat) (t5 : (List (Int × ByteArray × List Int)) × (Int × ByteArray × List Int) × List (Int × ByteArray × List Int)) (t6 : (List (Int × ByteArray × List Int)) × (Int × ByteArray × List Int) × List (Int × ByteArray × List Int)) (t7 : (List ByteArray) × List ByteArray) : Option (((List ByteArray) × List ByteArray) × Bool) :=
 (spec_l16Put.F n t5 t5.2.1 t6 t6.2.1 ([], [])).bind fun r8 =>
 if (!r8.2) = true then
 some (([], []), false)
 else
 (spec_l16Way.F n t5 t6 0 r8.1).bind fun r9 =>
 if (!r9.2) = true then
 some (([], []), false)
 else
 l1 n t5 t7 r9.1 (fun t25 =>
 some (t25, true)) n 0 ([], [])
def F (n : Nat) (t1 : (List (Int × ByteArray × List Int)) × (Int × ByteArray × List Int) × List (Int × ByteArray × List Int)) (t2 : (List (Int × ByteArray × List Int)) × (Int × ByteArray × List Int) × List (Int × ByteArray × List Int)) : Option (((List ByteArray) × List ByteArray) × Bool) :=
 (spec_PlainRule.F n t1).bind fun r3 =>
 if (!r3) = false then
 (spec_PlainRule.F n t2).bind fun r4 =>
 if (!r4) = true then
 some (([], []), false)
 else
 j0 n t1 t2 ([], [])
 else
 some (([], []), false)
noncomputable def code : Code := Try.f14.body.getD .skip
abbrev ash : List ASh := [.ro (.st (.pair (.sl (.st (.pair (.int .i64) (.pair (.str) (.sl (.int .i64)))))) (.pair (.st (.pair (.int .i64) (.pair (.str) (.sl (.int .i64))))) (.sl (.st (.pair (.int .i64) (.pair (.str) (.sl (.int .i64))))))))), .ro (.st (.pair (.sl (.st (.pair (.int .i64) (.pair (.str) (.sl (.int .i64)))))) (.pair (.st (.pair (.int .i64) (.pair (.str) (.sl (.int .i64))))) (.sl (.st (.pair (.int .i64) (.pair (.str) (.sl (.int .i64)))))))))]
abbrev rsh : List RSh := [.ro (.st (.pair (.sl (.str)) (.sl (.str)))), .ro .bool]
def ent (n : Nat) : FEnt := ⟨ash, rsh, fun v => F n v.1 v.2.1⟩
noncomputable def cx (n : Nat) : Ctx := mkCtx Try.prog TYS [(8, spec_PlainRule.ent n), (28, spec_l05In.ent n), (37, spec_l16Put.ent n), (38, spec_l16Way.ent n), (39, spec_l09Env_get.ent n)]
noncomputable def d : FnD := ⟨code, 102, .nil, [(.cell 4 42, .st (.pair (.sl (.str)) (.sl (.str))), .ro), (.tmp 5, .bool, .ro)]⟩
noncomputable def kr (n : Nat) (v : AVs ash) : KN rsh := endK (cx n) d (avEnc ash v) (rvDec rsh)
noncomputable def c2 : Code := (Code.r (Code.l (Code.l (Code.r (Code.l (Code.l (Code.r (Code.l (Code.r (Code.r (Code.r (Code.r (Code.r (Code.r (Code.r code)))))))))))))))
noncomputable def b1 : Code := Code.l (Code.l (Code.r (Code.l (Code.r (Code.r (Code.r (Code.r (Code.r (Code.r (Code.r code))))))))))
noncomputable def c0 : Code := (Code.r (Code.r code))
def an : An := .seq .nil (.seq (.seq .nil (.cond (.seq .nil .nil) .nil)) (.cut 0 [2, 3, 4]))
def an2 : An := .cond (.seq .nil (.seq .nil .nil)) .nil
abbrev sh2 : ES := ⟨[(2, .pt 2 []), (4, .pt 4 []), (6, .pt 6 []), (8, .pt 8 []), (9, .v (.int .i64)), (71, .v .bool)], [⟨2, .st (.pair (.sl (.st (.pair (.int .i64) (.pair (.str) (.sl (.int .i64)))))) (.pair (.st (.pair (.int .i64) (.pair (.str) (.sl (.int .i64))))) (.sl (.st (.pair (.int .i64) (.pair (.str) (.sl (.int .i64)))))))), .ro, true, false, none⟩, ⟨4, .st (.pair (.sl (.str)) (.sl (.str))), .ro, true, false, none⟩, ⟨6, .st (.pair (.sl (.str)) (.sl (.str))), .ro, true, false, none⟩, ⟨8, .st (.pair (.sl (.str)) (.sl (.str))), .pr (.own .ro) (.own .ro), true, false, none⟩]⟩
abbrev sh2_n : ES := ⟨[(2, .pt 2 []), (4, .pt 4 []), (6, .pt 6 []), (8, .pt 8 []), (9, .v (.int .i64))], [⟨2, .st (.pair (.sl (.st (.pair (.int .i64) (.pair (.str) (.sl (.int .i64)))))) (.pair (.st (.pair (.int .i64) (.pair (.str) (.sl (.int .i64))))) (.sl (.st (.pair (.int .i64) (.pair (.str) (.sl (.int .i64)))))))), .ro, true, false, none⟩, ⟨4, .st (.pair (.sl (.str)) (.sl (.str))), .ro, true, false, none⟩, ⟨6, .st (.pair (.sl (.str)) (.sl (.str))), .ro, true, false, none⟩, ⟨8, .st (.pair (.sl (.str)) (.sl (.str))), .pr (.own .ro) (.own .ro), true, false, none⟩]⟩
def an1 : An := .seq (.seq .nil (.cond .nil .nil)) (.seq (.block (some [2, 4, 6, 8, 9]) (.seq .nil (.cut 2 [2, 4, 6, 8, 9, 71]))) .nil)
abbrev sh1 : ES := ⟨[(2, .pt 2 []), (4, .pt 4 []), (6, .pt 6 []), (8, .pt 8 []), (9, .v (.int .i64))], [⟨2, .st (.pair (.sl (.st (.pair (.int .i64) (.pair (.str) (.sl (.int .i64)))))) (.pair (.st (.pair (.int .i64) (.pair (.str) (.sl (.int .i64))))) (.sl (.st (.pair (.int .i64) (.pair (.str) (.sl (.int .i64)))))))), .ro, true, false, none⟩, ⟨4, .st (.pair (.sl (.str)) (.sl (.str))), .ro, true, false, none⟩, ⟨6, .st (.pair (.sl (.str)) (.sl (.str))), .ro, true, false, none⟩, ⟨8, .st (.pair (.sl (.str)) (.sl (.str))), .pr (.own .ro) (.own .ro), true, false, none⟩]⟩
abbrev sh1_0 : ES := ⟨[(4, .pt 4 []), (8, .pt 8 [])], [⟨4, .st (.pair (.sl (.str)) (.sl (.str))), .ro, true, false, none⟩, ⟨8, .st (.pair (.sl (.str)) (.sl (.str))), .pr (.own .ro) (.own .ro), true, false, none⟩]⟩
def an0 : An := .seq .nil (.seq (.seq .nil (.cond (.seq .nil .nil) .nil)) (.seq .nil (.seq (.seq .nil (.cond (.seq .nil .nil) .nil)) (.seq (.reg [(45, .pr (.own .ro) (.own .ro)), (8, .pr (.own .ro) (.own .ro))]) (.seq (.seq .nil (.block (some [4, 8]) (.cut 1 [2, 4, 6, 8, 9]))) (.seq .nil .nil))))))
abbrev sh0 : ES := ⟨[(2, .pt 2 []), (3, .pt 3 []), (4, .pt 4 [])], [⟨2, .st (.pair (.sl (.st (.pair (.int .i64) (.pair (.str) (.sl (.int .i64)))))) (.pair (.st (.pair (.int .i64) (.pair (.str) (.sl (.int .i64))))) (.sl (.st (.pair (.int .i64) (.pair (.str) (.sl (.int .i64)))))))), .ro, true, false, none⟩, ⟨3, .st (.pair (.sl (.st (.pair (.int .i64) (.pair (.str) (.sl (.int .i64)))))) (.pair (.st (.pair (.int .i64) (.pair (.str) (.sl (.int .i64))))) (.sl (.st (.pair (.int .i64) (.pair (.str) (.sl (.int .i64)))))))), .ro, true, false, none⟩, ⟨4, .st (.pair (.sl (.str)) (.sl (.str))), .ro, true, false, none⟩]⟩
def g2 (n m : Nat) (x : sh2.V) (kn : KN rsh) (kx : KX rsh) : Option (RVs rsh) := j2 n x.1.2.2.2.2.1 x.1.2.2.2.2.2.1 x.2.1 x.2.2.1 x.2.2.2.1 x.2.2.2.2.1 (fun y0 => kn (sh2_n.enc (((()), (()), (()), (()), x.1.2.2.2.2.1, ()), (x.2.1, x.2.2.1, x.2.2.2.1, y0, ()))))
def g1 (n m : Nat) (x : sh1.V) (kn : KN rsh) (kx : KX rsh) : Option (RVs rsh) := l1 n x.2.1 x.2.2.1 x.2.2.2.1 (fun y0 => kx 0 (sh1_0.enc (((()), (()), ()), (x.2.2.1, y0, ())))) m x.1.2.2.2.2.1 x.2.2.2.2.1
def g0 (n m : Nat) (x : sh0.V) (kn : KN rsh) (kx : KX rsh) : Option (RVs rsh) := j0 n x.2.1 x.2.2.1 x.2.2.2.1
def T (n : Nat) : Tab (RVs rsh) := fun j e kn kx => match j with
 | 2 => ES.on sh2 e fun x => g2 n n x kn kx
 | 1 => ES.on sh1 e fun x => g1 n n x kn kx
 | 0 => ES.on sh0 e fun x => g0 n n x kn kx
 | _ => none
theorem mk (n : Nat) : MOk (cx n) := mkCtx_ok (mem_cons (spec_PlainRule.ok n) (mem_cons (spec_l05In.ok n) (mem_cons (spec_l16Put.ok n) (mem_cons (spec_l16Way.ok n) (mem_cons (spec_l09Env_get.ok n) mem_nil)))))
theorem u2 (n : Nat) (v : AVs ash) : UnitOk (cx n) 102 (T n) (kr n v) 2 (c2) :=
 join_u (CO _) (mk n) (MX _) an2 [(0, [4, 8]), (1, [2, 4, 6, 8, 9])] [2, 4, 6, 8, 9] sh2 (g2 n n) (fun _ _ _ => rfl) (fun x kn kx => by kernel_rfl) (l := []) (by kernel_rfl) (mem_nil)
theorem u1 (n : Nat) (v : AVs ash) : UnitOk (cx n) 102 (T n) (kr n v) 1 (.loop b1) :=
 loop_u (n := n) (CO _) (mk n) (MX _) an1 [(0, [4, 8])] [2, 4, 6, 8, 9] sh1 (g1 n) (fun _ _ _ => rfl) (fun _ _ _ => rfl) (fun m x kn kx => by kernel_rfl) (l := [(2, c2)]) (by kernel_rfl) (mem_cons (u2 n v) mem_nil)
theorem u0 (n : Nat) (v : AVs ash) : UnitOk (cx n) 102 (T n) (kr n v) 0 (c0) :=
 join_u (CO _) (mk n) (MX _) an0 [] [4, 5] sh0 (g0 n n) (fun _ _ _ => rfl) (fun x kn kx => by kernel_rfl) (l := [(1, .loop b1)]) (by kernel_rfl) (mem_cons (u1 n v) mem_nil)
theorem ok (n : Nat) : EntOk Try.prog 14 (ent n) :=
 ent_okU (c := cx n) (e := ent n) (d := d) (CO _) (mk n) (MX _) an Try.func14 (by kernel_rfl) (T n) (l := [(0, c0)]) (by kernel_rfl) (fun v => mem_cons (u0 n v) mem_nil) (fun v => by kernel_rfl)
end spec_Carries
namespace impl_in
def F (n : Nat) (t1 : Int) (low2 : Int) (high3 : Int) : Option Bool :=
 if (decide (t1 ≥ low2)) = true then
 some (decide (t1 ≤ high3))
 else
 some false
noncomputable def code : Code := Try.f108.body.getD .skip
abbrev ash : List ASh := [.ro (.int .i64), .ro (.int .i64), .ro (.int .i64)]
abbrev rsh : List RSh := [.ro .bool]
def ent (n : Nat) : FEnt := ⟨ash, rsh, fun v => F n v.1 v.2.1 v.2.2.1⟩
noncomputable def cx (n : Nat) : Ctx := mkCtx Try.prog TYS []
noncomputable def d : FnD := ⟨code, 15, .nil, [(.tmp 6, .bool, .ro)]⟩
def an : An := .seq .nil (.seq .nil .nil)
theorem ok (n : Nat) : EntOk Try.prog 108 (ent n) :=
 ent_ok0 (c := cx n) (e := ent n) (d := d) (CO _) (mkCtx_ok (mem_nil)) (MX _) an Try.func108 (by kernel_rfl) (by kernel_rfl) (fun v => by kernel_rfl)
end impl_in
namespace impl_isSum
def F (n : Nat) (kind1 : Int) : Option Bool :=
 (impl_in.F n kind1 5 7).bind fun r2 =>
 some r2
noncomputable def code : Code := Try.f109.body.getD .skip
abbrev ash : List ASh := [.ro (.int .i64)]
abbrev rsh : List RSh := [.ro .bool]
def ent (n : Nat) : FEnt := ⟨ash, rsh, fun v => F n v.1⟩
noncomputable def cx (n : Nat) : Ctx := mkCtx Try.prog TYS [(108, impl_in.ent n)]
noncomputable def d : FnD := ⟨code, 5, .nil, [(.tmp 2, .bool, .ro)]⟩
def an : An := .seq .nil (.seq .nil .nil)
theorem ok (n : Nat) : EntOk Try.prog 109 (ent n) :=
 ent_ok0 (c := cx n) (e := ent n) (d := d) (CO _) (mkCtx_ok (mem_cons (impl_in.ok n) mem_nil)) (MX _) an Try.func109 (by kernel_rfl) (by kernel_rfl) (fun v => by kernel_rfl)
end impl_isSum
namespace impl_Rule_lits
def F (n : Nat) (r1 : (List (Int × ByteArray × List Int)) × (Int × ByteArray × List Int) × List (Int × ByteArray × List Int)) : Option (List (Int × ByteArray × List Int)) :=
 if List.length [r1.2.1] + List.length r1.2.2 ≤ lim then
 some ([r1.2.1] ++ r1.2.2)
 else
 none
noncomputable def code : Code := Try.f110.body.getD .skip
abbrev ash : List ASh := [.ro (.st (.pair (.sl (.st (.pair (.int .i64) (.pair (.str) (.sl (.int .i64)))))) (.pair (.st (.pair (.int .i64) (.pair (.str) (.sl (.int .i64))))) (.sl (.st (.pair (.int .i64) (.pair (.str) (.sl (.int .i64)))))))))]
abbrev rsh : List RSh := [.ro (.sl (.st (.pair (.int .i64) (.pair (.str) (.sl (.int .i64))))))]
def ent (n : Nat) : FEnt := ⟨ash, rsh, fun v => F n v.1⟩
noncomputable def cx (n : Nat) : Ctx := mkCtx Try.prog TYS []
noncomputable def d : FnD := ⟨code, 9, .nil, [(.tmp 2, .sl (.st (.pair (.int .i64) (.pair (.str) (.sl (.int .i64))))), .ro)]⟩
def an : An := .seq .nil (.seq (.reg [(5, .own .ro)]) .nil)
theorem ok (n : Nat) : EntOk Try.prog 110 (ent n) :=
 ent_ok0 (c := cx n) (e := ent n) (d := d) (CO _) (mkCtx_ok (mem_nil)) (MX _) an Try.func110 (by kernel_rfl) (by kernel_rfl) (fun v => by kernel_rfl)
end impl_Rule_lits
namespace slices_IndexFunc_int_int
def l0 (n : Nat) (s3 : List Int) (f4 : (Int × Unit) → Option Bool) (t5 : Int) (K0 : Unit → Option Int) : Nat → Int → Option Int
 | 0, _ => none
 | k + 1, t6 =>
 if decide (t6 < t5) = true then
 if (0 : Int) ≤ t6 ∧ t6 < (List.length s3 : Int) then
 (f4 (List.getD s3 (Int.toNat t6) 0, ())).bind fun r7 =>
 if r7 = true then
 some t6
 else
 l0 n s3 f4 t5 K0 k (IntKind.i64.wrap (t6 + 1))
 else
 none
 else
 K0 ()
def F (n : Nat) (s1 : List Int) (f2 : (Int × Unit) → Option Bool) : Option Int :=
 l0 n s1 f2 (List.length s1 : Int) (fun _ =>
 some (-1)) n 0
noncomputable def code : Code := Try.f80.body.getD .skip
abbrev ash : List ASh := [.ro (.sl (.int .i64)), .fn [.int .i64] .bool]
abbrev rsh : List RSh := [.ro (.int .i64)]
def ent (n : Nat) : FEnt := ⟨ash, rsh, fun v => F n v.1 v.2.1⟩
noncomputable def cx (n : Nat) : Ctx := mkCtx Try.prog TYS []
noncomputable def d : FnD := ⟨code, 19, .nil, [(.tmp 4, .int .i64, .ro)]⟩
noncomputable def kr (n : Nat) (v : AVs ash) : KN rsh := endK (cx n) d (avEnc ash v) (rvDec rsh)
noncomputable def b0 : Code := Code.l (Code.l (Code.r (Code.l (Code.r code))))
def an : An := .seq .nil (.seq (.seq .nil (.block (some []) (.cut 0 [0, 1, 7, 8]))) (.seq .nil .nil))
def an0 : An := .seq .nil (.seq (.cond .nil .nil) (.seq (.block (some [0, 1, 7, 8]) (.seq .nil (.seq .nil (.cond (.seq .nil .nil) .nil)))) .nil))
abbrev sh0 : ES := ⟨[(0, .v (.sl (.int .i64))), (1, .clo [.int .i64] .bool), (7, .v (.int .i64)), (8, .v (.int .i64))], []⟩
abbrev sh0_0 : ES := ⟨[], []⟩
def g0 (n m : Nat) (x : sh0.V) (kn : KN rsh) (kx : KX rsh) : Option (RVs rsh) := l0 n x.1.1 x.1.2.1 x.1.2.2.1 (fun _ => kx 0 (sh0_0.enc ((()), (())))) m x.1.2.2.2.1
def T (n : Nat) : Tab (RVs rsh) := fun j e kn kx => match j with
 | 0 => ES.on sh0 e fun x => g0 n n x kn kx
 | _ => none
theorem mk (n : Nat) : MOk (cx n) := mkCtx_ok (mem_nil)
theorem u0 (n : Nat) (v : AVs ash) : UnitOk (cx n) 19 (T n) (kr n v) 0 (.loop b0) :=
 loop_u (n := n) (CO _) (mk n) (MX _) an0 [(0, [])] [0, 1, 7, 8] sh0 (g0 n) (fun _ _ _ => rfl) (fun _ _ _ => rfl) (fun m x kn kx => by kernel_rfl) (l := []) (by kernel_rfl) (mem_nil)
theorem ok (n : Nat) : EntOk Try.prog 80 (ent n) :=
 ent_okU (c := cx n) (e := ent n) (d := d) (CO _) (mk n) (MX _) an Try.func80 (by kernel_rfl) (T n) (l := [(0, .loop b0)]) (by kernel_rfl) (fun v => mem_cons (u0 n v) mem_nil) (fun v => by kernel_rfl)
end slices_IndexFunc_int_int
namespace slices_ContainsFunc_int_int
def F (n : Nat) (s1 : List Int) (f2 : (Int × Unit) → Option Bool) : Option Bool :=
 (slices_IndexFunc_int_int.F n s1 f2).bind fun r3 =>
 some (decide (r3 ≥ 0))
noncomputable def code : Code := Try.f59.body.getD .skip
abbrev ash : List ASh := [.ro (.sl (.int .i64)), .fn [.int .i64] .bool]
abbrev rsh : List RSh := [.ro .bool]
def ent (n : Nat) : FEnt := ⟨ash, rsh, fun v => F n v.1 v.2.1⟩
noncomputable def cx (n : Nat) : Ctx := mkCtx Try.prog TYS [(80, slices_IndexFunc_int_int.ent n)]
noncomputable def d : FnD := ⟨code, 9, .nil, [(.tmp 4, .bool, .ro)]⟩
def an : An := .seq .nil (.seq .nil .nil)
theorem ok (n : Nat) : EntOk Try.prog 59 (ent n) :=
 ent_ok0 (c := cx n) (e := ent n) (d := d) (CO _) (mkCtx_ok (mem_cons (slices_IndexFunc_int_int.ok n) mem_nil)) (MX _) an Try.func59 (by kernel_rfl) (by kernel_rfl) (fun v => by kernel_rfl)
end slices_ContainsFunc_int_int
namespace impl_isFormed_1
def F (n : Nat) (t1 : Int) : Option Bool :=
 some (!decide (t1 = 1))
noncomputable def code : Code := Try.f111.body.getD .skip
abbrev ash : List ASh := [.ro (.int .i64)]
abbrev rsh : List RSh := [.ro .bool]
def ent (n : Nat) : FEnt := ⟨ash, rsh, fun v => F n v.1⟩
noncomputable def cx (n : Nat) : Ctx := mkCtx Try.prog TYS []
noncomputable def d : FnD := ⟨code, 5, .nil, [(.tmp 2, .bool, .ro)]⟩
def an : An := .seq .nil (.seq .nil .nil)
theorem ok (n : Nat) : EntOk Try.prog 111 (ent n) :=
 ent_ok0 (c := cx n) (e := ent n) (d := d) (CO _) (mkCtx_ok (mem_nil)) (MX _) an Try.func111 (by kernel_rfl) (by kernel_rfl) (fun v => by kernel_rfl)
end impl_isFormed_1
namespace impl_isFormed
def l1 (n : Nat) (t7 : Int) (t8 : List (Int × ByteArray × List Int)) (t9 : Int) (t10 : Int) (t11 : List Int) (t12 : Int) (t14 : (List (Int × ByteArray × List Int)) × (Int × ByteArray × List Int) × List (Int × ByteArray × List Int)) (t16 : Int × ByteArray × List Int) (K2 : (List Int) → Option Bool) : Nat → Int → (List Int) → Option Bool
 | 0, _, _ => none
 | k + 1, t13, t15 =>
 if decide (t13 < t12) = true then
 if (0 : Int) ≤ t13 ∧ t13 < (List.length t11 : Int) then
 (impl_in.F n (List.getD t11 (Int.toNat t13) 0) 0 (IntKind.i64.wrap (t7 - 1))).bind fun r17 =>
 if (!r17) = true then
 some false
 else
 if (0 : Int) ≤ (List.getD t11 (Int.toNat t13) 0) ∧ (List.getD t11 (Int.toNat t13) 0) < (List.length t15 : Int) then
 if (0 : Int) ≤ (List.getD t11 (Int.toNat t13) 0) ∧ (List.getD t11 (Int.toNat t13) 0) < (List.length t15 : Int) then
 let w18 : List Int := List.set t15 (Int.toNat (List.getD t11 (Int.toNat t13) 0)) (IntKind.i64.wrap ((List.getD t15 (Int.toNat (List.getD t11 (Int.toNat t13) 0)) 0) + 1))
 l1 n t7 t8 t9 t10 t11 t12 t14 t16 K2 k (IntKind.i64.wrap (t13 + 1)) w18
 else
 none
 else
 none
 else
 none
 else
 K2 t15
def l0 (n : Nat) (t2 : List (Int × ByteArray × List Int)) (t3 : Int) (t5 : (List (Int × ByteArray × List Int)) × (Int × ByteArray × List Int) × List (Int × ByteArray × List Int)) (K0 : (List Int) → Option Bool) : Nat → Int → (List Int) → Option Bool
 | 0, _, _ => none
 | k + 1, t4, t6 =>
 if decide (t4 < t3) = true then
 if (0 : Int) ≤ t4 ∧ t4 < (List.length t2 : Int) then
 l1 n t4 t2 t3 t4 (((List.getD t2 (Int.toNat t4) (0, (ByteArray.empty, []))).2).2) (List.length (((List.getD t2 (Int.toNat t4) (0, (ByteArray.empty, []))).2).2) : Int) t5 (List.getD t2 (Int.toNat t4) (0, (ByteArray.empty, []))) (fun t19 =>
 (impl_in.F n ((List.getD t2 (Int.toNat t4) (0, (ByteArray.empty, []))).1) 1 7).bind fun r20 =>
 if (!r20) = false then
 (impl_isSum.F n ((List.getD t2 (Int.toNat t4) (0, (ByteArray.empty, []))).1)).bind fun r21 =>
 if r21 = true then
 if (!decide ((List.length (((List.getD t2 (Int.toNat t4) (0, (ByteArray.empty, []))).2).2) : Int) = 2)) = false then
 (impl_in.F n ((List.getD t2 (Int.toNat t4) (0, (ByteArray.empty, []))).1) 1 3).bind fun r22 =>
 if r22 = true then
 if decide ((List.length (((List.getD t2 (Int.toNat t4) (0, (ByteArray.empty, []))).2).2) : Int) > 0) = true then
 some false
 else
 l0 n t2 t3 t5 K0 k (IntKind.i64.wrap (t4 + 1)) t19
 else
 l0 n t2 t3 t5 K0 k (IntKind.i64.wrap (t4 + 1)) t19
 else
 some false
 else
 (impl_in.F n ((List.getD t2 (Int.toNat t4) (0, (ByteArray.empty, []))).1) 1 3).bind fun r23 =>
 if r23 = true then
 if decide ((List.length (((List.getD t2 (Int.toNat t4) (0, (ByteArray.empty, []))).2).2) : Int) > 0) = true then
 some false
 else
 l0 n t2 t3 t5 K0 k (IntKind.i64.wrap (t4 + 1)) t19
 else
 l0 n t2 t3 t5 K0 k (IntKind.i64.wrap (t4 + 1)) t19
 else
 some false) n 0 t6
 else
 none
 else
 K0 t6
def l4 (n : Nat) (t38 : List (Int × ByteArray × List Int)) (t39 : Int) (t40 : Int) (t41 : List Int) (t42 : Int) (t44 : (List (Int × ByteArray × List Int)) × (Int × ByteArray × List Int) × List (Int × ByteArray × List Int)) (K6 : (List Int) → Option Bool) : Nat → Int → (List Int) → Option Bool
 | 0, _, _ => none
 | k + 1, t43, t45 =>
 if decide (t43 < t42) = true then
 if (0 : Int) ≤ t43 ∧ t43 < (List.length t41 : Int) then
 (impl_in.F n (List.getD t41 (Int.toNat t43) 0) 0 (IntKind.i64.wrap ((List.length t44.1 : Int) - 1))).bind fun r46 =>
 if (!r46) = true then
 some false
 else
 if (0 : Int) ≤ (List.getD t41 (Int.toNat t43) 0) ∧ (List.getD t41 (Int.toNat t43) 0) < (List.length t45 : Int) then
 if (0 : Int) ≤ (List.getD t41 (Int.toNat t43) 0) ∧ (List.getD t41 (Int.toNat t43) 0) < (List.length t45 : Int) then
 let w47 : List Int := List.set t45 (Int.toNat (List.getD t41 (Int.toNat t43) 0)) (IntKind.i64.wrap ((List.getD t45 (Int.toNat (List.getD t41 (Int.toNat t43) 0)) 0) + 1))
 l4 n t38 t39 t40 t41 t42 t44 K6 k (IntKind.i64.wrap (t43 + 1)) w47
 else
 none
 else
 none
 else
 none
 else
 K6 t45
def j3 (n : Nat) (t32 : List (Int × ByteArray × List Int)) (t33 : Int) (t34 : Int) (t35 : (List (Int × ByteArray × List Int)) × (Int × ByteArray × List Int) × List (Int × ByteArray × List Int)) (t36 : List Int) (t37 : Int × ByteArray × List Int) (Kn : (List Int) → Option Bool) : Option Bool :=
 l4 n t32 t33 t34 t37.2.2 (List.length t37.2.2 : Int) t35 (fun t48 =>
 Kn t48) n 0 t36
def l2 (n : Nat) (t26 : List (Int × ByteArray × List Int)) (t27 : Int) (t29 : (List (Int × ByteArray × List Int)) × (Int × ByteArray × List Int) × List (Int × ByteArray × List Int)) (K4 : (List Int) → Option Bool) : Nat → Int → (List Int) → Option Bool
 | 0, _, _ => none
 | k + 1, t28, t30 =>
 if decide (t28 < t27) = true then
 if (0 : Int) ≤ t28 ∧ t28 < (List.length t26 : Int) then
 if (decide (t28 = 0)) = true then
 if (!decide (((List.getD t26 (Int.toNat t28) (0, (ByteArray.empty, []))).1) = 1)) = false then
 (impl_in.F n ((List.getD t26 (Int.toNat t28) (0, (ByteArray.empty, []))).1) 1 3).bind fun r31 =>
 if (!r31) = false then
 if (decide (((List.getD t26 (Int.toNat t28) (0, (ByteArray.empty, []))).1) = 3)) = true then
 if (!decide ((List.length (((List.getD t26 (Int.toNat t28) (0, (ByteArray.empty, []))).2).2) : Int) = 2)) = true then
 some false
 else
 j3 n t26 t27 t28 t29 t30 (List.getD t26 (Int.toNat t28) (0, (ByteArray.empty, []))) (fun t49 =>
 l2 n t26 t27 t29 K4 k (IntKind.i64.wrap (t28 + 1)) t49)
 else
 j3 n t26 t27 t28 t29 t30 (List.getD t26 (Int.toNat t28) (0, (ByteArray.empty, []))) (fun t50 =>
 l2 n t26 t27 t29 K4 k (IntKind.i64.wrap (t28 + 1)) t50)
 else
 some false
 else
 some false
 else
 (impl_in.F n ((List.getD t26 (Int.toNat t28) (0, (ByteArray.empty, []))).1) 1 3).bind fun r51 =>
 if (!r51) = false then
 if (decide (((List.getD t26 (Int.toNat t28) (0, (ByteArray.empty, []))).1) = 3)) = true then
 if (!decide ((List.length (((List.getD t26 (Int.toNat t28) (0, (ByteArray.empty, []))).2).2) : Int) = 2)) = true then
 some false
 else
 j3 n t26 t27 t28 t29 t30 (List.getD t26 (Int.toNat t28) (0, (ByteArray.empty, []))) (fun t52 =>
 l2 n t26 t27 t29 K4 k (IntKind.i64.wrap (t28 + 1)) t52)
 else
 j3 n t26 t27 t28 t29 t30 (List.getD t26 (Int.toNat t28) (0, (ByteArray.empty, []))) (fun t53 =>
 l2 n t26 t27 t29 K4 k (IntKind.i64.wrap (t28 + 1)) t53)
 else
 some false
 else
 none
 else
 K4 t30
def F (n : Nat) (t1 : (List (Int × ByteArray × List Int)) × (Int × ByteArray × List Int) × List (Int × ByteArray × List Int)) : Option Bool :=
 if (0 : Int) ≤ (List.length t1.1 : Int) ∧ (List.length t1.1 : Int) ≤ (List.length t1.1 : Int) ∧ (List.length t1.1 : Int) ≤ (lim : Int) then
 l0 n t1.1 (List.length t1.1 : Int) t1 (fun t24 =>
 (impl_Rule_lits.F n t1).bind fun r25 =>
 l2 n r25 (List.length r25 : Int) t1 (fun t54 =>
 if (decide ((List.length t1.1 : Int) ≤ 60)) = true then
 (slices_ContainsFunc_int_int.F n t54 (fun a55 => (impl_isFormed_1.F n a55.1).bind some)).bind fun r56 =>
 some (!r56)
 else
 some false) n 0 t24) n 0 (List.replicate (Int.toNat (List.length t1.1 : Int)) 0)
 else
 none
noncomputable def code : Code := Try.f88.body.getD .skip
abbrev ash : List ASh := [.ro (.st (.pair (.sl (.st (.pair (.int .i64) (.pair (.str) (.sl (.int .i64)))))) (.pair (.st (.pair (.int .i64) (.pair (.str) (.sl (.int .i64))))) (.sl (.st (.pair (.int .i64) (.pair (.str) (.sl (.int .i64)))))))))]
abbrev rsh : List RSh := [.ro .bool]
def ent (n : Nat) : FEnt := ⟨ash, rsh, fun v => F n v.1⟩
noncomputable def cx (n : Nat) : Ctx := mkCtx Try.prog TYS [(59, slices_ContainsFunc_int_int.ent n), (108, impl_in.ent n), (109, impl_isSum.ent n), (110, impl_Rule_lits.ent n), (111, impl_isFormed_1.ent n)]
noncomputable def d : FnD := ⟨code, 133, .nil, [(.tmp 2, .bool, .ro)]⟩
noncomputable def kr (n : Nat) (v : AVs ash) : KN rsh := endK (cx n) d (avEnc ash v) (rvDec rsh)
noncomputable def b1 : Code := Code.l (Code.l (Code.r (Code.l (Code.r (Code.l (Code.l (Code.r (Code.r (Code.l (Code.l (Code.r (Code.l (Code.r (Code.r code))))))))))))))
noncomputable def b0 : Code := Code.l (Code.l (Code.r (Code.l (Code.r (Code.r code)))))
noncomputable def b4 : Code := Code.l (Code.l (Code.r (Code.r (Code.r (Code.l (Code.l (Code.r (Code.r (Code.l (Code.l (Code.r (Code.l (Code.r (Code.r (Code.r code)))))))))))))))
noncomputable def c3 : Code := (Code.r (Code.r (Code.l (Code.l (Code.r (Code.r (Code.l (Code.l (Code.r (Code.l (Code.r (Code.r (Code.r code)))))))))))))
noncomputable def b2 : Code := Code.l (Code.l (Code.r (Code.l (Code.r (Code.r (Code.r code))))))
def an : An := .seq .nil (.seq (.reg [(15, .own .ro)]) (.seq (.seq .nil (.block (some [1, 3]) (.cut 0 [1, 3, 17, 18, 19]))) (.seq (.seq .nil (.block (some [1, 3]) (.cut 2 [1, 3, 71, 72, 73]))) (.seq .nil .nil))))
def an1 : An := .seq .nil (.seq (.cond .nil .nil) (.seq (.block (some [1, 3, 4, 5, 17, 18, 19, 25, 26, 27]) (.seq .nil (.seq (.seq .nil (.cond (.seq .nil .nil) .nil)) .nil))) .nil))
abbrev sh1 : ES := ⟨[(1, .pt 1 []), (3, .al 3 []), (4, .v (.int .i64)), (5, .pt 5 []), (17, .v (.sl (.st (.pair (.int .i64) (.pair (.str) (.sl (.int .i64))))))), (18, .v (.int .i64)), (19, .v (.int .i64)), (25, .v (.sl (.int .i64))), (26, .v (.int .i64)), (27, .v (.int .i64))], [⟨1, .st (.pair (.sl (.st (.pair (.int .i64) (.pair (.str) (.sl (.int .i64)))))) (.pair (.st (.pair (.int .i64) (.pair (.str) (.sl (.int .i64))))) (.sl (.st (.pair (.int .i64) (.pair (.str) (.sl (.int .i64)))))))), .ro, true, false, none⟩, ⟨3, .sl (.int .i64), .own .ro, false, false, none⟩, ⟨5, .st (.pair (.int .i64) (.pair (.str) (.sl (.int .i64)))), .ro, true, false, none⟩]⟩
abbrev sh1_2 : ES := ⟨[(1, .pt 1 []), (3, .al 3 []), (5, .pt 5 []), (17, .v (.sl (.st (.pair (.int .i64) (.pair (.str) (.sl (.int .i64))))))), (18, .v (.int .i64)), (19, .v (.int .i64))], [⟨1, .st (.pair (.sl (.st (.pair (.int .i64) (.pair (.str) (.sl (.int .i64)))))) (.pair (.st (.pair (.int .i64) (.pair (.str) (.sl (.int .i64))))) (.sl (.st (.pair (.int .i64) (.pair (.str) (.sl (.int .i64)))))))), .ro, true, false, none⟩, ⟨3, .sl (.int .i64), .own .ro, false, false, none⟩, ⟨5, .st (.pair (.int .i64) (.pair (.str) (.sl (.int .i64)))), .ro, true, false, none⟩]⟩
def an0 : An := .seq .nil (.seq (.cond .nil .nil) (.seq (.block (some [1, 3, 17, 18, 19]) (.seq .nil (.seq (.seq .nil (.block (some [1, 3, 5, 17, 18, 19]) (.cut 1 [1, 3, 4, 5, 17, 18, 19, 25, 26, 27]))) (.seq .nil (.cond (.seq .nil .nil) .nil))))) .nil))
abbrev sh0 : ES := ⟨[(1, .pt 1 []), (3, .al 3 []), (17, .v (.sl (.st (.pair (.int .i64) (.pair (.str) (.sl (.int .i64))))))), (18, .v (.int .i64)), (19, .v (.int .i64))], [⟨1, .st (.pair (.sl (.st (.pair (.int .i64) (.pair (.str) (.sl (.int .i64)))))) (.pair (.st (.pair (.int .i64) (.pair (.str) (.sl (.int .i64))))) (.sl (.st (.pair (.int .i64) (.pair (.str) (.sl (.int .i64)))))))), .ro, true, false, none⟩, ⟨3, .sl (.int .i64), .own .ro, false, false, none⟩]⟩
abbrev sh0_0 : ES := ⟨[(1, .pt 1 []), (3, .al 3 [])], [⟨1, .st (.pair (.sl (.st (.pair (.int .i64) (.pair (.str) (.sl (.int .i64)))))) (.pair (.st (.pair (.int .i64) (.pair (.str) (.sl (.int .i64))))) (.sl (.st (.pair (.int .i64) (.pair (.str) (.sl (.int .i64)))))))), .ro, true, false, none⟩, ⟨3, .sl (.int .i64), .own .ro, false, false, none⟩]⟩
def an4 : An := .seq .nil (.seq (.cond .nil .nil) (.seq (.block (some [1, 3, 71, 72, 73, 103, 104, 105]) (.seq .nil (.seq (.seq .nil (.cond (.seq .nil .nil) .nil)) .nil))) .nil))
abbrev sh4 : ES := ⟨[(1, .pt 1 []), (3, .al 3 []), (71, .v (.sl (.st (.pair (.int .i64) (.pair (.str) (.sl (.int .i64))))))), (72, .v (.int .i64)), (73, .v (.int .i64)), (103, .v (.sl (.int .i64))), (104, .v (.int .i64)), (105, .v (.int .i64))], [⟨1, .st (.pair (.sl (.st (.pair (.int .i64) (.pair (.str) (.sl (.int .i64)))))) (.pair (.st (.pair (.int .i64) (.pair (.str) (.sl (.int .i64))))) (.sl (.st (.pair (.int .i64) (.pair (.str) (.sl (.int .i64)))))))), .ro, true, false, none⟩, ⟨3, .sl (.int .i64), .own .ro, false, false, none⟩]⟩
abbrev sh4_6 : ES := ⟨[(1, .pt 1 []), (3, .al 3 []), (71, .v (.sl (.st (.pair (.int .i64) (.pair (.str) (.sl (.int .i64))))))), (72, .v (.int .i64)), (73, .v (.int .i64))], [⟨1, .st (.pair (.sl (.st (.pair (.int .i64) (.pair (.str) (.sl (.int .i64)))))) (.pair (.st (.pair (.int .i64) (.pair (.str) (.sl (.int .i64))))) (.sl (.st (.pair (.int .i64) (.pair (.str) (.sl (.int .i64)))))))), .ro, true, false, none⟩, ⟨3, .sl (.int .i64), .own .ro, false, false, none⟩]⟩
def an3 : An := .seq .nil (.block (some [1, 3, 71, 72, 73]) (.cut 4 [1, 3, 71, 72, 73, 103, 104, 105]))
abbrev sh3 : ES := ⟨[(1, .pt 1 []), (3, .al 3 []), (9, .pt 9 []), (71, .v (.sl (.st (.pair (.int .i64) (.pair (.str) (.sl (.int .i64))))))), (72, .v (.int .i64)), (73, .v (.int .i64))], [⟨1, .st (.pair (.sl (.st (.pair (.int .i64) (.pair (.str) (.sl (.int .i64)))))) (.pair (.st (.pair (.int .i64) (.pair (.str) (.sl (.int .i64))))) (.sl (.st (.pair (.int .i64) (.pair (.str) (.sl (.int .i64)))))))), .ro, true, false, none⟩, ⟨3, .sl (.int .i64), .own .ro, false, false, none⟩, ⟨9, .st (.pair (.int .i64) (.pair (.str) (.sl (.int .i64)))), .ro, true, false, none⟩]⟩
abbrev sh3_n : ES := ⟨[(1, .pt 1 []), (3, .al 3 []), (71, .v (.sl (.st (.pair (.int .i64) (.pair (.str) (.sl (.int .i64))))))), (72, .v (.int .i64)), (73, .v (.int .i64))], [⟨1, .st (.pair (.sl (.st (.pair (.int .i64) (.pair (.str) (.sl (.int .i64)))))) (.pair (.st (.pair (.int .i64) (.pair (.str) (.sl (.int .i64))))) (.sl (.st (.pair (.int .i64) (.pair (.str) (.sl (.int .i64)))))))), .ro, true, false, none⟩, ⟨3, .sl (.int .i64), .own .ro, false, false, none⟩]⟩
def an2 : An := .seq .nil (.seq (.cond .nil .nil) (.seq (.block (some [1, 3, 71, 72, 73]) (.seq .nil (.seq (.seq .nil (.cond (.seq .nil .nil) .nil)) (.cut 3 [1, 3, 9, 71, 72, 73])))) .nil))
abbrev sh2 : ES := ⟨[(1, .pt 1 []), (3, .al 3 []), (71, .v (.sl (.st (.pair (.int .i64) (.pair (.str) (.sl (.int .i64))))))), (72, .v (.int .i64)), (73, .v (.int .i64))], [⟨1, .st (.pair (.sl (.st (.pair (.int .i64) (.pair (.str) (.sl (.int .i64)))))) (.pair (.st (.pair (.int .i64) (.pair (.str) (.sl (.int .i64))))) (.sl (.st (.pair (.int .i64) (.pair (.str) (.sl (.int .i64)))))))), .ro, true, false, none⟩, ⟨3, .sl (.int .i64), .own .ro, false, false, none⟩]⟩
abbrev sh2_4 : ES := ⟨[(1, .pt 1 []), (3, .al 3 [])], [⟨1, .st (.pair (.sl (.st (.pair (.int .i64) (.pair (.str) (.sl (.int .i64)))))) (.pair (.st (.pair (.int .i64) (.pair (.str) (.sl (.int .i64))))) (.sl (.st (.pair (.int .i64) (.pair (.str) (.sl (.int .i64)))))))), .ro, true, false, none⟩, ⟨3, .sl (.int .i64), .own .ro, false, false, none⟩]⟩
def g1 (n m : Nat) (x : sh1.V) (kn : KN rsh) (kx : KX rsh) : Option (RVs rsh) := l1 n x.1.2.2.1 x.1.2.2.2.2.1 x.1.2.2.2.2.2.1 x.1.2.2.2.2.2.2.1 x.1.2.2.2.2.2.2.2.1 x.1.2.2.2.2.2.2.2.2.1 x.2.1 x.2.2.2.1 (fun y0 => kx 2 (sh1_2.enc (((()), (()), (()), x.1.2.2.2.2.1, x.1.2.2.2.2.2.1, x.1.2.2.2.2.2.2.1, ()), (x.2.1, y0, x.2.2.2.1, ())))) m x.1.2.2.2.2.2.2.2.2.2.1 x.2.2.1
def g0 (n m : Nat) (x : sh0.V) (kn : KN rsh) (kx : KX rsh) : Option (RVs rsh) := l0 n x.1.2.2.1 x.1.2.2.2.1 x.2.1 (fun y0 => kx 0 (sh0_0.enc (((()), (()), ()), (x.2.1, y0, ())))) m x.1.2.2.2.2.1 x.2.2.1
def g4 (n m : Nat) (x : sh4.V) (kn : KN rsh) (kx : KX rsh) : Option (RVs rsh) := l4 n x.1.2.2.1 x.1.2.2.2.1 x.1.2.2.2.2.1 x.1.2.2.2.2.2.1 x.1.2.2.2.2.2.2.1 x.2.1 (fun y0 => kx 6 (sh4_6.enc (((()), (()), x.1.2.2.1, x.1.2.2.2.1, x.1.2.2.2.2.1, ()), (x.2.1, y0, ())))) m x.1.2.2.2.2.2.2.2.1 x.2.2.1
def g3 (n m : Nat) (x : sh3.V) (kn : KN rsh) (kx : KX rsh) : Option (RVs rsh) := j3 n x.1.2.2.2.1 x.1.2.2.2.2.1 x.1.2.2.2.2.2.1 x.2.1 x.2.2.1 x.2.2.2.1 (fun y0 => kn (sh3_n.enc (((()), (()), x.1.2.2.2.1, x.1.2.2.2.2.1, x.1.2.2.2.2.2.1, ()), (x.2.1, y0, ()))))
def g2 (n m : Nat) (x : sh2.V) (kn : KN rsh) (kx : KX rsh) : Option (RVs rsh) := l2 n x.1.2.2.1 x.1.2.2.2.1 x.2.1 (fun y0 => kx 4 (sh2_4.enc (((()), (()), ()), (x.2.1, y0, ())))) m x.1.2.2.2.2.1 x.2.2.1
def T (n : Nat) : Tab (RVs rsh) := fun j e kn kx => match j with
 | 1 => ES.on sh1 e fun x => g1 n n x kn kx
 | 0 => ES.on sh0 e fun x => g0 n n x kn kx
 | 4 => ES.on sh4 e fun x => g4 n n x kn kx
 | 3 => ES.on sh3 e fun x => g3 n n x kn kx
 | 2 => ES.on sh2 e fun x => g2 n n x kn kx
 | _ => none
theorem mk (n : Nat) : MOk (cx n) := mkCtx_ok (mem_cons (slices_ContainsFunc_int_int.ok n) (mem_cons (impl_in.ok n) (mem_cons (impl_isSum.ok n) (mem_cons (impl_Rule_lits.ok n) (mem_cons (impl_isFormed_1.ok n) mem_nil)))))
theorem u1 (n : Nat) (v : AVs ash) : UnitOk (cx n) 133 (T n) (kr n v) 1 (.loop b1) :=
 loop_u (n := n) (CO _) (mk n) (MX _) an1 [(0, [1, 3]), (1, [1, 3, 17, 18, 19]), (2, [1, 3, 5, 17, 18, 19])] [1, 3, 4, 5, 17, 18, 19, 25, 26, 27] sh1 (g1 n) (fun _ _ _ => rfl) (fun _ _ _ => rfl) (fun m x kn kx => by kernel_rfl) (l := []) (by kernel_rfl) (mem_nil)
theorem u0 (n : Nat) (v : AVs ash) : UnitOk (cx n) 133 (T n) (kr n v) 0 (.loop b0) :=
 loop_u (n := n) (CO _) (mk n) (MX _) an0 [(0, [1, 3])] [1, 3, 17, 18, 19] sh0 (g0 n) (fun _ _ _ => rfl) (fun _ _ _ => rfl) (fun m x kn kx => by kernel_rfl) (l := [(1, .loop b1)]) (by kernel_rfl) (mem_cons (u1 n v) mem_nil)
theorem u4 (n : Nat) (v : AVs ash) : UnitOk (cx n) 133 (T n) (kr n v) 4 (.loop b4) :=
 loop_u (n := n) (CO _) (mk n) (MX _) an4 [(4, [1, 3]), (5, [1, 3, 71, 72, 73]), (6, [1, 3, 71, 72, 73])] [1, 3, 71, 72, 73, 103, 104, 105] sh4 (g4 n) (fun _ _ _ => rfl) (fun _ _ _ => rfl) (fun m x kn kx => by kernel_rfl) (l := []) (by kernel_rfl) (mem_nil)
theorem u3 (n : Nat) (v : AVs ash) : UnitOk (cx n) 133 (T n) (kr n v) 3 (c3) :=
 join_u (CO _) (mk n) (MX _) an3 [(4, [1, 3]), (5, [1, 3, 71, 72, 73])] [1, 3, 71, 72, 73] sh3 (g3 n n) (fun _ _ _ => rfl) (fun x kn kx => by kernel_rfl) (l := [(4, .loop b4)]) (by kernel_rfl) (mem_cons (u4 n v) mem_nil)
theorem u2 (n : Nat) (v : AVs ash) : UnitOk (cx n) 133 (T n) (kr n v) 2 (.loop b2) :=
 loop_u (n := n) (CO _) (mk n) (MX _) an2 [(4, [1, 3])] [1, 3, 71, 72, 73] sh2 (g2 n) (fun _ _ _ => rfl) (fun _ _ _ => rfl) (fun m x kn kx => by kernel_rfl) (l := [(3, c3)]) (by kernel_rfl) (mem_cons (u3 n v) mem_nil)
theorem ok (n : Nat) : EntOk Try.prog 88 (ent n) :=
 ent_okU (c := cx n) (e := ent n) (d := d) (CO _) (mk n) (MX _) an Try.func88 (by kernel_rfl) (T n) (l := [(0, .loop b0), (2, .loop b2)]) (by kernel_rfl) (fun v => mem_cons (u0 n v) (mem_cons (u2 n v) mem_nil)) (fun v => by kernel_rfl)
end impl_isFormed
namespace impl_Rule_expText
def j0 (n : Nat) (self112 : ((List (Int × ByteArray × List Int)) × (Int × ByteArray × List Int) × List (Int × ByteArray × List Int)) → Int → Option ByteArray) (self113 : ((List (Int × ByteArray × List Int)) × (Int × ByteArray × List Int) × List (Int × ByteArray × List Int)) → (List Int) → Option ByteArray) (self126 : Int → ((List (Int × ByteArray × List Int)) × (Int × ByteArray × List Int) × List (Int × ByteArray × List Int)) → Option ByteArray) (t4 : Bool) (r5 : (List (Int × ByteArray × List Int)) × (Int × ByteArray × List Int) × List (Int × ByteArray × List Int)) (e6 : Int × ByteArray × List Int) (Kn : Unit → Option ByteArray) : Option ByteArray :=
 if t4 = true then
 if (0 : Int) ≤ 0 ∧ 0 < (List.length e6.2.2 : Int) then
 (self126 (List.getD e6.2.2 (0) 0) r5).bind fun r7 =>
 if ByteArray.size r7 + ByteArray.size ⟨#[32]⟩ ≤ lim then
 if (0 : Int) ≤ (IntKind.i64.wrap (e6.1 - 5)) ∧ (IntKind.i64.wrap (e6.1 - 5)) < (List.length ([⟨#[43]⟩, ⟨#[45]⟩, ⟨#[42]⟩] : List ByteArray) : Int) then
 if ByteArray.size (r7 ++ ⟨#[32]⟩) + ByteArray.size (List.getD ([⟨#[43]⟩, ⟨#[45]⟩, ⟨#[42]⟩] : List ByteArray) (Int.toNat (IntKind.i64.wrap (e6.1 - 5))) ByteArray.empty) ≤ lim then
 if ByteArray.size ((r7 ++ ⟨#[32]⟩) ++ (List.getD ([⟨#[43]⟩, ⟨#[45]⟩, ⟨#[42]⟩] : List ByteArray) (Int.toNat (IntKind.i64.wrap (e6.1 - 5))) ByteArray.empty)) + ByteArray.size ⟨#[32]⟩ ≤ lim then
 if (0 : Int) ≤ 1 ∧ 1 < (List.length e6.2.2 : Int) then
 (self126 (List.getD e6.2.2 (1) 0) r5).bind fun r8 =>
 if ByteArray.size (((r7 ++ ⟨#[32]⟩) ++ (List.getD ([⟨#[43]⟩, ⟨#[45]⟩, ⟨#[42]⟩] : List ByteArray) (Int.toNat (IntKind.i64.wrap (e6.1 - 5))) ByteArray.empty)) ++ ⟨#[32]⟩) + ByteArray.size r8 ≤ lim then
 some ((((r7 ++ ⟨#[32]⟩) ++ (List.getD ([⟨#[43]⟩, ⟨#[45]⟩, ⟨#[42]⟩] : List ByteArray) (Int.toNat (IntKind.i64.wrap (e6.1 - 5))) ByteArray.empty)) ++ ⟨#[32]⟩) ++ r8)
 else
 none
 else
 none
 else
 none
 else
 none
 else
 none
 else
 none
 else
 none
 else
 Kn ()
def G (n : Nat) (self112 : ((List (Int × ByteArray × List Int)) × (Int × ByteArray × List Int) × List (Int × ByteArray × List Int)) → Int → Option ByteArray) (self113 : ((List (Int × ByteArray × List Int)) × (Int × ByteArray × List Int) × List (Int × ByteArray × List Int)) → (List Int) → Option ByteArray) (self126 : Int → ((List (Int × ByteArray × List Int)) × (Int × ByteArray × List Int) × List (Int × ByteArray × List Int)) → Option ByteArray) (r1 : (List (Int × ByteArray × List Int)) × (Int × ByteArray × List Int) × List (Int × ByteArray × List Int)) (t2 : Int) : Option ByteArray :=
 if (0 : Int) ≤ t2 ∧ t2 < (List.length r1.1 : Int) then
 if decide (((List.getD r1.1 (Int.toNat t2) (0, (ByteArray.empty, []))).1) = 2) = true then
 some ⟨#[95]⟩
 else
 if decide (((List.getD r1.1 (Int.toNat t2) (0, (ByteArray.empty, []))).1) = 4) = true then
 if decide ((List.length (((List.getD r1.1 (Int.toNat t2) (0, (ByteArray.empty, []))).2).2) : Int) > 0) = true then
 if ByteArray.size (((List.getD r1.1 (Int.toNat t2) (0, (ByteArray.empty, []))).2).1) + ByteArray.size ⟨#[40]⟩ ≤ lim then
 (self113 r1 (((List.getD r1.1 (Int.toNat t2) (0, (ByteArray.empty, []))).2).2)).bind fun r3 =>
 if ByteArray.size ((((List.getD r1.1 (Int.toNat t2) (0, (ByteArray.empty, []))).2).1) ++ ⟨#[40]⟩) + ByteArray.size r3 ≤ lim then
 if ByteArray.size (((((List.getD r1.1 (Int.toNat t2) (0, (ByteArray.empty, []))).2).1) ++ ⟨#[40]⟩) ++ r3) + ByteArray.size ⟨#[41]⟩ ≤ lim then
 some ((((((List.getD r1.1 (Int.toNat t2) (0, (ByteArray.empty, []))).2).1) ++ ⟨#[40]⟩) ++ r3) ++ ⟨#[41]⟩)
 else
 none
 else
 none
 else
 none
 else
 some (((List.getD r1.1 (Int.toNat t2) (0, (ByteArray.empty, []))).2).1)
 else
 if decide (((List.getD r1.1 (Int.toNat t2) (0, (ByteArray.empty, []))).1) = 5) = true then
 j0 n self112 self113 self126 (decide (((List.getD r1.1 (Int.toNat t2) (0, (ByteArray.empty, []))).1) = 5)) r1 (List.getD r1.1 (Int.toNat t2) (0, (ByteArray.empty, []))) (fun _ =>
 some (((List.getD r1.1 (Int.toNat t2) (0, (ByteArray.empty, []))).2).1))
 else
 if decide (((List.getD r1.1 (Int.toNat t2) (0, (ByteArray.empty, []))).1) = 6) = true then
 j0 n self112 self113 self126 (decide (((List.getD r1.1 (Int.toNat t2) (0, (ByteArray.empty, []))).1) = 6)) r1 (List.getD r1.1 (Int.toNat t2) (0, (ByteArray.empty, []))) (fun _ =>
 some (((List.getD r1.1 (Int.toNat t2) (0, (ByteArray.empty, []))).2).1))
 else
 j0 n self112 self113 self126 (decide (((List.getD r1.1 (Int.toNat t2) (0, (ByteArray.empty, []))).1) = 7)) r1 (List.getD r1.1 (Int.toNat t2) (0, (ByteArray.empty, []))) (fun _ =>
 some (((List.getD r1.1 (Int.toNat t2) (0, (ByteArray.empty, []))).2).1))
 else
 none
end impl_Rule_expText
namespace impl_Rule_expTexts
def l0 (n : Nat) (self112 : ((List (Int × ByteArray × List Int)) × (Int × ByteArray × List Int) × List (Int × ByteArray × List Int)) → Int → Option ByteArray) (self113 : ((List (Int × ByteArray × List Int)) × (Int × ByteArray × List Int) × List (Int × ByteArray × List Int)) → (List Int) → Option ByteArray) (self126 : Int → ((List (Int × ByteArray × List Int)) × (Int × ByteArray × List Int) × List (Int × ByteArray × List Int)) → Option ByteArray) (t3 : List Int) (t4 : Int) (r6 : (List (Int × ByteArray × List Int)) × (Int × ByteArray × List Int) × List (Int × ByteArray × List Int)) (K0 : (List ByteArray) → Option ByteArray) : Nat → Int → (List ByteArray) → Option ByteArray
 | 0, _, _ => none
 | k + 1, t5, out7 =>
 if decide (t5 < t4) = true then
 if (0 : Int) ≤ t5 ∧ t5 < (List.length t3 : Int) then
 (self112 r6 (List.getD t3 (Int.toNat t5) 0)).bind fun r8 =>
 if List.length out7 + List.length [r8] ≤ lim then
 l0 n self112 self113 self126 t3 t4 r6 K0 k (IntKind.i64.wrap (t5 + 1)) (out7 ++ [r8])
 else
 none
 else
 none
 else
 K0 out7
def G (n : Nat) (self112 : ((List (Int × ByteArray × List Int)) × (Int × ByteArray × List Int) × List (Int × ByteArray × List Int)) → Int → Option ByteArray) (self113 : ((List (Int × ByteArray × List Int)) × (Int × ByteArray × List Int) × List (Int × ByteArray × List Int)) → (List Int) → Option ByteArray) (self126 : Int → ((List (Int × ByteArray × List Int)) × (Int × ByteArray × List Int) × List (Int × ByteArray × List Int)) → Option ByteArray) (r1 : (List (Int × ByteArray × List Int)) × (Int × ByteArray × List Int) × List (Int × ByteArray × List Int)) (l2 : List Int) : Option ByteArray :=
 l0 n self112 self113 self126 l2 (List.length l2 : Int) r1 (fun out9 =>
 (strings_Join.F n out9 ⟨#[44, 32]⟩).bind fun r10 =>
 some r10) n 0 []
end impl_Rule_expTexts
namespace impl_Rule_expText_1
def G (n : Nat) (self112 : ((List (Int × ByteArray × List Int)) × (Int × ByteArray × List Int) × List (Int × ByteArray × List Int)) → Int → Option ByteArray) (self113 : ((List (Int × ByteArray × List Int)) × (Int × ByteArray × List Int) × List (Int × ByteArray × List Int)) → (List Int) → Option ByteArray) (self126 : Int → ((List (Int × ByteArray × List Int)) × (Int × ByteArray × List Int) × List (Int × ByteArray × List Int)) → Option ByteArray) (k1 : Int) (t2 : (List (Int × ByteArray × List Int)) × (Int × ByteArray × List Int) × List (Int × ByteArray × List Int)) : Option ByteArray :=
 if (0 : Int) ≤ k1 ∧ k1 < (List.length t2.1 : Int) then
 (impl_isSum.F n ((List.getD t2.1 (Int.toNat k1) (0, (ByteArray.empty, []))).1)).bind fun r3 =>
 if r3 = true then
 (self112 t2 k1).bind fun r4 =>
 if ByteArray.size ⟨#[40]⟩ + ByteArray.size r4 ≤ lim then
 if ByteArray.size (⟨#[40]⟩ ++ r4) + ByteArray.size ⟨#[41]⟩ ≤ lim then
 some ((⟨#[40]⟩ ++ r4) ++ ⟨#[41]⟩)
 else
 none
 else
 none
 else
 (self112 t2 k1).bind fun r5 =>
 some r5
 else
 none
end impl_Rule_expText_1
def FF112 : Nat → (((List (Int × ByteArray × List Int)) × (Int × ByteArray × List Int) × List (Int × ByteArray × List Int)) → Int → Option ByteArray) × (((List (Int × ByteArray × List Int)) × (Int × ByteArray × List Int) × List (Int × ByteArray × List Int)) → (List Int) → Option ByteArray) × (Int → ((List (Int × ByteArray × List Int)) × (Int × ByteArray × List Int) × List (Int × ByteArray × List Int)) → Option ByteArray)
 | 0 => (fun _ _ => none, fun _ _ => none, fun _ _ => none)
 | n + 1 => (impl_Rule_expText.G n (FF112 n).1 (FF112 n).2.1 (FF112 n).2.2, impl_Rule_expTexts.G n (FF112 n).1 (FF112 n).2.1 (FF112 n).2.2, impl_Rule_expText_1.G n (FF112 n).1 (FF112 n).2.1 (FF112 n).2.2)
namespace impl_Rule_expText
noncomputable def code : Code := Try.f112.body.getD .skip
def F (n : Nat) : ((List (Int × ByteArray × List Int)) × (Int × ByteArray × List Int) × List (Int × ByteArray × List Int)) → Int → Option ByteArray := (FF112 n).1
abbrev ash : List ASh := [.ro (.st (.pair (.sl (.st (.pair (.int .i64) (.pair (.str) (.sl (.int .i64)))))) (.pair (.st (.pair (.int .i64) (.pair (.str) (.sl (.int .i64))))) (.sl (.st (.pair (.int .i64) (.pair (.str) (.sl (.int .i64))))))))), .ro (.int .i64)]
abbrev rsh : List RSh := [.ro .str]
def ent (n : Nat) : FEnt := ⟨ash, rsh, fun v => F n v.1 v.2.1⟩
end impl_Rule_expText
namespace impl_Rule_expTexts
noncomputable def code : Code := Try.f113.body.getD .skip
def F (n : Nat) : ((List (Int × ByteArray × List Int)) × (Int × ByteArray × List Int) × List (Int × ByteArray × List Int)) → (List Int) → Option ByteArray := (FF112 n).2.1
abbrev ash : List ASh := [.ro (.st (.pair (.sl (.st (.pair (.int .i64) (.pair (.str) (.sl (.int .i64)))))) (.pair (.st (.pair (.int .i64) (.pair (.str) (.sl (.int .i64))))) (.sl (.st (.pair (.int .i64) (.pair (.str) (.sl (.int .i64))))))))), .ro (.sl (.int .i64))]
abbrev rsh : List RSh := [.ro .str]
def ent (n : Nat) : FEnt := ⟨ash, rsh, fun v => F n v.1 v.2.1⟩
end impl_Rule_expTexts
namespace impl_Rule_expText_1
noncomputable def code : Code := Try.f126.body.getD .skip
def F (n : Nat) : Int → ((List (Int × ByteArray × List Int)) × (Int × ByteArray × List Int) × List (Int × ByteArray × List Int)) → Option ByteArray := (FF112 n).2.2
abbrev ash : List ASh := [.ro (.int .i64), .rp (.st (.pair (.sl (.st (.pair (.int .i64) (.pair (.str) (.sl (.int .i64)))))) (.pair (.st (.pair (.int .i64) (.pair (.str) (.sl (.int .i64))))) (.sl (.st (.pair (.int .i64) (.pair (.str) (.sl (.int .i64)))))))))]
abbrev rsh : List RSh := [.ro .str]
def ent (n : Nat) : FEnt := ⟨ash, rsh, fun v => F n v.1 v.2.1⟩
end impl_Rule_expText_1
namespace impl_Rule_expText
noncomputable def cx (n : Nat) : Ctx := mkCtx Try.prog TYS [(112, impl_Rule_expText.ent n), (113, impl_Rule_expTexts.ent n), (126, impl_Rule_expText_1.ent n)]
noncomputable def d : FnD := ⟨code, 60, .nil, [(.tmp 4, .str, .ro)]⟩
noncomputable def kr (n : Nat) (v : AVs ash) : KN rsh := endK (cx n) d (avEnc ash v) (rvDec rsh)
noncomputable def c0 : Code := (Code.r (Code.r (Code.r (Code.r (Code.r (Code.l (Code.r (Code.l (Code.r (Code.r code))))))))))
def an : An := .seq .nil (.seq .nil (.seq (.seq .nil (.block (some [5]) (.seq .nil (.cond (.seq .nil .nil) (.seq .nil (.cond (.seq .nil (.cond (.seq .nil .nil) .nil)) (.seq (.seq .nil (.cond .nil (.seq .nil (.cond .nil .nil)))) (.cut 0 [2, 5, 31])))))))) (.seq .nil .nil)))
def an0 : An := .cond (.seq .nil (.seq .nil .nil)) .nil
abbrev sh0 : ES := ⟨[(2, .pt 2 []), (5, .pt 5 []), (31, .v .bool)], [⟨2, .st (.pair (.sl (.st (.pair (.int .i64) (.pair (.str) (.sl (.int .i64)))))) (.pair (.st (.pair (.int .i64) (.pair (.str) (.sl (.int .i64))))) (.sl (.st (.pair (.int .i64) (.pair (.str) (.sl (.int .i64)))))))), .ro, true, false, none⟩, ⟨5, .st (.pair (.int .i64) (.pair (.str) (.sl (.int .i64)))), .ro, true, false, none⟩]⟩
abbrev sh0_n : ES := ⟨[(5, .pt 5 [])], [⟨5, .st (.pair (.int .i64) (.pair (.str) (.sl (.int .i64)))), .ro, true, false, none⟩]⟩
def g0 (n m : Nat) (x : sh0.V) (kn : KN rsh) (kx : KX rsh) : Option (RVs rsh) := j0 n (impl_Rule_expText.F n) (impl_Rule_expTexts.F n) (impl_Rule_expText_1.F n) x.1.2.2.1 x.2.1 x.2.2.1 (fun _ => kn (sh0_n.enc (((()), ()), (x.2.2.1, ()))))
def T (n : Nat) : Tab (RVs rsh) := fun j e kn kx => match j with
 | 0 => ES.on sh0 e fun x => g0 n n x kn kx
 | _ => none
theorem mk (n : Nat) (ih112 : EntOk Try.prog 112 (impl_Rule_expText.ent n)) (ih113 : EntOk Try.prog 113 (impl_Rule_expTexts.ent n)) (ih126 : EntOk Try.prog 126 (impl_Rule_expText_1.ent n)) : MOk (cx n) := mkCtx_ok (mem_cons ih112 (mem_cons ih113 (mem_cons ih126 mem_nil)))
theorem u0 (n : Nat) (v : AVs ash) (ih112 : EntOk Try.prog 112 (impl_Rule_expText.ent n)) (ih113 : EntOk Try.prog 113 (impl_Rule_expTexts.ent n)) (ih126 : EntOk Try.prog 126 (impl_Rule_expText_1.ent n)) : UnitOk (cx n) 60 (T n) (kr n v) 0 (c0) :=
 join_u (CO _) (mk n ih112 ih113 ih126) (MX _) an0 [(0, [5])] [5] sh0 (g0 n n) (fun _ _ _ => rfl) (fun x kn kx => by kernel_rfl) (l := []) (by kernel_rfl) (mem_nil)
theorem ok0 : EntOk Try.prog 112 (ent 0) := ent_none Try.f112 (by kernel_rfl) (by kernel_rfl) (by kernel_rfl) (fun _ => rfl)
theorem okS (n : Nat) (ih112 : EntOk Try.prog 112 (impl_Rule_expText.ent n)) (ih113 : EntOk Try.prog 113 (impl_Rule_expTexts.ent n)) (ih126 : EntOk Try.prog 126 (impl_Rule_expText_1.ent n)) : EntOk Try.prog 112 (ent (n + 1)) :=
 ent_okU (c := cx n) (e := ent (n + 1)) (d := d) (CO _) (mk n ih112 ih113 ih126) (MX _) an Try.func112 (by kernel_rfl) (T n) (l := [(0, c0)]) (by kernel_rfl) (fun v => mem_cons (u0 n v ih112 ih113 ih126) mem_nil) (fun v => by kernel_rfl)
end impl_Rule_expText
namespace impl_Rule_expTexts
noncomputable def cx (n : Nat) : Ctx := mkCtx Try.prog TYS [(90, strings_Join.ent n), (112, impl_Rule_expText.ent n), (113, impl_Rule_expTexts.ent n), (126, impl_Rule_expText_1.ent n)]
noncomputable def d : FnD := ⟨code, 24, .nil, [(.tmp 4, .str, .ro)]⟩
noncomputable def kr (n : Nat) (v : AVs ash) : KN rsh := endK (cx n) d (avEnc ash v) (rvDec rsh)
noncomputable def b0 : Code := Code.l (Code.l (Code.r (Code.l (Code.r (Code.r code)))))
def an : An := .seq .nil (.seq (.reg [(8, .own .ro)]) (.seq (.seq .nil (.block (some [5]) (.cut 0 [2, 5, 9, 10, 11]))) (.seq .nil .nil)))
def an0 : An := .seq .nil (.seq (.cond .nil .nil) (.seq (.block (some [2, 5, 9, 10, 11]) (.seq .nil .nil)) .nil))
abbrev sh0 : ES := ⟨[(2, .pt 2 []), (5, .al 5 []), (9, .v (.sl (.int .i64))), (10, .v (.int .i64)), (11, .v (.int .i64))], [⟨2, .st (.pair (.sl (.st (.pair (.int .i64) (.pair (.str) (.sl (.int .i64)))))) (.pair (.st (.pair (.int .i64) (.pair (.str) (.sl (.int .i64))))) (.sl (.st (.pair (.int .i64) (.pair (.str) (.sl (.int .i64)))))))), .ro, true, false, none⟩, ⟨5, .sl (.str), .own .ro, false, false, none⟩]⟩
abbrev sh0_0 : ES := ⟨[(5, .al 5 [])], [⟨5, .sl (.str), .own .ro, false, false, none⟩]⟩
def g0 (n m : Nat) (x : sh0.V) (kn : KN rsh) (kx : KX rsh) : Option (RVs rsh) := l0 n (impl_Rule_expText.F n) (impl_Rule_expTexts.F n) (impl_Rule_expText_1.F n) x.1.2.2.1 x.1.2.2.2.1 x.2.1 (fun y0 => kx 0 (sh0_0.enc (((()), ()), (y0, ())))) m x.1.2.2.2.2.1 x.2.2.1
def T (n : Nat) : Tab (RVs rsh) := fun j e kn kx => match j with
 | 0 => ES.on sh0 e fun x => g0 n n x kn kx
 | _ => none
theorem mk (n : Nat) (ih112 : EntOk Try.prog 112 (impl_Rule_expText.ent n)) (ih113 : EntOk Try.prog 113 (impl_Rule_expTexts.ent n)) (ih126 : EntOk Try.prog 126 (impl_Rule_expText_1.ent n)) : MOk (cx n) := mkCtx_ok (mem_cons (strings_Join.ok n) (mem_cons ih112 (mem_cons ih113 (mem_cons ih126 mem_nil))))
theorem u0 (n : Nat) (v : AVs ash) (ih112 : EntOk Try.prog 112 (impl_Rule_expText.ent n)) (ih113 : EntOk Try.prog 113 (impl_Rule_expTexts.ent n)) (ih126 : EntOk Try.prog 126 (impl_Rule_expText_1.ent n)) : UnitOk (cx n) 24 (T n) (kr n v) 0 (.loop b0) :=
 loop_u (n := n) (CO _) (mk n ih112 ih113 ih126) (MX _) an0 [(0, [5])] [2, 5, 9, 10, 11] sh0 (g0 n) (fun _ _ _ => rfl) (fun _ _ _ => rfl) (fun m x kn kx => by kernel_rfl) (l := []) (by kernel_rfl) (mem_nil)
theorem ok0 : EntOk Try.prog 113 (ent 0) := ent_none Try.f113 (by kernel_rfl) (by kernel_rfl) (by kernel_rfl) (fun _ => rfl)
theorem okS (n : Nat) (ih112 : EntOk Try.prog 112 (impl_Rule_expText.ent n)) (ih113 : EntOk Try.prog 113 (impl_Rule_expTexts.ent n)) (ih126 : EntOk Try.prog 126 (impl_Rule_expText_1.ent n)) : EntOk Try.prog 113 (ent (n + 1)) :=
 ent_okU (c := cx n) (e := ent (n + 1)) (d := d) (CO _) (mk n ih112 ih113 ih126) (MX _) an Try.func113 (by kernel_rfl) (T n) (l := [(0, .loop b0)]) (by kernel_rfl) (fun v => mem_cons (u0 n v ih112 ih113 ih126) mem_nil) (fun v => by kernel_rfl)
end impl_Rule_expTexts
namespace impl_Rule_expText_1
noncomputable def cx (n : Nat) : Ctx := mkCtx Try.prog TYS [(109, impl_isSum.ent n), (112, impl_Rule_expText.ent n), (113, impl_Rule_expTexts.ent n), (126, impl_Rule_expText_1.ent n)]
noncomputable def d : FnD := ⟨code, 19, .nil, [(.tmp 3, .str, .ro)]⟩
def an : An := .seq .nil (.seq (.seq .nil (.cond (.seq .nil .nil) .nil)) (.seq .nil .nil))
theorem ok0 : EntOk Try.prog 126 (ent 0) := ent_none Try.f126 (by kernel_rfl) (by kernel_rfl) (by kernel_rfl) (fun _ => rfl)
theorem okS (n : Nat) (ih112 : EntOk Try.prog 112 (impl_Rule_expText.ent n)) (ih113 : EntOk Try.prog 113 (impl_Rule_expTexts.ent n)) (ih126 : EntOk Try.prog 126 (impl_Rule_expText_1.ent n)) : EntOk Try.prog 126 (ent (n + 1)) :=
 ent_ok0 (c := cx n) (e := ent (n + 1)) (d := d) (CO _) (mkCtx_ok (mem_cons (impl_isSum.ok n) (mem_cons ih112 (mem_cons ih113 (mem_cons ih126 mem_nil))))) (MX _) an Try.func126 (by kernel_rfl) (by kernel_rfl) (fun v => by kernel_rfl)
end impl_Rule_expText_1
theorem okG112 : (n : Nat) → EntOk Try.prog 112 (impl_Rule_expText.ent n) ∧ EntOk Try.prog 113 (impl_Rule_expTexts.ent n) ∧ EntOk Try.prog 126 (impl_Rule_expText_1.ent n)
 | 0 => ⟨impl_Rule_expText.ok0, impl_Rule_expTexts.ok0, impl_Rule_expText_1.ok0⟩
 | n + 1 => have ih := okG112 n; ⟨impl_Rule_expText.okS n ih.1 ih.2.1 ih.2.2, impl_Rule_expTexts.okS n ih.1 ih.2.1 ih.2.2, impl_Rule_expText_1.okS n ih.1 ih.2.1 ih.2.2⟩
theorem impl_Rule_expText.ok (n : Nat) : EntOk Try.prog 112 (impl_Rule_expText.ent n) := (okG112 n).1
theorem impl_Rule_expTexts.ok (n : Nat) : EntOk Try.prog 113 (impl_Rule_expTexts.ent n) := (okG112 n).2.1
namespace impl_Rule_litText
def F (n : Nat) (r1 : (List (Int × ByteArray × List Int)) × (Int × ByteArray × List Int) × List (Int × ByteArray × List Int)) (l2 : Int × ByteArray × List Int) : Option ByteArray :=
 if decide (l2.1 = 3) = true then
 if (0 : Int) ≤ 0 ∧ 0 < (List.length l2.2.2 : Int) then
 (impl_Rule_expText.F n r1 (List.getD l2.2.2 (0) 0)).bind fun r3 =>
 if ByteArray.size r3 + ByteArray.size ⟨#[32]⟩ ≤ lim then
 if ByteArray.size (r3 ++ ⟨#[32]⟩) + ByteArray.size l2.2.1 ≤ lim then
 if ByteArray.size ((r3 ++ ⟨#[32]⟩) ++ l2.2.1) + ByteArray.size ⟨#[32]⟩ ≤ lim then
 if (0 : Int) ≤ 1 ∧ 1 < (List.length l2.2.2 : Int) then
 (impl_Rule_expText.F n r1 (List.getD l2.2.2 (1) 0)).bind fun r4 =>
 if ByteArray.size (((r3 ++ ⟨#[32]⟩) ++ l2.2.1) ++ ⟨#[32]⟩) + ByteArray.size r4 ≤ lim then
 some ((((r3 ++ ⟨#[32]⟩) ++ l2.2.1) ++ ⟨#[32]⟩) ++ r4)
 else
 none
 else
 none
 else
 none
 else
 none
 else
 none
 else
 none
 else
 if decide (l2.1 = 2) = true then
 if ByteArray.size ⟨#[33]⟩ + ByteArray.size l2.2.1 ≤ lim then
 if ByteArray.size (⟨#[33]⟩ ++ l2.2.1) + ByteArray.size ⟨#[40]⟩ ≤ lim then
 (impl_Rule_expTexts.F n r1 l2.2.2).bind fun r5 =>
 if ByteArray.size ((⟨#[33]⟩ ++ l2.2.1) ++ ⟨#[40]⟩) + ByteArray.size r5 ≤ lim then
 if ByteArray.size (((⟨#[33]⟩ ++ l2.2.1) ++ ⟨#[40]⟩) ++ r5) + ByteArray.size ⟨#[41]⟩ ≤ lim then
 some ((((⟨#[33]⟩ ++ l2.2.1) ++ ⟨#[40]⟩) ++ r5) ++ ⟨#[41]⟩)
 else
 none
 else
 none
 else
 none
 else
 none
 else
 if ByteArray.size l2.2.1 + ByteArray.size ⟨#[40]⟩ ≤ lim then
 (impl_Rule_expTexts.F n r1 l2.2.2).bind fun r6 =>
 if ByteArray.size (l2.2.1 ++ ⟨#[40]⟩) + ByteArray.size r6 ≤ lim then
 if ByteArray.size ((l2.2.1 ++ ⟨#[40]⟩) ++ r6) + ByteArray.size ⟨#[41]⟩ ≤ lim then
 some (((l2.2.1 ++ ⟨#[40]⟩) ++ r6) ++ ⟨#[41]⟩)
 else
 none
 else
 none
 else
 none
noncomputable def code : Code := Try.f89.body.getD .skip
abbrev ash : List ASh := [.ro (.st (.pair (.sl (.st (.pair (.int .i64) (.pair (.str) (.sl (.int .i64)))))) (.pair (.st (.pair (.int .i64) (.pair (.str) (.sl (.int .i64))))) (.sl (.st (.pair (.int .i64) (.pair (.str) (.sl (.int .i64))))))))), .ro (.st (.pair (.int .i64) (.pair (.str) (.sl (.int .i64)))))]
abbrev rsh : List RSh := [.ro .str]
def ent (n : Nat) : FEnt := ⟨ash, rsh, fun v => F n v.1 v.2.1⟩
noncomputable def cx (n : Nat) : Ctx := mkCtx Try.prog TYS [(112, impl_Rule_expText.ent n), (113, impl_Rule_expTexts.ent n)]
noncomputable def d : FnD := ⟨code, 48, .nil, [(.tmp 4, .str, .ro)]⟩
def an : An := .seq .nil (.seq (.seq .nil (.block (some [2, 3]) (.seq .nil (.cond (.seq .nil .nil) (.seq .nil (.cond (.seq .nil .nil) .nil)))))) (.seq .nil .nil))
theorem ok (n : Nat) : EntOk Try.prog 89 (ent n) :=
 ent_ok0 (c := cx n) (e := ent n) (d := d) (CO _) (mkCtx_ok (mem_cons (impl_Rule_expText.ok n) (mem_cons (impl_Rule_expTexts.ok n) mem_nil))) (MX _) an Try.func89 (by kernel_rfl) (by kernel_rfl) (fun v => by kernel_rfl)
end impl_Rule_litText
namespace impl_ruleText
def l0 (n : Nat) (out4 : ByteArray) (t5 : List (Int × ByteArray × List Int)) (t6 : Int) (r8 : (List (Int × ByteArray × List Int)) × (Int × ByteArray × List Int) × List (Int × ByteArray × List Int)) (K0 : (List ByteArray) → Option ByteArray) : Nat → Int → (List ByteArray) → Option ByteArray
 | 0, _, _ => none
 | k + 1, t7, body9 =>
 if decide (t7 < t6) = true then
 if (0 : Int) ≤ t7 ∧ t7 < (List.length t5 : Int) then
 (impl_Rule_litText.F n r8 (List.getD t5 (Int.toNat t7) (0, (ByteArray.empty, [])))).bind fun r10 =>
 if List.length body9 + List.length [r10] ≤ lim then
 l0 n out4 t5 t6 r8 K0 k (IntKind.i64.wrap (t7 + 1)) (body9 ++ [r10])
 else
 none
 else
 none
 else
 K0 body9
def F (n : Nat) (r1 : (List (Int × ByteArray × List Int)) × (Int × ByteArray × List Int) × List (Int × ByteArray × List Int)) : Option ByteArray :=
 (impl_isFormed.F n r1).bind fun r2 =>
 if (!r2) = true then
 some ByteArray.empty
 else
 (impl_Rule_litText.F n r1 r1.2.1).bind fun r3 =>
 l0 n r3 r1.2.2 (List.length r1.2.2 : Int) r1 (fun body11 =>
 if decide ((List.length body11 : Int) > 0) = true then
 (strings_Join.F n body11 ⟨#[44, 32]⟩).bind fun r12 =>
 if ByteArray.size ⟨#[32, 58, 45, 32]⟩ + ByteArray.size r12 ≤ lim then
 if ByteArray.size r3 + ByteArray.size (⟨#[32, 58, 45, 32]⟩ ++ r12) ≤ lim then
 if ByteArray.size (r3 ++ (⟨#[32, 58, 45, 32]⟩ ++ r12)) + ByteArray.size ⟨#[46]⟩ ≤ lim then
 if decide ((ByteArray.size ((r3 ++ (⟨#[32, 58, 45, 32]⟩ ++ r12)) ++ ⟨#[46]⟩) : Int) > 3000) = true then
 some ByteArray.empty
 else
 some ((r3 ++ (⟨#[32, 58, 45, 32]⟩ ++ r12)) ++ ⟨#[46]⟩)
 else
 none
 else
 none
 else
 none
 else
 if ByteArray.size r3 + ByteArray.size ⟨#[46]⟩ ≤ lim then
 if decide ((ByteArray.size (r3 ++ ⟨#[46]⟩) : Int) > 3000) = true then
 some ByteArray.empty
 else
 some (r3 ++ ⟨#[46]⟩)
 else
 none) n 0 []
noncomputable def code : Code := Try.f77.body.getD .skip
abbrev ash : List ASh := [.ro (.st (.pair (.sl (.st (.pair (.int .i64) (.pair (.str) (.sl (.int .i64)))))) (.pair (.st (.pair (.int .i64) (.pair (.str) (.sl (.int .i64))))) (.sl (.st (.pair (.int .i64) (.pair (.str) (.sl (.int .i64)))))))))]
abbrev rsh : List RSh := [.ro .str]
def ent (n : Nat) : FEnt := ⟨ash, rsh, fun v => F n v.1⟩
noncomputable def cx (n : Nat) : Ctx := mkCtx Try.prog TYS [(88, impl_isFormed.ent n), (89, impl_Rule_litText.ent n), (90, strings_Join.ent n)]
noncomputable def d : FnD := ⟨code, 43, .nil, [(.tmp 2, .str, .ro)]⟩
noncomputable def kr (n : Nat) (v : AVs ash) : KN rsh := endK (cx n) d (avEnc ash v) (rvDec rsh)
noncomputable def b0 : Code := Code.l (Code.l (Code.r (Code.l (Code.r (Code.r (Code.r (Code.r code)))))))
def an : An := .seq .nil (.seq (.seq .nil (.cond (.seq .nil .nil) .nil)) (.seq .nil (.seq (.reg [(14, .own .ro)]) (.seq (.seq .nil (.block (some [3, 4]) (.cut 0 [1, 3, 4, 16, 17, 18]))) (.seq (.seq .nil (.cond .nil .nil)) (.seq (.seq .nil (.seq .nil (.cond (.seq .nil .nil) .nil))) (.seq .nil .nil)))))))
def an0 : An := .seq .nil (.seq (.cond .nil .nil) (.seq (.block (some [1, 3, 4, 16, 17, 18]) (.seq .nil .nil)) .nil))
abbrev sh0 : ES := ⟨[(1, .pt 1 []), (3, .v .str), (4, .al 4 []), (16, .v (.sl (.st (.pair (.int .i64) (.pair (.str) (.sl (.int .i64))))))), (17, .v (.int .i64)), (18, .v (.int .i64))], [⟨1, .st (.pair (.sl (.st (.pair (.int .i64) (.pair (.str) (.sl (.int .i64)))))) (.pair (.st (.pair (.int .i64) (.pair (.str) (.sl (.int .i64))))) (.sl (.st (.pair (.int .i64) (.pair (.str) (.sl (.int .i64)))))))), .ro, true, false, none⟩, ⟨4, .sl (.str), .own .ro, false, false, none⟩]⟩
abbrev sh0_0 : ES := ⟨[(3, .v .str), (4, .al 4 [])], [⟨4, .sl (.str), .own .ro, false, false, none⟩]⟩
def g0 (n m : Nat) (x : sh0.V) (kn : KN rsh) (kx : KX rsh) : Option (RVs rsh) := l0 n x.1.2.1 x.1.2.2.2.1 x.1.2.2.2.2.1 x.2.1 (fun y0 => kx 0 (sh0_0.enc ((x.1.2.1, (()), ()), (y0, ())))) m x.1.2.2.2.2.2.1 x.2.2.1
def T (n : Nat) : Tab (RVs rsh) := fun j e kn kx => match j with
 | 0 => ES.on sh0 e fun x => g0 n n x kn kx
 | _ => none
theorem mk (n : Nat) : MOk (cx n) := mkCtx_ok (mem_cons (impl_isFormed.ok n) (mem_cons (impl_Rule_litText.ok n) (mem_cons (strings_Join.ok n) mem_nil)))
theorem u0 (n : Nat) (v : AVs ash) : UnitOk (cx n) 43 (T n) (kr n v) 0 (.loop b0) :=
 loop_u (n := n) (CO _) (mk n) (MX _) an0 [(0, [3, 4])] [1, 3, 4, 16, 17, 18] sh0 (g0 n) (fun _ _ _ => rfl) (fun _ _ _ => rfl) (fun m x kn kx => by kernel_rfl) (l := []) (by kernel_rfl) (mem_nil)
theorem ok (n : Nat) : EntOk Try.prog 77 (ent n) :=
 ent_okU (c := cx n) (e := ent n) (d := d) (CO _) (mk n) (MX _) an Try.func77 (by kernel_rfl) (T n) (l := [(0, .loop b0)]) (by kernel_rfl) (fun v => mem_cons (u0 n v) mem_nil) (fun v => by kernel_rfl)
end impl_ruleText
namespace impl_hasForm
def F (n : Nat) (r1 : (List (Int × ByteArray × List Int)) × (Int × ByteArray × List Int) × List (Int × ByteArray × List Int)) : Option Bool :=
 (impl_ruleText.F n r1).bind fun r2 =>
 some (!(Abs.seq r2 ByteArray.empty))
noncomputable def code : Code := Try.f54.body.getD .skip
abbrev ash : List ASh := [.ro (.st (.pair (.sl (.st (.pair (.int .i64) (.pair (.str) (.sl (.int .i64)))))) (.pair (.st (.pair (.int .i64) (.pair (.str) (.sl (.int .i64))))) (.sl (.st (.pair (.int .i64) (.pair (.str) (.sl (.int .i64)))))))))]
abbrev rsh : List RSh := [.ro .bool]
def ent (n : Nat) : FEnt := ⟨ash, rsh, fun v => F n v.1⟩
noncomputable def cx (n : Nat) : Ctx := mkCtx Try.prog TYS [(77, impl_ruleText.ent n)]
noncomputable def d : FnD := ⟨code, 6, .nil, [(.tmp 2, .bool, .ro)]⟩
def an : An := .seq .nil (.seq .nil .nil)
theorem ok (n : Nat) : EntOk Try.prog 54 (ent n) :=
 ent_ok0 (c := cx n) (e := ent n) (d := d) (CO _) (mkCtx_ok (mem_cons (impl_ruleText.ok n) mem_nil)) (MX _) an Try.func54 (by kernel_rfl) (by kernel_rfl) (fun v => by kernel_rfl)
end impl_hasForm
namespace slices_IndexFunc_Lit_Lit
def l0 (n : Nat) (s3 : List (Int × ByteArray × List Int)) (f4 : ((Int × ByteArray × List Int) × Unit) → Option Bool) (t5 : Int) (K0 : Unit → Option Int) : Nat → Int → Option Int
 | 0, _ => none
 | k + 1, t6 =>
 if decide (t6 < t5) = true then
 if (0 : Int) ≤ t6 ∧ t6 < (List.length s3 : Int) then
 (f4 (List.getD s3 (Int.toNat t6) (0, (ByteArray.empty, [])), ())).bind fun r7 =>
 if r7 = true then
 some t6
 else
 l0 n s3 f4 t5 K0 k (IntKind.i64.wrap (t6 + 1))
 else
 none
 else
 K0 ()
def F (n : Nat) (s1 : List (Int × ByteArray × List Int)) (f2 : ((Int × ByteArray × List Int) × Unit) → Option Bool) : Option Int :=
 l0 n s1 f2 (List.length s1 : Int) (fun _ =>
 some (-1)) n 0
noncomputable def code : Code := Try.f78.body.getD .skip
abbrev ash : List ASh := [.ro (.sl (.st (.pair (.int .i64) (.pair (.str) (.sl (.int .i64)))))), .fn [.st (.pair (.int .i64) (.pair (.str) (.sl (.int .i64))))] .bool]
abbrev rsh : List RSh := [.ro (.int .i64)]
def ent (n : Nat) : FEnt := ⟨ash, rsh, fun v => F n v.1 v.2.1⟩
noncomputable def cx (n : Nat) : Ctx := mkCtx Try.prog TYS []
noncomputable def d : FnD := ⟨code, 19, .nil, [(.tmp 4, .int .i64, .ro)]⟩
noncomputable def kr (n : Nat) (v : AVs ash) : KN rsh := endK (cx n) d (avEnc ash v) (rvDec rsh)
noncomputable def b0 : Code := Code.l (Code.l (Code.r (Code.l (Code.r code))))
def an : An := .seq .nil (.seq (.seq .nil (.block (some []) (.cut 0 [0, 1, 7, 8]))) (.seq .nil .nil))
def an0 : An := .seq .nil (.seq (.cond .nil .nil) (.seq (.block (some [0, 1, 7, 8]) (.seq .nil (.seq .nil (.cond (.seq .nil .nil) .nil)))) .nil))
abbrev sh0 : ES := ⟨[(0, .v (.sl (.st (.pair (.int .i64) (.pair (.str) (.sl (.int .i64))))))), (1, .clo [.st (.pair (.int .i64) (.pair (.str) (.sl (.int .i64))))] .bool), (7, .v (.int .i64)), (8, .v (.int .i64))], []⟩
abbrev sh0_0 : ES := ⟨[], []⟩
def g0 (n m : Nat) (x : sh0.V) (kn : KN rsh) (kx : KX rsh) : Option (RVs rsh) := l0 n x.1.1 x.1.2.1 x.1.2.2.1 (fun _ => kx 0 (sh0_0.enc ((()), (())))) m x.1.2.2.2.1
def T (n : Nat) : Tab (RVs rsh) := fun j e kn kx => match j with
 | 0 => ES.on sh0 e fun x => g0 n n x kn kx
 | _ => none
theorem mk (n : Nat) : MOk (cx n) := mkCtx_ok (mem_nil)
theorem u0 (n : Nat) (v : AVs ash) : UnitOk (cx n) 19 (T n) (kr n v) 0 (.loop b0) :=
 loop_u (n := n) (CO _) (mk n) (MX _) an0 [(0, [])] [0, 1, 7, 8] sh0 (g0 n) (fun _ _ _ => rfl) (fun _ _ _ => rfl) (fun m x kn kx => by kernel_rfl) (l := []) (by kernel_rfl) (mem_nil)
theorem ok (n : Nat) : EntOk Try.prog 78 (ent n) :=
 ent_okU (c := cx n) (e := ent n) (d := d) (CO _) (mk n) (MX _) an Try.func78 (by kernel_rfl) (T n) (l := [(0, .loop b0)]) (by kernel_rfl) (fun v => mem_cons (u0 n v) mem_nil) (fun v => by kernel_rfl)
end slices_IndexFunc_Lit_Lit
namespace slices_ContainsFunc_Lit_Lit
def F (n : Nat) (s1 : List (Int × ByteArray × List Int)) (f2 : ((Int × ByteArray × List Int) × Unit) → Option Bool) : Option Bool :=
 (slices_IndexFunc_Lit_Lit.F n s1 f2).bind fun r3 =>
 some (decide (r3 ≥ 0))
noncomputable def code : Code := Try.f55.body.getD .skip
abbrev ash : List ASh := [.ro (.sl (.st (.pair (.int .i64) (.pair (.str) (.sl (.int .i64)))))), .fn [.st (.pair (.int .i64) (.pair (.str) (.sl (.int .i64))))] .bool]
abbrev rsh : List RSh := [.ro .bool]
def ent (n : Nat) : FEnt := ⟨ash, rsh, fun v => F n v.1 v.2.1⟩
noncomputable def cx (n : Nat) : Ctx := mkCtx Try.prog TYS [(78, slices_IndexFunc_Lit_Lit.ent n)]
noncomputable def d : FnD := ⟨code, 9, .nil, [(.tmp 4, .bool, .ro)]⟩
def an : An := .seq .nil (.seq .nil .nil)
theorem ok (n : Nat) : EntOk Try.prog 55 (ent n) :=
 ent_ok0 (c := cx n) (e := ent n) (d := d) (CO _) (mkCtx_ok (mem_cons (slices_IndexFunc_Lit_Lit.ok n) mem_nil)) (MX _) an Try.func55 (by kernel_rfl) (by kernel_rfl) (fun v => by kernel_rfl)
end slices_ContainsFunc_Lit_Lit
namespace impl_isPlain_1
def F (n : Nat) (l1 : Int × ByteArray × List Int) : Option Bool :=
 some (!decide (l1.1 = 1))
noncomputable def code : Code := Try.f56.body.getD .skip
abbrev ash : List ASh := [.ro (.st (.pair (.int .i64) (.pair (.str) (.sl (.int .i64)))))]
abbrev rsh : List RSh := [.ro .bool]
def ent (n : Nat) : FEnt := ⟨ash, rsh, fun v => F n v.1⟩
noncomputable def cx (n : Nat) : Ctx := mkCtx Try.prog TYS []
noncomputable def d : FnD := ⟨code, 6, .nil, [(.tmp 2, .bool, .ro)]⟩
def an : An := .seq .nil (.seq .nil .nil)
theorem ok (n : Nat) : EntOk Try.prog 56 (ent n) :=
 ent_ok0 (c := cx n) (e := ent n) (d := d) (CO _) (mkCtx_ok (mem_nil)) (MX _) an Try.func56 (by kernel_rfl) (by kernel_rfl) (fun v => by kernel_rfl)
end impl_isPlain_1
namespace slices_IndexFunc_Exp_Exp
def l0 (n : Nat) (s3 : List (Int × ByteArray × List Int)) (f4 : ((Int × ByteArray × List Int) × Unit) → Option Bool) (t5 : Int) (K0 : Unit → Option Int) : Nat → Int → Option Int
 | 0, _ => none
 | k + 1, t6 =>
 if decide (t6 < t5) = true then
 if (0 : Int) ≤ t6 ∧ t6 < (List.length s3 : Int) then
 (f4 (List.getD s3 (Int.toNat t6) (0, (ByteArray.empty, [])), ())).bind fun r7 =>
 if r7 = true then
 some t6
 else
 l0 n s3 f4 t5 K0 k (IntKind.i64.wrap (t6 + 1))
 else
 none
 else
 K0 ()
def F (n : Nat) (s1 : List (Int × ByteArray × List Int)) (f2 : ((Int × ByteArray × List Int) × Unit) → Option Bool) : Option Int :=
 l0 n s1 f2 (List.length s1 : Int) (fun _ =>
 some (-1)) n 0
noncomputable def code : Code := Try.f79.body.getD .skip
abbrev ash : List ASh := [.ro (.sl (.st (.pair (.int .i64) (.pair (.str) (.sl (.int .i64)))))), .fn [.st (.pair (.int .i64) (.pair (.str) (.sl (.int .i64))))] .bool]
abbrev rsh : List RSh := [.ro (.int .i64)]
def ent (n : Nat) : FEnt := ⟨ash, rsh, fun v => F n v.1 v.2.1⟩
noncomputable def cx (n : Nat) : Ctx := mkCtx Try.prog TYS []
noncomputable def d : FnD := ⟨code, 19, .nil, [(.tmp 4, .int .i64, .ro)]⟩
noncomputable def kr (n : Nat) (v : AVs ash) : KN rsh := endK (cx n) d (avEnc ash v) (rvDec rsh)
noncomputable def b0 : Code := Code.l (Code.l (Code.r (Code.l (Code.r code))))
def an : An := .seq .nil (.seq (.seq .nil (.block (some []) (.cut 0 [0, 1, 7, 8]))) (.seq .nil .nil))
def an0 : An := .seq .nil (.seq (.cond .nil .nil) (.seq (.block (some [0, 1, 7, 8]) (.seq .nil (.seq .nil (.cond (.seq .nil .nil) .nil)))) .nil))
abbrev sh0 : ES := ⟨[(0, .v (.sl (.st (.pair (.int .i64) (.pair (.str) (.sl (.int .i64))))))), (1, .clo [.st (.pair (.int .i64) (.pair (.str) (.sl (.int .i64))))] .bool), (7, .v (.int .i64)), (8, .v (.int .i64))], []⟩
abbrev sh0_0 : ES := ⟨[], []⟩
def g0 (n m : Nat) (x : sh0.V) (kn : KN rsh) (kx : KX rsh) : Option (RVs rsh) := l0 n x.1.1 x.1.2.1 x.1.2.2.1 (fun _ => kx 0 (sh0_0.enc ((()), (())))) m x.1.2.2.2.1
def T (n : Nat) : Tab (RVs rsh) := fun j e kn kx => match j with
 | 0 => ES.on sh0 e fun x => g0 n n x kn kx
 | _ => none
theorem mk (n : Nat) : MOk (cx n) := mkCtx_ok (mem_nil)
theorem u0 (n : Nat) (v : AVs ash) : UnitOk (cx n) 19 (T n) (kr n v) 0 (.loop b0) :=
 loop_u (n := n) (CO _) (mk n) (MX _) an0 [(0, [])] [0, 1, 7, 8] sh0 (g0 n) (fun _ _ _ => rfl) (fun _ _ _ => rfl) (fun m x kn kx => by kernel_rfl) (l := []) (by kernel_rfl) (mem_nil)
theorem ok (n : Nat) : EntOk Try.prog 79 (ent n) :=
 ent_okU (c := cx n) (e := ent n) (d := d) (CO _) (mk n) (MX _) an Try.func79 (by kernel_rfl) (T n) (l := [(0, .loop b0)]) (by kernel_rfl) (fun v => mem_cons (u0 n v) mem_nil) (fun v => by kernel_rfl)
end slices_IndexFunc_Exp_Exp
namespace slices_ContainsFunc_Exp_Exp
def F (n : Nat) (s1 : List (Int × ByteArray × List Int)) (f2 : ((Int × ByteArray × List Int) × Unit) → Option Bool) : Option Bool :=
 (slices_IndexFunc_Exp_Exp.F n s1 f2).bind fun r3 =>
 some (decide (r3 ≥ 0))
noncomputable def code : Code := Try.f57.body.getD .skip
abbrev ash : List ASh := [.ro (.sl (.st (.pair (.int .i64) (.pair (.str) (.sl (.int .i64)))))), .fn [.st (.pair (.int .i64) (.pair (.str) (.sl (.int .i64))))] .bool]
abbrev rsh : List RSh := [.ro .bool]
def ent (n : Nat) : FEnt := ⟨ash, rsh, fun v => F n v.1 v.2.1⟩
noncomputable def cx (n : Nat) : Ctx := mkCtx Try.prog TYS [(79, slices_IndexFunc_Exp_Exp.ent n)]
noncomputable def d : FnD := ⟨code, 9, .nil, [(.tmp 4, .bool, .ro)]⟩
def an : An := .seq .nil (.seq .nil .nil)
theorem ok (n : Nat) : EntOk Try.prog 57 (ent n) :=
 ent_ok0 (c := cx n) (e := ent n) (d := d) (CO _) (mkCtx_ok (mem_cons (slices_IndexFunc_Exp_Exp.ok n) mem_nil)) (MX _) an Try.func57 (by kernel_rfl) (by kernel_rfl) (fun v => by kernel_rfl)
end slices_ContainsFunc_Exp_Exp
namespace impl_isPlain_2
def F (n : Nat) (e1 : Int × ByteArray × List Int) : Option Bool :=
 if (!decide (e1.1 = 1)) = true then
 some (!decide (e1.1 = 3))
 else
 some false
noncomputable def code : Code := Try.f58.body.getD .skip
abbrev ash : List ASh := [.ro (.st (.pair (.int .i64) (.pair (.str) (.sl (.int .i64)))))]
abbrev rsh : List RSh := [.ro .bool]
def ent (n : Nat) : FEnt := ⟨ash, rsh, fun v => F n v.1⟩
noncomputable def cx (n : Nat) : Ctx := mkCtx Try.prog TYS []
noncomputable def d : FnD := ⟨code, 11, .nil, [(.tmp 2, .bool, .ro)]⟩
def an : An := .seq .nil (.seq .nil .nil)
theorem ok (n : Nat) : EntOk Try.prog 58 (ent n) :=
 ent_ok0 (c := cx n) (e := ent n) (d := d) (CO _) (mkCtx_ok (mem_nil)) (MX _) an Try.func58 (by kernel_rfl) (by kernel_rfl) (fun v => by kernel_rfl)
end impl_isPlain_2
namespace impl_isPlain_3
def F (n : Nat) (a1 : Int) (t2 : (List (Int × ByteArray × List Int)) × (Int × ByteArray × List Int) × List (Int × ByteArray × List Int)) (t3 : List (ByteArray × Bool)) : Option Bool :=
 if (0 : Int) ≤ a1 ∧ a1 < (List.length t2.1 : Int) then
 if (decide (((List.getD t2.1 (Int.toNat a1) (0, (ByteArray.empty, []))).1) = 1)) = true then
 if (0 : Int) ≤ a1 ∧ a1 < (List.length t2.1 : Int) then
 let w4 : Option Bool := mget .str .bool t3 (((List.getD t2.1 (Int.toNat a1) (0, (ByteArray.empty, []))).2).1)
 some (!(Option.getD w4 false))
 else
 none
 else
 some false
 else
 none
noncomputable def code : Code := Try.f60.body.getD .skip
abbrev ash : List ASh := [.ro (.int .i64), .rp (.st (.pair (.sl (.st (.pair (.int .i64) (.pair (.str) (.sl (.int .i64)))))) (.pair (.st (.pair (.int .i64) (.pair (.str) (.sl (.int .i64))))) (.sl (.st (.pair (.int .i64) (.pair (.str) (.sl (.int .i64))))))))), .rp (.mp (.str) (.bool))]
abbrev rsh : List RSh := [.ro .bool]
def ent (n : Nat) : FEnt := ⟨ash, rsh, fun v => F n v.1 v.2.1 v.2.2.1⟩
noncomputable def cx (n : Nat) : Ctx := mkCtx Try.prog TYS []
noncomputable def d : FnD := ⟨code, 23, .nil, [(.tmp 4, .bool, .ro)]⟩
def an : An := .seq .nil (.seq .nil .nil)
theorem ok (n : Nat) : EntOk Try.prog 60 (ent n) :=
 ent_ok0 (c := cx n) (e := ent n) (d := d) (CO _) (mkCtx_ok (mem_nil)) (MX _) an Try.func60 (by kernel_rfl) (by kernel_rfl) (fun v => by kernel_rfl)
end impl_isPlain_3
namespace impl_isPlain
def l2 (n : Nat) (t13 : List (Int × ByteArray × List Int)) (t14 : Int) (t15 : Int) (t16 : List Int) (t17 : Int) (r19 : (List (Int × ByteArray × List Int)) × (Int × ByteArray × List Int) × List (Int × ByteArray × List Int)) (K2 : (List (ByteArray × Bool)) → Option Bool) : Nat → Int → (List (ByteArray × Bool)) → Option Bool
 | 0, _, _ => none
 | k + 1, t18, there20 =>
 if decide (t18 < t17) = true then
 if (0 : Int) ≤ t18 ∧ t18 < (List.length t16 : Int) then
 if (0 : Int) ≤ (List.getD t16 (Int.toNat t18) 0) ∧ (List.getD t16 (Int.toNat t18) 0) < (List.length r19.1 : Int) then
 if decide (((List.getD r19.1 (Int.toNat (List.getD t16 (Int.toNat t18) 0)) (0, (ByteArray.empty, []))).1) = 1) = true then
 if (0 : Int) ≤ (List.getD t16 (Int.toNat t18) 0) ∧ (List.getD t16 (Int.toNat t18) 0) < (List.length r19.1 : Int) then
 let w21 : List (ByteArray × Bool) := mput .str .bool there20 (((List.getD r19.1 (Int.toNat (List.getD t16 (Int.toNat t18) 0)) (0, (ByteArray.empty, []))).2).1) true
 l2 n t13 t14 t15 t16 t17 r19 K2 k (IntKind.i64.wrap (t18 + 1)) w21
 else
 none
 else
 l2 n t13 t14 t15 t16 t17 r19 K2 k (IntKind.i64.wrap (t18 + 1)) there20
 else
 none
 else
 none
 else
 K2 there20
def l1 (n : Nat) (t8 : List (Int × ByteArray × List Int)) (t9 : Int) (r11 : (List (Int × ByteArray × List Int)) × (Int × ByteArray × List Int) × List (Int × ByteArray × List Int)) (K0 : (List (ByteArray × Bool)) → Option Bool) : Nat → Int → (List (ByteArray × Bool)) → Option Bool
 | 0, _, _ => none
 | k + 1, t10, there12 =>
 if decide (t10 < t9) = true then
 if (0 : Int) ≤ t10 ∧ t10 < (List.length t8 : Int) then
 l2 n t8 t9 t10 (((List.getD t8 (Int.toNat t10) (0, (ByteArray.empty, []))).2).2) (List.length (((List.getD t8 (Int.toNat t10) (0, (ByteArray.empty, []))).2).2) : Int) r11 (fun there22 =>
 l1 n t8 t9 r11 K0 k (IntKind.i64.wrap (t10 + 1)) there22) n 0 there12
 else
 none
 else
 K0 there12
def j0 (n : Nat) (r5 : (List (Int × ByteArray × List Int)) × (Int × ByteArray × List Int) × List (Int × ByteArray × List Int)) : Option Bool :=
 (slices_ContainsFunc_Exp_Exp.F n r5.1 (fun a6 => (impl_isPlain_2.F n a6.1).bind some)).bind fun r7 =>
 if r7 = true then
 some false
 else
 l1 n r5.2.2 (List.length r5.2.2 : Int) r5 (fun there23 =>
 (slices_ContainsFunc_int_int.F n r5.2.1.2.2 (fun a24 => (impl_isPlain_3.F n a24.1 r5 there23).bind some)).bind fun r25 =>
 some (!r25)) n 0 []
def F (n : Nat) (r1 : (List (Int × ByteArray × List Int)) × (Int × ByteArray × List Int) × List (Int × ByteArray × List Int)) : Option Bool :=
 (impl_hasForm.F n r1).bind fun r2 =>
 if (!r2) = false then
 if (decide ((List.length r1.2.2 : Int) > 6)) = false then
 (slices_ContainsFunc_Lit_Lit.F n r1.2.2 (fun a3 => (impl_isPlain_1.F n a3.1).bind some)).bind fun r4 =>
 if r4 = true then
 some false
 else
 j0 n r1
 else
 some false
 else
 some false
noncomputable def code : Code := Try.f32.body.getD .skip
abbrev ash : List ASh := [.ro (.st (.pair (.sl (.st (.pair (.int .i64) (.pair (.str) (.sl (.int .i64)))))) (.pair (.st (.pair (.int .i64) (.pair (.str) (.sl (.int .i64))))) (.sl (.st (.pair (.int .i64) (.pair (.str) (.sl (.int .i64)))))))))]
abbrev rsh : List RSh := [.ro .bool]
def ent (n : Nat) : FEnt := ⟨ash, rsh, fun v => F n v.1⟩
noncomputable def cx (n : Nat) : Ctx := mkCtx Try.prog TYS [(54, impl_hasForm.ent n), (55, slices_ContainsFunc_Lit_Lit.ent n), (56, impl_isPlain_1.ent n), (57, slices_ContainsFunc_Exp_Exp.ent n), (58, impl_isPlain_2.ent n), (59, slices_ContainsFunc_int_int.ent n), (60, impl_isPlain_3.ent n)]
noncomputable def d : FnD := ⟨code, 62, .nil, [(.tmp 2, .bool, .ro)]⟩
noncomputable def kr (n : Nat) (v : AVs ash) : KN rsh := endK (cx n) d (avEnc ash v) (rvDec rsh)
noncomputable def b2 : Code := Code.l (Code.l (Code.r (Code.r (Code.l (Code.l (Code.r (Code.r (Code.l (Code.l (Code.r (Code.l (Code.r (Code.r (Code.r (Code.r code)))))))))))))))
noncomputable def b1 : Code := Code.l (Code.l (Code.r (Code.l (Code.r (Code.r (Code.r (Code.r code)))))))
noncomputable def c0 : Code := (Code.r (Code.r code))
def an : An := .seq .nil (.seq (.seq .nil (.cond (.seq .nil .nil) .nil)) (.cut 0 [1]))
def an2 : An := .seq .nil (.seq (.cond .nil .nil) (.seq (.block (some [1, 3, 27, 28, 29, 34, 35, 36]) (.seq .nil (.seq .nil (.cond .nil .nil)))) .nil))
abbrev sh2 : ES := ⟨[(1, .pt 1 []), (3, .pt 3 []), (27, .v (.sl (.st (.pair (.int .i64) (.pair (.str) (.sl (.int .i64))))))), (28, .v (.int .i64)), (29, .v (.int .i64)), (34, .v (.sl (.int .i64))), (35, .v (.int .i64)), (36, .v (.int .i64))], [⟨1, .st (.pair (.sl (.st (.pair (.int .i64) (.pair (.str) (.sl (.int .i64)))))) (.pair (.st (.pair (.int .i64) (.pair (.str) (.sl (.int .i64))))) (.sl (.st (.pair (.int .i64) (.pair (.str) (.sl (.int .i64)))))))), .ro, true, false, none⟩, ⟨3, .mp (.str) (.bool), .own .ro, true, false, none⟩]⟩
abbrev sh2_2 : ES := ⟨[(1, .pt 1 []), (3, .pt 3 []), (27, .v (.sl (.st (.pair (.int .i64) (.pair (.str) (.sl (.int .i64))))))), (28, .v (.int .i64)), (29, .v (.int .i64))], [⟨1, .st (.pair (.sl (.st (.pair (.int .i64) (.pair (.str) (.sl (.int .i64)))))) (.pair (.st (.pair (.int .i64) (.pair (.str) (.sl (.int .i64))))) (.sl (.st (.pair (.int .i64) (.pair (.str) (.sl (.int .i64)))))))), .ro, true, false, none⟩, ⟨3, .mp (.str) (.bool), .own .ro, true, false, none⟩]⟩
def an1 : An := .seq .nil (.seq (.cond .nil .nil) (.seq (.block (some [1, 3, 27, 28, 29]) (.seq .nil (.seq .nil (.block (some [1, 3, 27, 28, 29]) (.cut 2 [1, 3, 27, 28, 29, 34, 35, 36]))))) .nil))
abbrev sh1 : ES := ⟨[(1, .pt 1 []), (3, .pt 3 []), (27, .v (.sl (.st (.pair (.int .i64) (.pair (.str) (.sl (.int .i64))))))), (28, .v (.int .i64)), (29, .v (.int .i64))], [⟨1, .st (.pair (.sl (.st (.pair (.int .i64) (.pair (.str) (.sl (.int .i64)))))) (.pair (.st (.pair (.int .i64) (.pair (.str) (.sl (.int .i64))))) (.sl (.st (.pair (.int .i64) (.pair (.str) (.sl (.int .i64)))))))), .ro, true, false, none⟩, ⟨3, .mp (.str) (.bool), .own .ro, true, false, none⟩]⟩
abbrev sh1_0 : ES := ⟨[(1, .pt 1 []), (3, .pt 3 [])], [⟨1, .st (.pair (.sl (.st (.pair (.int .i64) (.pair (.str) (.sl (.int .i64)))))) (.pair (.st (.pair (.int .i64) (.pair (.str) (.sl (.int .i64))))) (.sl (.st (.pair (.int .i64) (.pair (.str) (.sl (.int .i64)))))))), .ro, true, false, none⟩, ⟨3, .mp (.str) (.bool), .own .ro, true, false, none⟩]⟩
def an0 : An := .seq (.seq .nil (.cond (.seq .nil .nil) .nil)) (.seq (.reg [(25, .own .ro)]) (.seq (.seq .nil (.block (some [1, 3]) (.cut 1 [1, 3, 27, 28, 29]))) (.seq .nil .nil)))
abbrev sh0 : ES := ⟨[(1, .pt 1 [])], [⟨1, .st (.pair (.sl (.st (.pair (.int .i64) (.pair (.str) (.sl (.int .i64)))))) (.pair (.st (.pair (.int .i64) (.pair (.str) (.sl (.int .i64))))) (.sl (.st (.pair (.int .i64) (.pair (.str) (.sl (.int .i64)))))))), .ro, true, false, none⟩]⟩
def g2 (n m : Nat) (x : sh2.V) (kn : KN rsh) (kx : KX rsh) : Option (RVs rsh) := l2 n x.1.2.2.1 x.1.2.2.2.1 x.1.2.2.2.2.1 x.1.2.2.2.2.2.1 x.1.2.2.2.2.2.2.1 x.2.1 (fun y0 => kx 2 (sh2_2.enc (((()), (()), x.1.2.2.1, x.1.2.2.2.1, x.1.2.2.2.2.1, ()), (x.2.1, y0, ())))) m x.1.2.2.2.2.2.2.2.1 x.2.2.1
def g1 (n m : Nat) (x : sh1.V) (kn : KN rsh) (kx : KX rsh) : Option (RVs rsh) := l1 n x.1.2.2.1 x.1.2.2.2.1 x.2.1 (fun y0 => kx 0 (sh1_0.enc (((()), (()), ()), (x.2.1, y0, ())))) m x.1.2.2.2.2.1 x.2.2.1
def g0 (n m : Nat) (x : sh0.V) (kn : KN rsh) (kx : KX rsh) : Option (RVs rsh) := j0 n x.2.1
def T (n : Nat) : Tab (RVs rsh) := fun j e kn kx => match j with
 | 2 => ES.on sh2 e fun x => g2 n n x kn kx
 | 1 => ES.on sh1 e fun x => g1 n n x kn kx
 | 0 => ES.on sh0 e fun x => g0 n n x kn kx
 | _ => none
theorem mk (n : Nat) : MOk (cx n) := mkCtx_ok (mem_cons (impl_hasForm.ok n) (mem_cons (slices_ContainsFunc_Lit_Lit.ok n) (mem_cons (impl_isPlain_1.ok n) (mem_cons (slices_ContainsFunc_Exp_Exp.ok n) (mem_cons (impl_isPlain_2.ok n) (mem_cons (slices_ContainsFunc_int_int.ok n) (mem_cons (impl_isPlain_3.ok n) mem_nil)))))))
theorem u2 (n : Nat) (v : AVs ash) : UnitOk (cx n) 62 (T n) (kr n v) 2 (.loop b2) :=
 loop_u (n := n) (CO _) (mk n) (MX _) an2 [(0, [1, 3]), (1, [1, 3, 27, 28, 29]), (2, [1, 3, 27, 28, 29])] [1, 3, 27, 28, 29, 34, 35, 36] sh2 (g2 n) (fun _ _ _ => rfl) (fun _ _ _ => rfl) (fun m x kn kx => by kernel_rfl) (l := []) (by kernel_rfl) (mem_nil)
theorem u1 (n : Nat) (v : AVs ash) : UnitOk (cx n) 62 (T n) (kr n v) 1 (.loop b1) :=
 loop_u (n := n) (CO _) (mk n) (MX _) an1 [(0, [1, 3])] [1, 3, 27, 28, 29] sh1 (g1 n) (fun _ _ _ => rfl) (fun _ _ _ => rfl) (fun m x kn kx => by kernel_rfl) (l := [(2, .loop b2)]) (by kernel_rfl) (mem_cons (u2 n v) mem_nil)
theorem u0 (n : Nat) (v : AVs ash) : UnitOk (cx n) 62 (T n) (kr n v) 0 (c0) :=
 join_u (CO _) (mk n) (MX _) an0 [] [2] sh0 (g0 n n) (fun _ _ _ => rfl) (fun x kn kx => by kernel_rfl) (l := [(1, .loop b1)]) (by kernel_rfl) (mem_cons (u1 n v) mem_nil)
theorem ok (n : Nat) : EntOk Try.prog 32 (ent n) :=
 ent_okU (c := cx n) (e := ent n) (d := d) (CO _) (mk n) (MX _) an Try.func32 (by kernel_rfl) (T n) (l := [(0, c0)]) (by kernel_rfl) (fun v => mem_cons (u0 n v) mem_nil) (fun v => by kernel_rfl)
end impl_isPlain
namespace impl_becomes
def l1 (n : Nat) (t11 : List Int) (t12 : Int) (t15 : (List (Int × ByteArray × List Int)) × (Int × ByteArray × List Int) × List (Int × ByteArray × List Int)) (t16 : (List (Int × ByteArray × List Int)) × (Int × ByteArray × List Int) × List (Int × ByteArray × List Int)) (t17 : Int × ByteArray × List Int) (K0 : (List (ByteArray × Int × ByteArray × List Int)) → Option (Bool × List (ByteArray × Int × ByteArray × List Int))) : Nat → Int → (List (ByteArray × Int × ByteArray × List Int)) → Option (Bool × List (ByteArray × Int × ByteArray × List Int))
 | 0, _, _ => none
 | k + 1, t13, t14 =>
 if decide (t13 < t12) = true then
 if (0 : Int) ≤ t13 ∧ t13 < (List.length t11 : Int) then
 if (0 : Int) ≤ (List.getD t11 (Int.toNat t13) 0) ∧ (List.getD t11 (Int.toNat t13) 0) < (List.length t15.1 : Int) then
 if (0 : Int) ≤ t13 ∧ t13 < (List.length t17.2.2 : Int) then
 if (0 : Int) ≤ (List.getD t17.2.2 (Int.toNat t13) 0) ∧ (List.getD t17.2.2 (Int.toNat t13) 0) < (List.length t16.1 : Int) then
 if decide (((List.getD t15.1 (Int.toNat (List.getD t11 (Int.toNat t13) 0)) (0, (ByteArray.empty, []))).1) = 1) = true then
 let w18 : Option (Int × ByteArray × List Int) := mget .str (.st (.pair (.int .i64) (.pair (.str) (.sl (.int .i64))))) t14 (((List.getD t15.1 (Int.toNat (List.getD t11 (Int.toNat t13) 0)) (0, (ByteArray.empty, []))).2).1)
 if (!(Option.isSome w18)) = true then
 let w19 : List (ByteArray × Int × ByteArray × List Int) := mput .str (.st (.pair (.int .i64) (.pair (.str) (.sl (.int .i64))))) t14 (((List.getD t15.1 (Int.toNat (List.getD t11 (Int.toNat t13) 0)) (0, (ByteArray.empty, []))).2).1) (List.getD t16.1 (Int.toNat (List.getD t17.2.2 (Int.toNat t13) 0)) (0, (ByteArray.empty, [])))
 l1 n t11 t12 t15 t16 t17 K0 k (IntKind.i64.wrap (t13 + 1)) w19
 else
 if (!decide (((Option.getD w18 (0, (ByteArray.empty, []))).1) = ((List.getD t16.1 (Int.toNat (List.getD t17.2.2 (Int.toNat t13) 0)) (0, (ByteArray.empty, []))).1))) = false then
 if (!(Abs.seq (((Option.getD w18 (0, (ByteArray.empty, []))).2).1) (((List.getD t16.1 (Int.toNat (List.getD t17.2.2 (Int.toNat t13) 0)) (0, (ByteArray.empty, []))).2).1))) = true then
 some (false, t14)
 else
 l1 n t11 t12 t15 t16 t17 K0 k (IntKind.i64.wrap (t13 + 1)) t14
 else
 some (false, t14)
 else
 if (!decide (((List.getD t15.1 (Int.toNat (List.getD t11 (Int.toNat t13) 0)) (0, (ByteArray.empty, []))).1) = ((List.getD t16.1 (Int.toNat (List.getD t17.2.2 (Int.toNat t13) 0)) (0, (ByteArray.empty, []))).1))) = false then
 if (!(Abs.seq (((List.getD t15.1 (Int.toNat (List.getD t11 (Int.toNat t13) 0)) (0, (ByteArray.empty, []))).2).1) (((List.getD t16.1 (Int.toNat (List.getD t17.2.2 (Int.toNat t13) 0)) (0, (ByteArray.empty, []))).2).1))) = true then
 some (false, t14)
 else
 l1 n t11 t12 t15 t16 t17 K0 k (IntKind.i64.wrap (t13 + 1)) t14
 else
 some (false, t14)
 else
 none
 else
 none
 else
 none
 else
 none
 else
 K0 t14
def j0 (n : Nat) (t6 : List (ByteArray × Int × ByteArray × List Int)) (t7 : (List (Int × ByteArray × List Int)) × (Int × ByteArray × List Int) × List (Int × ByteArray × List Int)) (t8 : (List (Int × ByteArray × List Int)) × (Int × ByteArray × List Int) × List (Int × ByteArray × List Int)) (t9 : Int × ByteArray × List Int) (t10 : Int × ByteArray × List Int) : Option (Bool × List (ByteArray × Int × ByteArray × List Int)) :=
 l1 n t9.2.2 (List.length t9.2.2 : Int) t7 t8 t10 (fun t20 =>
 some (true, t20)) n 0 t6
def F (n : Nat) (t1 : (List (Int × ByteArray × List Int)) × (Int × ByteArray × List Int) × List (Int × ByteArray × List Int)) (t2 : (List (Int × ByteArray × List Int)) × (Int × ByteArray × List Int) × List (Int × ByteArray × List Int)) (t3 : Int × ByteArray × List Int) (t4 : Int × ByteArray × List Int) (t5 : List (ByteArray × Int × ByteArray × List Int)) : Option (Bool × List (ByteArray × Int × ByteArray × List Int)) :=
 if (!(Abs.seq t3.2.1 t4.2.1)) = false then
 if (!decide ((List.length t3.2.2 : Int) = (List.length t4.2.2 : Int))) = true then
 some (false, t5)
 else
 j0 n t5 t1 t2 t3 t4
 else
 some (false, t5)
noncomputable def code : Code := Try.f63.body.getD .skip
abbrev ash : List ASh := [.ro (.st (.pair (.sl (.st (.pair (.int .i64) (.pair (.str) (.sl (.int .i64)))))) (.pair (.st (.pair (.int .i64) (.pair (.str) (.sl (.int .i64))))) (.sl (.st (.pair (.int .i64) (.pair (.str) (.sl (.int .i64))))))))), .ro (.st (.pair (.sl (.st (.pair (.int .i64) (.pair (.str) (.sl (.int .i64)))))) (.pair (.st (.pair (.int .i64) (.pair (.str) (.sl (.int .i64))))) (.sl (.st (.pair (.int .i64) (.pair (.str) (.sl (.int .i64))))))))), .ro (.st (.pair (.int .i64) (.pair (.str) (.sl (.int .i64))))), .ro (.st (.pair (.int .i64) (.pair (.str) (.sl (.int .i64))))), .ms (.mp (.str) (.st (.pair (.int .i64) (.pair (.str) (.sl (.int .i64)))))) (.own .ro)]
abbrev rsh : List RSh := [.ro .bool, .out (.mp (.str) (.st (.pair (.int .i64) (.pair (.str) (.sl (.int .i64))))))]
def ent (n : Nat) : FEnt := ⟨ash, rsh, fun v => F n v.1 v.2.1 v.2.2.1 v.2.2.2.1 v.2.2.2.2.1⟩
noncomputable def cx (n : Nat) : Ctx := mkCtx Try.prog TYS []
noncomputable def d : FnD := ⟨code, 94, .nil, [(.tmp 10, .bool, .ro)]⟩
noncomputable def kr (n : Nat) (v : AVs ash) : KN rsh := endK (cx n) d (avEnc ash v) (rvDec rsh)
noncomputable def b1 : Code := Code.l (Code.l (Code.r (Code.l (Code.r (Code.r code)))))
noncomputable def c0 : Code := (Code.r (Code.r code))
def an : An := .seq .nil (.seq (.seq .nil (.cond (.seq .nil .nil) .nil)) (.cut 0 [4, 5, 6, 7, 8]))
def an1 : An := .seq .nil (.seq (.cond .nil .nil) (.seq (.block (some [4, 5, 6, 8, 32, 33, 34]) (.seq .nil (.seq .nil (.seq .nil (.cond (.seq .nil (.seq .nil (.cond .nil (.seq .nil (.cond (.seq .nil .nil) .nil))))) (.seq .nil (.cond (.seq .nil .nil) .nil))))))) .nil))
abbrev sh1 : ES := ⟨[(4, .al 4 []), (5, .pt 5 []), (6, .pt 6 []), (8, .pt 8 []), (32, .v (.sl (.int .i64))), (33, .v (.int .i64)), (34, .v (.int .i64))], [⟨4, .mp (.str) (.st (.pair (.int .i64) (.pair (.str) (.sl (.int .i64))))), .own .ro, false, true, none⟩, ⟨5, .st (.pair (.sl (.st (.pair (.int .i64) (.pair (.str) (.sl (.int .i64)))))) (.pair (.st (.pair (.int .i64) (.pair (.str) (.sl (.int .i64))))) (.sl (.st (.pair (.int .i64) (.pair (.str) (.sl (.int .i64)))))))), .ro, true, false, none⟩, ⟨6, .st (.pair (.sl (.st (.pair (.int .i64) (.pair (.str) (.sl (.int .i64)))))) (.pair (.st (.pair (.int .i64) (.pair (.str) (.sl (.int .i64))))) (.sl (.st (.pair (.int .i64) (.pair (.str) (.sl (.int .i64)))))))), .ro, true, false, none⟩, ⟨8, .st (.pair (.int .i64) (.pair (.str) (.sl (.int .i64)))), .ro, true, false, none⟩]⟩
abbrev sh1_0 : ES := ⟨[(4, .al 4 [])], [⟨4, .mp (.str) (.st (.pair (.int .i64) (.pair (.str) (.sl (.int .i64))))), .own .ro, false, true, none⟩]⟩
def an0 : An := .seq (.seq .nil (.block (some [4]) (.cut 1 [4, 5, 6, 8, 32, 33, 34]))) (.seq .nil .nil)
abbrev sh0 : ES := ⟨[(4, .al 4 []), (5, .pt 5 []), (6, .pt 6 []), (7, .pt 7 []), (8, .pt 8 [])], [⟨4, .mp (.str) (.st (.pair (.int .i64) (.pair (.str) (.sl (.int .i64))))), .own .ro, false, true, none⟩, ⟨5, .st (.pair (.sl (.st (.pair (.int .i64) (.pair (.str) (.sl (.int .i64)))))) (.pair (.st (.pair (.int .i64) (.pair (.str) (.sl (.int .i64))))) (.sl (.st (.pair (.int .i64) (.pair (.str) (.sl (.int .i64)))))))), .ro, true, false, none⟩, ⟨6, .st (.pair (.sl (.st (.pair (.int .i64) (.pair (.str) (.sl (.int .i64)))))) (.pair (.st (.pair (.int .i64) (.pair (.str) (.sl (.int .i64))))) (.sl (.st (.pair (.int .i64) (.pair (.str) (.sl (.int .i64)))))))), .ro, true, false, none⟩, ⟨7, .st (.pair (.int .i64) (.pair (.str) (.sl (.int .i64)))), .ro, true, false, none⟩, ⟨8, .st (.pair (.int .i64) (.pair (.str) (.sl (.int .i64)))), .ro, true, false, none⟩]⟩
def g1 (n m : Nat) (x : sh1.V) (kn : KN rsh) (kx : KX rsh) : Option (RVs rsh) := l1 n x.1.2.2.2.2.1 x.1.2.2.2.2.2.1 x.2.2.1 x.2.2.2.1 x.2.2.2.2.1 (fun y0 => kx 0 (sh1_0.enc (((()), ()), (y0, ())))) m x.1.2.2.2.2.2.2.1 x.2.1
def g0 (n m : Nat) (x : sh0.V) (kn : KN rsh) (kx : KX rsh) : Option (RVs rsh) := j0 n x.2.1 x.2.2.1 x.2.2.2.1 x.2.2.2.2.1 x.2.2.2.2.2.1
def T (n : Nat) : Tab (RVs rsh) := fun j e kn kx => match j with
 | 1 => ES.on sh1 e fun x => g1 n n x kn kx
 | 0 => ES.on sh0 e fun x => g0 n n x kn kx
 | _ => none
theorem mk (n : Nat) : MOk (cx n) := mkCtx_ok (mem_nil)
theorem u1 (n : Nat) (v : AVs ash) : UnitOk (cx n) 94 (T n) (kr n v) 1 (.loop b1) :=
 loop_u (n := n) (CO _) (mk n) (MX _) an1 [(0, [4])] [4, 5, 6, 8, 32, 33, 34] sh1 (g1 n) (fun _ _ _ => rfl) (fun _ _ _ => rfl) (fun m x kn kx => by kernel_rfl) (l := []) (by kernel_rfl) (mem_nil)
theorem u0 (n : Nat) (v : AVs ash) : UnitOk (cx n) 94 (T n) (kr n v) 0 (c0) :=
 join_u (CO _) (mk n) (MX _) an0 [] [4, 10] sh0 (g0 n n) (fun _ _ _ => rfl) (fun x kn kx => by kernel_rfl) (l := [(1, .loop b1)]) (by kernel_rfl) (mem_cons (u1 n v) mem_nil)
theorem ok (n : Nat) : EntOk Try.prog 63 (ent n) :=
 ent_okU (c := cx n) (e := ent n) (d := d) (CO _) (mk n) (MX _) an Try.func63 (by kernel_rfl) (T n) (l := [(0, c0)]) (by kernel_rfl) (fun v => mem_cons (u0 n v) mem_nil) (fun v => by kernel_rfl)
end impl_becomes
namespace impl_carries_1
def l0 (n : Nat) (self : Int → (List (ByteArray × Int × ByteArray × List Int)) → ((List (Int × ByteArray × List Int)) × (Int × ByteArray × List Int) × List (Int × ByteArray × List Int)) → ((List (Int × ByteArray × List Int)) × (Int × ByteArray × List Int) × List (Int × ByteArray × List Int)) → (Option (((List (Int × ByteArray × List Int)) × (Int × ByteArray × List Int) × List (Int × ByteArray × List Int)) × (List (Int × ByteArray × List Int)) × (Int × ByteArray × List Int) × List (Int × ByteArray × List Int))) → Option ((List (ByteArray × Int × ByteArray × List Int)) × Bool)) (k6 : Int) (t7 : (List (Int × ByteArray × List Int)) × (Int × ByteArray × List Int) × List (Int × ByteArray × List Int)) (t8 : (List (Int × ByteArray × List Int)) × (Int × ByteArray × List Int) × List (Int × ByteArray × List Int)) (t9 : Option (((List (Int × ByteArray × List Int)) × (Int × ByteArray × List Int) × List (Int × ByteArray × List Int)) × (List (Int × ByteArray × List Int)) × (Int × ByteArray × List Int) × List (Int × ByteArray × List Int))) (t10 : List (Int × ByteArray × List Int)) (t11 : Int) (K0 : Unit → Option ((List (ByteArray × Int × ByteArray × List Int)) × Bool)) : Nat → Int → (List (ByteArray × Int × ByteArray × List Int)) → Option ((List (ByteArray × Int × ByteArray × List Int)) × Bool)
 | 0, _, _ => none
 | k + 1, t12, put13 =>
 if decide (t12 < t11) = true then
 if (0 : Int) ≤ t12 ∧ t12 < (List.length t10 : Int) then
 (maps_Clone_map_string_Exp_string_Exp.F n put13).bind fun r14 =>
 if (0 : Int) ≤ k6 ∧ k6 < (List.length t7.2.2 : Int) then
 (impl_becomes.F n t7 t8 (List.getD t7.2.2 (Int.toNat k6) (0, (ByteArray.empty, []))) (List.getD t10 (Int.toNat t12) (0, (ByteArray.empty, []))) r14.1).bind fun r15 =>
 if (!r15.1) = true then
 l0 n self k6 t7 t8 t9 t10 t11 K0 k (IntKind.i64.wrap (t12 + 1)) r14.2
 else
 (t9).bind fun q16 =>
 (self (IntKind.i64.wrap (k6 + 1)) r15.2 q16.1 q16.2 (some q16)).bind fun r17 =>
 if r17.2 = true then
 some (r17.1, true)
 else
 l0 n self k6 t7 t8 t9 t10 t11 K0 k (IntKind.i64.wrap (t12 + 1)) r14.2
 else
 none
 else
 none
 else
 K0 ()
def G (n : Nat) (self : Int → (List (ByteArray × Int × ByteArray × List Int)) → ((List (Int × ByteArray × List Int)) × (Int × ByteArray × List Int) × List (Int × ByteArray × List Int)) → ((List (Int × ByteArray × List Int)) × (Int × ByteArray × List Int) × List (Int × ByteArray × List Int)) → (Option (((List (Int × ByteArray × List Int)) × (Int × ByteArray × List Int) × List (Int × ByteArray × List Int)) × (List (Int × ByteArray × List Int)) × (Int × ByteArray × List Int) × List (Int × ByteArray × List Int))) → Option ((List (ByteArray × Int × ByteArray × List Int)) × Bool)) (k1 : Int) (put2 : List (ByteArray × Int × ByteArray × List Int)) (t3 : (List (Int × ByteArray × List Int)) × (Int × ByteArray × List Int) × List (Int × ByteArray × List Int)) (t4 : (List (Int × ByteArray × List Int)) × (Int × ByteArray × List Int) × List (Int × ByteArray × List Int)) (t5 : Option (((List (Int × ByteArray × List Int)) × (Int × ByteArray × List Int) × List (Int × ByteArray × List Int)) × (List (Int × ByteArray × List Int)) × (Int × ByteArray × List Int) × List (Int × ByteArray × List Int))) : Option ((List (ByteArray × Int × ByteArray × List Int)) × Bool) :=
 if decide (k1 = (List.length t3.2.2 : Int)) = true then
 some (put2, true)
 else
 l0 n self k1 t3 t4 t5 t4.2.2 (List.length t4.2.2 : Int) (fun _ =>
 some ([], false)) n 0 put2
def F : Nat → Int → (List (ByteArray × Int × ByteArray × List Int)) → ((List (Int × ByteArray × List Int)) × (Int × ByteArray × List Int) × List (Int × ByteArray × List Int)) → ((List (Int × ByteArray × List Int)) × (Int × ByteArray × List Int) × List (Int × ByteArray × List Int)) → (Option (((List (Int × ByteArray × List Int)) × (Int × ByteArray × List Int) × List (Int × ByteArray × List Int)) × (List (Int × ByteArray × List Int)) × (Int × ByteArray × List Int) × List (Int × ByteArray × List Int))) → Option ((List (ByteArray × Int × ByteArray × List Int)) × Bool)
 | 0 => fun _ _ _ _ _ => none
 | n + 1 => G n (F n)
noncomputable def code : Code := Try.f64.body.getD .skip
abbrev ash : List ASh := [.ro (.int .i64), .mv (.mp (.str) (.st (.pair (.int .i64) (.pair (.str) (.sl (.int .i64)))))) (.own .ro), .rp (.st (.pair (.sl (.st (.pair (.int .i64) (.pair (.str) (.sl (.int .i64)))))) (.pair (.st (.pair (.int .i64) (.pair (.str) (.sl (.int .i64))))) (.sl (.st (.pair (.int .i64) (.pair (.str) (.sl (.int .i64))))))))), .rp (.st (.pair (.sl (.st (.pair (.int .i64) (.pair (.str) (.sl (.int .i64)))))) (.pair (.st (.pair (.int .i64) (.pair (.str) (.sl (.int .i64))))) (.sl (.st (.pair (.int .i64) (.pair (.str) (.sl (.int .i64))))))))), .rp (.fcell 64 (.st (.pair (.sl (.st (.pair (.int .i64) (.pair (.str) (.sl (.int .i64)))))) (.pair (.st (.pair (.int .i64) (.pair (.str) (.sl (.int .i64))))) (.sl (.st (.pair (.int .i64) (.pair (.str) (.sl (.int .i64))))))))) (.st (.pair (.sl (.st (.pair (.int .i64) (.pair (.str) (.sl (.int .i64)))))) (.pair (.st (.pair (.int .i64) (.pair (.str) (.sl (.int .i64))))) (.sl (.st (.pair (.int .i64) (.pair (.str) (.sl (.int .i64))))))))))]
abbrev rsh : List RSh := [.ro (.mp (.str) (.st (.pair (.int .i64) (.pair (.str) (.sl (.int .i64)))))), .ro .bool]
def ent (n : Nat) : FEnt := ⟨ash, rsh, fun v => F n v.1 v.2.1 v.2.2.1 v.2.2.2.1 v.2.2.2.2.1⟩
noncomputable def cx (n : Nat) : Ctx := mkCtx Try.prog TYS [(63, impl_becomes.ent n), (65, maps_Clone_map_string_Exp_string_Exp.ent n), (64, ent n)]
noncomputable def d : FnD := ⟨code, 51, .nil, [(.tmp 7, .mp (.str) (.st (.pair (.int .i64) (.pair (.str) (.sl (.int .i64))))), .ro), (.tmp 8, .bool, .ro)]⟩
noncomputable def kr (n : Nat) (v : AVs ash) : KN rsh := endK (cx n) d (avEnc ash v) (rvDec rsh)
noncomputable def b0 : Code := Code.l (Code.l (Code.r (Code.l (Code.r (Code.r code)))))
def an : An := .seq .nil (.seq (.seq .nil (.cond (.seq .nil .nil) .nil)) (.seq (.seq .nil (.block (some []) (.cut 0 [0, 1, 2, 3, 4, 21, 22, 23]))) (.seq .nil .nil)))
def an0 : An := .seq .nil (.seq (.cond .nil .nil) (.seq (.block (some [0, 1, 2, 3, 4, 21, 22, 23]) (.seq .nil (.seq (.reg [(28, .own .ro)]) (.seq (.seq .nil (.cond .nil .nil)) (.seq .nil (.seq .nil (.cond (.seq .nil .nil) .nil))))))) .nil))
abbrev sh0 : ES := ⟨[(0, .v (.int .i64)), (1, .al 1 []), (2, .rp (.st (.pair (.sl (.st (.pair (.int .i64) (.pair (.str) (.sl (.int .i64)))))) (.pair (.st (.pair (.int .i64) (.pair (.str) (.sl (.int .i64))))) (.sl (.st (.pair (.int .i64) (.pair (.str) (.sl (.int .i64)))))))))), (3, .rp (.st (.pair (.sl (.st (.pair (.int .i64) (.pair (.str) (.sl (.int .i64)))))) (.pair (.st (.pair (.int .i64) (.pair (.str) (.sl (.int .i64))))) (.sl (.st (.pair (.int .i64) (.pair (.str) (.sl (.int .i64)))))))))), (4, .rp (.fcell 64 (.st (.pair (.sl (.st (.pair (.int .i64) (.pair (.str) (.sl (.int .i64)))))) (.pair (.st (.pair (.int .i64) (.pair (.str) (.sl (.int .i64))))) (.sl (.st (.pair (.int .i64) (.pair (.str) (.sl (.int .i64))))))))) (.st (.pair (.sl (.st (.pair (.int .i64) (.pair (.str) (.sl (.int .i64)))))) (.pair (.st (.pair (.int .i64) (.pair (.str) (.sl (.int .i64))))) (.sl (.st (.pair (.int .i64) (.pair (.str) (.sl (.int .i64))))))))))), (21, .v (.sl (.st (.pair (.int .i64) (.pair (.str) (.sl (.int .i64))))))), (22, .v (.int .i64)), (23, .v (.int .i64))], [⟨1, .mp (.str) (.st (.pair (.int .i64) (.pair (.str) (.sl (.int .i64))))), .own .ro, false, false, none⟩]⟩
abbrev sh0_0 : ES := ⟨[], []⟩
def g0 (n m : Nat) (x : sh0.V) (kn : KN rsh) (kx : KX rsh) : Option (RVs rsh) := l0 n (F n) x.1.1 x.1.2.2.1 x.1.2.2.2.1 x.1.2.2.2.2.1 x.1.2.2.2.2.2.1 x.1.2.2.2.2.2.2.1 (fun _ => kx 0 (sh0_0.enc ((()), (())))) m x.1.2.2.2.2.2.2.2.1 x.2.1
def T (n : Nat) : Tab (RVs rsh) := fun j e kn kx => match j with
 | 0 => ES.on sh0 e fun x => g0 n n x kn kx
 | _ => none
theorem mk (n : Nat) (ih : EntOk Try.prog 64 (ent n)) : MOk (cx n) := mkCtx_ok (mem_cons (impl_becomes.ok n) (mem_cons (maps_Clone_map_string_Exp_string_Exp.ok n) (mem_cons ih mem_nil)))
theorem u0 (n : Nat) (v : AVs ash) (ih : EntOk Try.prog 64 (ent n)) : UnitOk (cx n) 51 (T n) (kr n v) 0 (.loop b0) :=
 loop_u (n := n) (CO _) (mk n ih) (MX _) an0 [(0, [])] [0, 1, 2, 3, 4, 21, 22, 23] sh0 (g0 n) (fun _ _ _ => rfl) (fun _ _ _ => rfl) (fun m x kn kx => by kernel_rfl) (l := []) (by kernel_rfl) (mem_nil)
theorem ok : (n : Nat) → EntOk Try.prog 64 (ent n)
 | 0 => ent_none Try.f64 (by kernel_rfl) (by kernel_rfl) (by kernel_rfl) (fun _ => rfl)
 | n + 1 => have ih := ok n
  ent_okU (c := cx n) (e := ent (n + 1)) (d := d) (CO _) (mk n ih) (MX _) an Try.func64 (by kernel_rfl) (T n) (l := [(0, .loop b0)]) (by kernel_rfl) (fun v => mem_cons (u0 n v ih) mem_nil) (fun v => by kernel_rfl)
end impl_carries_1
namespace slices_Index_string_string
def l0 (n : Nat) (s3 : List ByteArray) (v4 : ByteArray) (t5 : Int) (K0 : Unit → Option Int) : Nat → Int → Option Int
 | 0, _ => none
 | k + 1, t6 =>
 if decide (t6 < t5) = true then
 if (0 : Int) ≤ t6 ∧ t6 < (List.length s3 : Int) then
 if (Abs.seq v4 (List.getD s3 (Int.toNat t6) ByteArray.empty)) = true then
 some t6
 else
 l0 n s3 v4 t5 K0 k (IntKind.i64.wrap (t6 + 1))
 else
 none
 else
 K0 ()
def F (n : Nat) (s1 : List ByteArray) (v2 : ByteArray) : Option Int :=
 l0 n s1 v2 (List.length s1 : Int) (fun _ =>
 some (-1)) n 0
noncomputable def code : Code := Try.f91.body.getD .skip
abbrev ash : List ASh := [.ro (.sl (.str)), .ro .str]
abbrev rsh : List RSh := [.ro (.int .i64)]
def ent (n : Nat) : FEnt := ⟨ash, rsh, fun v => F n v.1 v.2.1⟩
noncomputable def cx (n : Nat) : Ctx := mkCtx Try.prog TYS []
noncomputable def d : FnD := ⟨code, 19, .nil, [(.tmp 4, .int .i64, .ro)]⟩
noncomputable def kr (n : Nat) (v : AVs ash) : KN rsh := endK (cx n) d (avEnc ash v) (rvDec rsh)
noncomputable def b0 : Code := Code.l (Code.l (Code.r (Code.l (Code.r code))))
def an : An := .seq .nil (.seq (.seq .nil (.block (some []) (.cut 0 [0, 1, 7, 8]))) (.seq .nil .nil))
def an0 : An := .seq .nil (.seq (.cond .nil .nil) (.seq (.block (some [0, 1, 7, 8]) (.seq .nil (.seq .nil (.cond (.seq .nil .nil) .nil)))) .nil))
abbrev sh0 : ES := ⟨[(0, .v (.sl (.str))), (1, .v .str), (7, .v (.int .i64)), (8, .v (.int .i64))], []⟩
abbrev sh0_0 : ES := ⟨[], []⟩
def g0 (n m : Nat) (x : sh0.V) (kn : KN rsh) (kx : KX rsh) : Option (RVs rsh) := l0 n x.1.1 x.1.2.1 x.1.2.2.1 (fun _ => kx 0 (sh0_0.enc ((()), (())))) m x.1.2.2.2.1
def T (n : Nat) : Tab (RVs rsh) := fun j e kn kx => match j with
 | 0 => ES.on sh0 e fun x => g0 n n x kn kx
 | _ => none
theorem mk (n : Nat) : MOk (cx n) := mkCtx_ok (mem_nil)
theorem u0 (n : Nat) (v : AVs ash) : UnitOk (cx n) 19 (T n) (kr n v) 0 (.loop b0) :=
 loop_u (n := n) (CO _) (mk n) (MX _) an0 [(0, [])] [0, 1, 7, 8] sh0 (g0 n) (fun _ _ _ => rfl) (fun _ _ _ => rfl) (fun m x kn kx => by kernel_rfl) (l := []) (by kernel_rfl) (mem_nil)
theorem ok (n : Nat) : EntOk Try.prog 91 (ent n) :=
 ent_okU (c := cx n) (e := ent n) (d := d) (CO _) (mk n) (MX _) an Try.func91 (by kernel_rfl) (T n) (l := [(0, .loop b0)]) (by kernel_rfl) (fun v => mem_cons (u0 n v) mem_nil) (fun v => by kernel_rfl)
end slices_Index_string_string
namespace slices_Contains_string_string
def F (n : Nat) (s1 : List ByteArray) (v2 : ByteArray) : Option Bool :=
 (slices_Index_string_string.F n s1 v2).bind fun r3 =>
 some (decide (r3 ≥ 0))
noncomputable def code : Code := Try.f82.body.getD .skip
abbrev ash : List ASh := [.ro (.sl (.str)), .ro .str]
abbrev rsh : List RSh := [.ro .bool]
def ent (n : Nat) : FEnt := ⟨ash, rsh, fun v => F n v.1 v.2.1⟩
noncomputable def cx (n : Nat) : Ctx := mkCtx Try.prog TYS [(91, slices_Index_string_string.ent n)]
noncomputable def d : FnD := ⟨code, 9, .nil, [(.tmp 4, .bool, .ro)]⟩
def an : An := .seq .nil (.seq .nil .nil)
theorem ok (n : Nat) : EntOk Try.prog 82 (ent n) :=
 ent_ok0 (c := cx n) (e := ent n) (d := d) (CO _) (mkCtx_ok (mem_cons (slices_Index_string_string.ok n) mem_nil)) (MX _) an Try.func82 (by kernel_rfl) (by kernel_rfl) (fun v => by kernel_rfl)
end slices_Contains_string_string
namespace impl_Rule_allVars
def l0 (n : Nat) (t2 : List (Int × ByteArray × List Int)) (t3 : Int) (K0 : (List ByteArray) → Option (List ByteArray)) : Nat → Int → (List ByteArray) → Option (List ByteArray)
 | 0, _, _ => none
 | k + 1, t4, out5 =>
 if decide (t4 < t3) = true then
 if (0 : Int) ≤ t4 ∧ t4 < (List.length t2 : Int) then
 if (decide (((List.getD t2 (Int.toNat t4) (0, (ByteArray.empty, []))).1) = 1)) = true then
 (slices_Contains_string_string.F n out5 (((List.getD t2 (Int.toNat t4) (0, (ByteArray.empty, []))).2).1)).bind fun r6 =>
 if (!r6) = true then
 if List.length out5 + List.length ([((List.getD t2 (Int.toNat t4) (0, (ByteArray.empty, []))).2).1] : List ByteArray) ≤ lim then
 l0 n t2 t3 K0 k (IntKind.i64.wrap (t4 + 1)) (out5 ++ [((List.getD t2 (Int.toNat t4) (0, (ByteArray.empty, []))).2).1])
 else
 none
 else
 l0 n t2 t3 K0 k (IntKind.i64.wrap (t4 + 1)) out5
 else
 l0 n t2 t3 K0 k (IntKind.i64.wrap (t4 + 1)) out5
 else
 none
 else
 K0 out5
def F (n : Nat) (r1 : (List (Int × ByteArray × List Int)) × (Int × ByteArray × List Int) × List (Int × ByteArray × List Int)) : Option (List ByteArray) :=
 l0 n r1.1 (List.length r1.1 : Int) (fun out7 =>
 some out7) n 0 []
noncomputable def code : Code := Try.f66.body.getD .skip
abbrev ash : List ASh := [.ro (.st (.pair (.sl (.st (.pair (.int .i64) (.pair (.str) (.sl (.int .i64)))))) (.pair (.st (.pair (.int .i64) (.pair (.str) (.sl (.int .i64))))) (.sl (.st (.pair (.int .i64) (.pair (.str) (.sl (.int .i64)))))))))]
abbrev rsh : List RSh := [.ro (.sl (.str))]
def ent (n : Nat) : FEnt := ⟨ash, rsh, fun v => F n v.1⟩
noncomputable def cx (n : Nat) : Ctx := mkCtx Try.prog TYS [(82, slices_Contains_string_string.ent n)]
noncomputable def d : FnD := ⟨code, 31, .nil, [(.tmp 2, .sl (.str), .ro)]⟩
noncomputable def kr (n : Nat) (v : AVs ash) : KN rsh := endK (cx n) d (avEnc ash v) (rvDec rsh)
noncomputable def b0 : Code := Code.l (Code.l (Code.r (Code.l (Code.r (Code.r code)))))
def an : An := .seq .nil (.seq (.reg [(6, .own .ro)]) (.seq (.seq .nil (.block (some [3]) (.cut 0 [3, 8, 9, 10]))) (.seq .nil .nil)))
def an0 : An := .seq .nil (.seq (.cond .nil .nil) (.seq (.block (some [3, 8, 9, 10]) (.seq .nil (.seq .nil (.cond .nil .nil)))) .nil))
abbrev sh0 : ES := ⟨[(3, .al 3 []), (8, .v (.sl (.st (.pair (.int .i64) (.pair (.str) (.sl (.int .i64))))))), (9, .v (.int .i64)), (10, .v (.int .i64))], [⟨3, .sl (.str), .own .ro, false, false, none⟩]⟩
abbrev sh0_0 : ES := ⟨[(3, .al 3 [])], [⟨3, .sl (.str), .own .ro, false, false, none⟩]⟩
def g0 (n m : Nat) (x : sh0.V) (kn : KN rsh) (kx : KX rsh) : Option (RVs rsh) := l0 n x.1.2.1 x.1.2.2.1 (fun y0 => kx 0 (sh0_0.enc (((()), ()), (y0, ())))) m x.1.2.2.2.1 x.2.1
def T (n : Nat) : Tab (RVs rsh) := fun j e kn kx => match j with
 | 0 => ES.on sh0 e fun x => g0 n n x kn kx
 | _ => none
theorem mk (n : Nat) : MOk (cx n) := mkCtx_ok (mem_cons (slices_Contains_string_string.ok n) mem_nil)
theorem u0 (n : Nat) (v : AVs ash) : UnitOk (cx n) 31 (T n) (kr n v) 0 (.loop b0) :=
 loop_u (n := n) (CO _) (mk n) (MX _) an0 [(0, [3])] [3, 8, 9, 10] sh0 (g0 n) (fun _ _ _ => rfl) (fun _ _ _ => rfl) (fun m x kn kx => by kernel_rfl) (l := []) (by kernel_rfl) (mem_nil)
theorem ok (n : Nat) : EntOk Try.prog 66 (ent n) :=
 ent_okU (c := cx n) (e := ent n) (d := d) (CO _) (mk n) (MX _) an Try.func66 (by kernel_rfl) (T n) (l := [(0, .loop b0)]) (by kernel_rfl) (fun v => mem_cons (u0 n v) mem_nil) (fun v => by kernel_rfl)
end impl_Rule_allVars
namespace impl_carries
def l0 (n : Nat) (whole7 : List (ByteArray × Int × ByteArray × List Int)) (t8 : List ByteArray) (t9 : Int) (t11 : (List ByteArray) × List ByteArray) (K0 : ((List ByteArray) × List ByteArray) → Option (((List ByteArray) × List ByteArray) × Bool)) : Nat → Int → ((List ByteArray) × List ByteArray) → Option (((List ByteArray) × List ByteArray) × Bool)
 | 0, _, _ => none
 | k + 1, t10, m12 =>
 if decide (t10 < t9) = true then
 if (0 : Int) ≤ t10 ∧ t10 < (List.length t8 : Int) then
 if List.length m12.1 + List.length [List.getD t8 (Int.toNat t10) ByteArray.empty] ≤ lim then
 let w13 : Option (Int × ByteArray × List Int) := mget .str (.st (.pair (.int .i64) (.pair (.str) (.sl (.int .i64))))) whole7 (List.getD t8 (Int.toNat t10) ByteArray.empty)
 if List.length m12.2 + List.length ([((Option.getD w13 (0, (ByteArray.empty, []))).2).1] : List ByteArray) ≤ lim then
 l0 n whole7 t8 t9 t11 K0 k (IntKind.i64.wrap (t10 + 1)) (m12.1 ++ [List.getD t8 (Int.toNat t10) ByteArray.empty], m12.2 ++ [((Option.getD w13 (0, (ByteArray.empty, []))).2).1])
 else
 none
 else
 none
 else
 none
 else
 K0 m12
def F (n : Nat) (a1 : (List (Int × ByteArray × List Int)) × (Int × ByteArray × List Int) × List (Int × ByteArray × List Int)) (b2 : (List (Int × ByteArray × List Int)) × (Int × ByteArray × List Int) × List (Int × ByteArray × List Int)) : Option (((List ByteArray) × List ByteArray) × Bool) :=
 (impl_becomes.F n a1 b2 a1.2.1 b2.2.1 []).bind fun r3 =>
 if (!r3.1) = true then
 some (([], []), false)
 else
 ((some (a1, b2))).bind fun q4 =>
 (impl_carries_1.F n 0 r3.2 q4.1 q4.2 (some q4)).bind fun r5 =>
 if (!r5.2) = true then
 some (([], []), false)
 else
 (impl_Rule_allVars.F n a1).bind fun r6 =>
 l0 n r5.1 r6 (List.length r6 : Int) ([], []) (fun m14 =>
 some (m14, true)) n 0 ([], [])
noncomputable def code : Code := Try.f36.body.getD .skip
abbrev ash : List ASh := [.ro (.st (.pair (.sl (.st (.pair (.int .i64) (.pair (.str) (.sl (.int .i64)))))) (.pair (.st (.pair (.int .i64) (.pair (.str) (.sl (.int .i64))))) (.sl (.st (.pair (.int .i64) (.pair (.str) (.sl (.int .i64))))))))), .ro (.st (.pair (.sl (.st (.pair (.int .i64) (.pair (.str) (.sl (.int .i64)))))) (.pair (.st (.pair (.int .i64) (.pair (.str) (.sl (.int .i64))))) (.sl (.st (.pair (.int .i64) (.pair (.str) (.sl (.int .i64)))))))))]
abbrev rsh : List RSh := [.own (.st (.pair (.sl (.str)) (.sl (.str)))) (.pr (.own .ro) (.own .ro)), .ro .bool]
def ent (n : Nat) : FEnt := ⟨ash, rsh, fun v => F n v.1 v.2.1⟩
noncomputable def cx (n : Nat) : Ctx := mkCtx Try.prog TYS [(63, impl_becomes.ent n), (64, impl_carries_1.ent n), (66, impl_Rule_allVars.ent n)]
noncomputable def d : FnD := ⟨code, 59, .nil, [(.cell 4 42, .st (.pair (.sl (.str)) (.sl (.str))), .pr (.own .ro) (.own .ro)), (.tmp 5, .bool, .ro)]⟩
noncomputable def kr (n : Nat) (v : AVs ash) : KN rsh := endK (cx n) d (avEnc ash v) (rvDec rsh)
noncomputable def b0 : Code := Code.l (Code.l (Code.r (Code.l (Code.r (Code.r (Code.r (Code.r (Code.r (Code.r (Code.r (Code.r code)))))))))))
def an : An := .seq (.reg [(2, .ro), (3, .ro), (4, .pr (.own .ro) (.own .ro))]) (.seq (.reg [(13, .own .ro)]) (.seq (.seq .nil (.cond (.seq (.reg [(23, .pr (.own .ro) (.own .ro))]) .nil) .nil)) (.seq .nil (.seq .nil (.seq .nil (.seq (.seq .nil (.cond (.seq (.reg [(33, .pr (.own .ro) (.own .ro))]) .nil) .nil)) (.seq (.reg [(34, .pr (.own .ro) (.own .ro)), (10, .pr (.own .ro) (.own .ro))]) (.seq (.seq .nil (.block (some [4, 10]) (.cut 0 [4, 8, 10, 36, 37, 38]))) (.seq .nil .nil)))))))))
def an0 : An := .seq .nil (.seq (.cond .nil .nil) (.seq (.block (some [4, 8, 10, 36, 37, 38]) (.seq .nil (.seq .nil .nil))) .nil))
abbrev sh0 : ES := ⟨[(4, .pt 4 []), (8, .v (.mp (.str) (.st (.pair (.int .i64) (.pair (.str) (.sl (.int .i64))))))), (10, .pt 10 []), (36, .v (.sl (.str))), (37, .v (.int .i64)), (38, .v (.int .i64))], [⟨4, .st (.pair (.sl (.str)) (.sl (.str))), .pr (.own .ro) (.own .ro), true, false, none⟩, ⟨10, .st (.pair (.sl (.str)) (.sl (.str))), .pr (.own .ro) (.own .ro), true, false, none⟩]⟩
abbrev sh0_0 : ES := ⟨[(4, .pt 4 []), (10, .pt 10 [])], [⟨4, .st (.pair (.sl (.str)) (.sl (.str))), .pr (.own .ro) (.own .ro), true, false, none⟩, ⟨10, .st (.pair (.sl (.str)) (.sl (.str))), .pr (.own .ro) (.own .ro), true, false, none⟩]⟩
def g0 (n m : Nat) (x : sh0.V) (kn : KN rsh) (kx : KX rsh) : Option (RVs rsh) := l0 n x.1.2.1 x.1.2.2.2.1 x.1.2.2.2.2.1 x.2.1 (fun y0 => kx 0 (sh0_0.enc (((()), (()), ()), (x.2.1, y0, ())))) m x.1.2.2.2.2.2.1 x.2.2.1
def T (n : Nat) : Tab (RVs rsh) := fun j e kn kx => match j with
 | 0 => ES.on sh0 e fun x => g0 n n x kn kx
 | _ => none
theorem mk (n : Nat) : MOk (cx n) := mkCtx_ok (mem_cons (impl_becomes.ok n) (mem_cons (impl_carries_1.ok n) (mem_cons (impl_Rule_allVars.ok n) mem_nil)))
theorem u0 (n : Nat) (v : AVs ash) : UnitOk (cx n) 59 (T n) (kr n v) 0 (.loop b0) :=
 loop_u (n := n) (CO _) (mk n) (MX _) an0 [(0, [4, 10])] [4, 8, 10, 36, 37, 38] sh0 (g0 n) (fun _ _ _ => rfl) (fun _ _ _ => rfl) (fun m x kn kx => by kernel_rfl) (l := []) (by kernel_rfl) (mem_nil)
theorem ok (n : Nat) : EntOk Try.prog 36 (ent n) :=
 ent_okU (c := cx n) (e := ent n) (d := d) (CO _) (mk n) (MX _) an Try.func36 (by kernel_rfl) (T n) (l := [(0, .loop b0)]) (by kernel_rfl) (fun v => mem_cons (u0 n v) mem_nil) (fun v => by kernel_rfl)
end impl_carries
namespace impl_Carries
def F (n : Nat) (a1 : (List (Int × ByteArray × List Int)) × (Int × ByteArray × List Int) × List (Int × ByteArray × List Int)) (b2 : (List (Int × ByteArray × List Int)) × (Int × ByteArray × List Int) × List (Int × ByteArray × List Int)) : Option (((List ByteArray) × List ByteArray) × Bool) :=
 (impl_isPlain.F n a1).bind fun r3 =>
 if (!r3) = false then
 (impl_isPlain.F n b2).bind fun r4 =>
 if (!r4) = true then
 some (([], []), false)
 else
 (impl_carries.F n a1 b2).bind fun r5 =>
 some (r5.1, r5.2)
 else
 some (([], []), false)
noncomputable def code : Code := Try.f15.body.getD .skip
abbrev ash : List ASh := [.ro (.st (.pair (.sl (.st (.pair (.int .i64) (.pair (.str) (.sl (.int .i64)))))) (.pair (.st (.pair (.int .i64) (.pair (.str) (.sl (.int .i64))))) (.sl (.st (.pair (.int .i64) (.pair (.str) (.sl (.int .i64))))))))), .ro (.st (.pair (.sl (.st (.pair (.int .i64) (.pair (.str) (.sl (.int .i64)))))) (.pair (.st (.pair (.int .i64) (.pair (.str) (.sl (.int .i64))))) (.sl (.st (.pair (.int .i64) (.pair (.str) (.sl (.int .i64)))))))))]
abbrev rsh : List RSh := [.own (.st (.pair (.sl (.str)) (.sl (.str)))) (.pr (.own .ro) (.own .ro)), .ro .bool]
def ent (n : Nat) : FEnt := ⟨ash, rsh, fun v => F n v.1 v.2.1⟩
noncomputable def cx (n : Nat) : Ctx := mkCtx Try.prog TYS [(32, impl_isPlain.ent n), (36, impl_carries.ent n)]
noncomputable def d : FnD := ⟨code, 20, .nil, [(.cell 4 42, .st (.pair (.sl (.str)) (.sl (.str))), .pr (.own .ro) (.own .ro)), (.tmp 5, .bool, .ro)]⟩
def an : An := .seq (.reg [(4, .pr (.own .ro) (.own .ro))]) (.seq (.seq .nil (.cond (.seq (.reg [(14, .pr (.own .ro) (.own .ro))]) .nil) .nil)) (.seq (.reg [(4113, .pr (.own .ro) (.own .ro))]) .nil))
theorem ok (n : Nat) : EntOk Try.prog 15 (ent n) :=
 ent_ok0 (c := cx n) (e := ent n) (d := d) (CO _) (mkCtx_ok (mem_cons (impl_isPlain.ok n) (mem_cons (impl_carries.ok n) mem_nil))) (MX _) an Try.func15 (by kernel_rfl) (by kernel_rfl) (fun v => by kernel_rfl)
end impl_Carries
namespace laws_eqStringS
def l0 (n : Nat) (a3 : List ByteArray) (b4 : List ByteArray) (K0 : Unit → Option Bool) : Nat → Int → Option Bool
 | 0, _ => none
 | k + 1, i5 =>
 if decide (i5 < (List.length a3 : Int)) = true then
 if (0 : Int) ≤ i5 ∧ i5 < (List.length a3 : Int) then
 if (0 : Int) ≤ i5 ∧ i5 < (List.length b4 : Int) then
 if (!(Abs.seq (List.getD a3 (Int.toNat i5) ByteArray.empty) (List.getD b4 (Int.toNat i5) ByteArray.empty))) = true then
 some false
 else
 l0 n a3 b4 K0 k (IntKind.i64.wrap (i5 + 1))
 else
 none
 else
 none
 else
 K0 ()
def F (n : Nat) (a1 : List ByteArray) (b2 : List ByteArray) : Option Bool :=
 if (!decide ((List.length a1 : Int) = (List.length b2 : Int))) = true then
 some false
 else
 l0 n a1 b2 (fun _ =>
 some true) n 0
noncomputable def code : Code := Try.f40.body.getD .skip
abbrev ash : List ASh := [.ro (.sl (.str)), .ro (.sl (.str))]
abbrev rsh : List RSh := [.ro .bool]
def ent (n : Nat) : FEnt := ⟨ash, rsh, fun v => F n v.1 v.2.1⟩
noncomputable def cx (n : Nat) : Ctx := mkCtx Try.prog TYS []
noncomputable def d : FnD := ⟨code, 26, .nil, [(.tmp 4, .bool, .ro)]⟩
noncomputable def kr (n : Nat) (v : AVs ash) : KN rsh := endK (cx n) d (avEnc ash v) (rvDec rsh)
noncomputable def b0 : Code := Code.l (Code.l (Code.r (Code.l (Code.r (Code.r code)))))
def an : An := .seq .nil (.seq (.seq .nil (.cond (.seq .nil .nil) .nil)) (.seq (.seq .nil (.block (some []) (.cut 0 [0, 1, 5]))) (.seq .nil .nil)))
def an0 : An := .seq (.seq .nil (.cond .nil .nil)) (.seq (.block (some [0, 1, 5]) (.seq .nil (.cond (.seq .nil .nil) .nil))) .nil)
abbrev sh0 : ES := ⟨[(0, .v (.sl (.str))), (1, .v (.sl (.str))), (5, .v (.int .i64))], []⟩
abbrev sh0_0 : ES := ⟨[], []⟩
def g0 (n m : Nat) (x : sh0.V) (kn : KN rsh) (kx : KX rsh) : Option (RVs rsh) := l0 n x.1.1 x.1.2.1 (fun _ => kx 0 (sh0_0.enc ((()), (())))) m x.1.2.2.1
def T (n : Nat) : Tab (RVs rsh) := fun j e kn kx => match j with
 | 0 => ES.on sh0 e fun x => g0 n n x kn kx
 | _ => none
theorem mk (n : Nat) : MOk (cx n) := mkCtx_ok (mem_nil)
theorem u0 (n : Nat) (v : AVs ash) : UnitOk (cx n) 26 (T n) (kr n v) 0 (.loop b0) :=
 loop_u (n := n) (CO _) (mk n) (MX _) an0 [(0, [])] [0, 1, 5] sh0 (g0 n) (fun _ _ _ => rfl) (fun _ _ _ => rfl) (fun m x kn kx => by kernel_rfl) (l := []) (by kernel_rfl) (mem_nil)
theorem ok (n : Nat) : EntOk Try.prog 40 (ent n) :=
 ent_okU (c := cx n) (e := ent n) (d := d) (CO _) (mk n) (MX _) an Try.func40 (by kernel_rfl) (T n) (l := [(0, .loop b0)]) (by kernel_rfl) (fun v => mem_cons (u0 n v) mem_nil) (fun v => by kernel_rfl)
end laws_eqStringS
namespace laws_eqMatch
def F (n : Nat) (a1 : (List ByteArray) × List ByteArray) (b2 : (List ByteArray) × List ByteArray) : Option Bool :=
 (laws_eqStringS.F n a1.1 b2.1).bind fun r3 =>
 if (!r3) = true then
 some false
 else
 (laws_eqStringS.F n a1.2 b2.2).bind fun r4 =>
 if (!r4) = true then
 some false
 else
 some true
noncomputable def code : Code := Try.f16.body.getD .skip
abbrev ash : List ASh := [.ro (.st (.pair (.sl (.str)) (.sl (.str)))), .ro (.st (.pair (.sl (.str)) (.sl (.str))))]
abbrev rsh : List RSh := [.ro .bool]
def ent (n : Nat) : FEnt := ⟨ash, rsh, fun v => F n v.1 v.2.1⟩
noncomputable def cx (n : Nat) : Ctx := mkCtx Try.prog TYS [(40, laws_eqStringS.ent n)]
noncomputable def d : FnD := ⟨code, 17, .nil, [(.tmp 4, .bool, .ro)]⟩
def an : An := .seq .nil (.seq (.seq .nil (.cond (.seq .nil .nil) .nil)) (.seq (.seq .nil (.cond (.seq .nil .nil) .nil)) (.seq .nil .nil)))
theorem ok (n : Nat) : EntOk Try.prog 16 (ent n) :=
 ent_ok0 (c := cx n) (e := ent n) (d := d) (CO _) (mkCtx_ok (mem_cons (laws_eqStringS.ok n) mem_nil)) (MX _) an Try.func16 (by kernel_rfl) (by kernel_rfl) (fun v => by kernel_rfl)
end laws_eqMatch
namespace laws_eqIntS
def l0 (n : Nat) (a3 : List Int) (b4 : List Int) (K0 : Unit → Option Bool) : Nat → Int → Option Bool
 | 0, _ => none
 | k + 1, i5 =>
 if decide (i5 < (List.length a3 : Int)) = true then
 if (0 : Int) ≤ i5 ∧ i5 < (List.length a3 : Int) then
 if (0 : Int) ≤ i5 ∧ i5 < (List.length b4 : Int) then
 if (!decide ((List.getD a3 (Int.toNat i5) 0) = (List.getD b4 (Int.toNat i5) 0))) = true then
 some false
 else
 l0 n a3 b4 K0 k (IntKind.i64.wrap (i5 + 1))
 else
 none
 else
 none
 else
 K0 ()
def F (n : Nat) (a1 : List Int) (b2 : List Int) : Option Bool :=
 if (!decide ((List.length a1 : Int) = (List.length b2 : Int))) = true then
 some false
 else
 l0 n a1 b2 (fun _ =>
 some true) n 0
noncomputable def code : Code := Try.f62.body.getD .skip
abbrev ash : List ASh := [.ro (.sl (.int .i64)), .ro (.sl (.int .i64))]
abbrev rsh : List RSh := [.ro .bool]
def ent (n : Nat) : FEnt := ⟨ash, rsh, fun v => F n v.1 v.2.1⟩
noncomputable def cx (n : Nat) : Ctx := mkCtx Try.prog TYS []
noncomputable def d : FnD := ⟨code, 26, .nil, [(.tmp 4, .bool, .ro)]⟩
noncomputable def kr (n : Nat) (v : AVs ash) : KN rsh := endK (cx n) d (avEnc ash v) (rvDec rsh)
noncomputable def b0 : Code := Code.l (Code.l (Code.r (Code.l (Code.r (Code.r code)))))
def an : An := .seq .nil (.seq (.seq .nil (.cond (.seq .nil .nil) .nil)) (.seq (.seq .nil (.block (some []) (.cut 0 [0, 1, 5]))) (.seq .nil .nil)))
def an0 : An := .seq (.seq .nil (.cond .nil .nil)) (.seq (.block (some [0, 1, 5]) (.seq .nil (.cond (.seq .nil .nil) .nil))) .nil)
abbrev sh0 : ES := ⟨[(0, .v (.sl (.int .i64))), (1, .v (.sl (.int .i64))), (5, .v (.int .i64))], []⟩
abbrev sh0_0 : ES := ⟨[], []⟩
def g0 (n m : Nat) (x : sh0.V) (kn : KN rsh) (kx : KX rsh) : Option (RVs rsh) := l0 n x.1.1 x.1.2.1 (fun _ => kx 0 (sh0_0.enc ((()), (())))) m x.1.2.2.1
def T (n : Nat) : Tab (RVs rsh) := fun j e kn kx => match j with
 | 0 => ES.on sh0 e fun x => g0 n n x kn kx
 | _ => none
theorem mk (n : Nat) : MOk (cx n) := mkCtx_ok (mem_nil)
theorem u0 (n : Nat) (v : AVs ash) : UnitOk (cx n) 26 (T n) (kr n v) 0 (.loop b0) :=
 loop_u (n := n) (CO _) (mk n) (MX _) an0 [(0, [])] [0, 1, 5] sh0 (g0 n) (fun _ _ _ => rfl) (fun _ _ _ => rfl) (fun m x kn kx => by kernel_rfl) (l := []) (by kernel_rfl) (mem_nil)
theorem ok (n : Nat) : EntOk Try.prog 62 (ent n) :=
 ent_okU (c := cx n) (e := ent n) (d := d) (CO _) (mk n) (MX _) an Try.func62 (by kernel_rfl) (T n) (l := [(0, .loop b0)]) (by kernel_rfl) (fun v => mem_cons (u0 n v) mem_nil) (fun v => by kernel_rfl)
end laws_eqIntS
namespace laws_eqExp
def F (n : Nat) (a1 : Int × ByteArray × List Int) (b2 : Int × ByteArray × List Int) : Option Bool :=
 if (!decide (a1.1 = b2.1)) = true then
 some false
 else
 if (!(Abs.seq a1.2.1 b2.2.1)) = true then
 some false
 else
 (laws_eqIntS.F n a1.2.2 b2.2.2).bind fun r3 =>
 if (!r3) = true then
 some false
 else
 some true
noncomputable def code : Code := Try.f61.body.getD .skip
abbrev ash : List ASh := [.ro (.st (.pair (.int .i64) (.pair (.str) (.sl (.int .i64))))), .ro (.st (.pair (.int .i64) (.pair (.str) (.sl (.int .i64)))))]
abbrev rsh : List RSh := [.ro .bool]
def ent (n : Nat) : FEnt := ⟨ash, rsh, fun v => F n v.1 v.2.1⟩
noncomputable def cx (n : Nat) : Ctx := mkCtx Try.prog TYS [(62, laws_eqIntS.ent n)]
noncomputable def d : FnD := ⟨code, 21, .nil, [(.tmp 4, .bool, .ro)]⟩
def an : An := .seq .nil (.seq (.seq .nil (.cond (.seq .nil .nil) .nil)) (.seq (.seq .nil (.cond (.seq .nil .nil) .nil)) (.seq (.seq .nil (.cond (.seq .nil .nil) .nil)) (.seq .nil .nil))))
theorem ok (n : Nat) : EntOk Try.prog 61 (ent n) :=
 ent_ok0 (c := cx n) (e := ent n) (d := d) (CO _) (mkCtx_ok (mem_cons (laws_eqIntS.ok n) mem_nil)) (MX _) an Try.func61 (by kernel_rfl) (by kernel_rfl) (fun v => by kernel_rfl)
end laws_eqExp
namespace laws_eqExpS
def l0 (n : Nat) (a3 : List (Int × ByteArray × List Int)) (b4 : List (Int × ByteArray × List Int)) (K0 : Unit → Option Bool) : Nat → Int → Option Bool
 | 0, _ => none
 | k + 1, i5 =>
 if decide (i5 < (List.length a3 : Int)) = true then
 if (0 : Int) ≤ i5 ∧ i5 < (List.length a3 : Int) then
 if (0 : Int) ≤ i5 ∧ i5 < (List.length b4 : Int) then
 (laws_eqExp.F n (List.getD a3 (Int.toNat i5) (0, (ByteArray.empty, []))) (List.getD b4 (Int.toNat i5) (0, (ByteArray.empty, [])))).bind fun r6 =>
 if (!r6) = true then
 some false
 else
 l0 n a3 b4 K0 k (IntKind.i64.wrap (i5 + 1))
 else
 none
 else
 none
 else
 K0 ()
def F (n : Nat) (a1 : List (Int × ByteArray × List Int)) (b2 : List (Int × ByteArray × List Int)) : Option Bool :=
 if (!decide ((List.length a1 : Int) = (List.length b2 : Int))) = true then
 some false
 else
 l0 n a1 b2 (fun _ =>
 some true) n 0
noncomputable def code : Code := Try.f33.body.getD .skip
abbrev ash : List ASh := [.ro (.sl (.st (.pair (.int .i64) (.pair (.str) (.sl (.int .i64)))))), .ro (.sl (.st (.pair (.int .i64) (.pair (.str) (.sl (.int .i64))))))]
abbrev rsh : List RSh := [.ro .bool]
def ent (n : Nat) : FEnt := ⟨ash, rsh, fun v => F n v.1 v.2.1⟩
noncomputable def cx (n : Nat) : Ctx := mkCtx Try.prog TYS [(61, laws_eqExp.ent n)]
noncomputable def d : FnD := ⟨code, 27, .nil, [(.tmp 4, .bool, .ro)]⟩
noncomputable def kr (n : Nat) (v : AVs ash) : KN rsh := endK (cx n) d (avEnc ash v) (rvDec rsh)
noncomputable def b0 : Code := Code.l (Code.l (Code.r (Code.l (Code.r (Code.r code)))))
def an : An := .seq .nil (.seq (.seq .nil (.cond (.seq .nil .nil) .nil)) (.seq (.seq .nil (.block (some []) (.cut 0 [0, 1, 5]))) (.seq .nil .nil)))
def an0 : An := .seq (.seq .nil (.cond .nil .nil)) (.seq (.block (some [0, 1, 5]) (.seq .nil (.cond (.seq .nil .nil) .nil))) .nil)
abbrev sh0 : ES := ⟨[(0, .v (.sl (.st (.pair (.int .i64) (.pair (.str) (.sl (.int .i64))))))), (1, .v (.sl (.st (.pair (.int .i64) (.pair (.str) (.sl (.int .i64))))))), (5, .v (.int .i64))], []⟩
abbrev sh0_0 : ES := ⟨[], []⟩
def g0 (n m : Nat) (x : sh0.V) (kn : KN rsh) (kx : KX rsh) : Option (RVs rsh) := l0 n x.1.1 x.1.2.1 (fun _ => kx 0 (sh0_0.enc ((()), (())))) m x.1.2.2.1
def T (n : Nat) : Tab (RVs rsh) := fun j e kn kx => match j with
 | 0 => ES.on sh0 e fun x => g0 n n x kn kx
 | _ => none
theorem mk (n : Nat) : MOk (cx n) := mkCtx_ok (mem_cons (laws_eqExp.ok n) mem_nil)
theorem u0 (n : Nat) (v : AVs ash) : UnitOk (cx n) 27 (T n) (kr n v) 0 (.loop b0) :=
 loop_u (n := n) (CO _) (mk n) (MX _) an0 [(0, [])] [0, 1, 5] sh0 (g0 n) (fun _ _ _ => rfl) (fun _ _ _ => rfl) (fun m x kn kx => by kernel_rfl) (l := []) (by kernel_rfl) (mem_nil)
theorem ok (n : Nat) : EntOk Try.prog 33 (ent n) :=
 ent_okU (c := cx n) (e := ent n) (d := d) (CO _) (mk n) (MX _) an Try.func33 (by kernel_rfl) (T n) (l := [(0, .loop b0)]) (by kernel_rfl) (fun v => mem_cons (u0 n v) mem_nil) (fun v => by kernel_rfl)
end laws_eqExpS
namespace laws_eqLit
def F (n : Nat) (a1 : Int × ByteArray × List Int) (b2 : Int × ByteArray × List Int) : Option Bool :=
 if (!decide (a1.1 = b2.1)) = true then
 some false
 else
 if (!(Abs.seq a1.2.1 b2.2.1)) = true then
 some false
 else
 (laws_eqIntS.F n a1.2.2 b2.2.2).bind fun r3 =>
 if (!r3) = true then
 some false
 else
 some true
noncomputable def code : Code := Try.f34.body.getD .skip
abbrev ash : List ASh := [.ro (.st (.pair (.int .i64) (.pair (.str) (.sl (.int .i64))))), .ro (.st (.pair (.int .i64) (.pair (.str) (.sl (.int .i64)))))]
abbrev rsh : List RSh := [.ro .bool]
def ent (n : Nat) : FEnt := ⟨ash, rsh, fun v => F n v.1 v.2.1⟩
noncomputable def cx (n : Nat) : Ctx := mkCtx Try.prog TYS [(62, laws_eqIntS.ent n)]
noncomputable def d : FnD := ⟨code, 21, .nil, [(.tmp 4, .bool, .ro)]⟩
def an : An := .seq .nil (.seq (.seq .nil (.cond (.seq .nil .nil) .nil)) (.seq (.seq .nil (.cond (.seq .nil .nil) .nil)) (.seq (.seq .nil (.cond (.seq .nil .nil) .nil)) (.seq .nil .nil))))
theorem ok (n : Nat) : EntOk Try.prog 34 (ent n) :=
 ent_ok0 (c := cx n) (e := ent n) (d := d) (CO _) (mkCtx_ok (mem_cons (laws_eqIntS.ok n) mem_nil)) (MX _) an Try.func34 (by kernel_rfl) (by kernel_rfl) (fun v => by kernel_rfl)
end laws_eqLit
namespace laws_eqLitS
def l0 (n : Nat) (a3 : List (Int × ByteArray × List Int)) (b4 : List (Int × ByteArray × List Int)) (K0 : Unit → Option Bool) : Nat → Int → Option Bool
 | 0, _ => none
 | k + 1, i5 =>
 if decide (i5 < (List.length a3 : Int)) = true then
 if (0 : Int) ≤ i5 ∧ i5 < (List.length a3 : Int) then
 if (0 : Int) ≤ i5 ∧ i5 < (List.length b4 : Int) then
 (laws_eqLit.F n (List.getD a3 (Int.toNat i5) (0, (ByteArray.empty, []))) (List.getD b4 (Int.toNat i5) (0, (ByteArray.empty, [])))).bind fun r6 =>
 if (!r6) = true then
 some false
 else
 l0 n a3 b4 K0 k (IntKind.i64.wrap (i5 + 1))
 else
 none
 else
 none
 else
 K0 ()
def F (n : Nat) (a1 : List (Int × ByteArray × List Int)) (b2 : List (Int × ByteArray × List Int)) : Option Bool :=
 if (!decide ((List.length a1 : Int) = (List.length b2 : Int))) = true then
 some false
 else
 l0 n a1 b2 (fun _ =>
 some true) n 0
noncomputable def code : Code := Try.f35.body.getD .skip
abbrev ash : List ASh := [.ro (.sl (.st (.pair (.int .i64) (.pair (.str) (.sl (.int .i64)))))), .ro (.sl (.st (.pair (.int .i64) (.pair (.str) (.sl (.int .i64))))))]
abbrev rsh : List RSh := [.ro .bool]
def ent (n : Nat) : FEnt := ⟨ash, rsh, fun v => F n v.1 v.2.1⟩
noncomputable def cx (n : Nat) : Ctx := mkCtx Try.prog TYS [(34, laws_eqLit.ent n)]
noncomputable def d : FnD := ⟨code, 27, .nil, [(.tmp 4, .bool, .ro)]⟩
noncomputable def kr (n : Nat) (v : AVs ash) : KN rsh := endK (cx n) d (avEnc ash v) (rvDec rsh)
noncomputable def b0 : Code := Code.l (Code.l (Code.r (Code.l (Code.r (Code.r code)))))
def an : An := .seq .nil (.seq (.seq .nil (.cond (.seq .nil .nil) .nil)) (.seq (.seq .nil (.block (some []) (.cut 0 [0, 1, 5]))) (.seq .nil .nil)))
def an0 : An := .seq (.seq .nil (.cond .nil .nil)) (.seq (.block (some [0, 1, 5]) (.seq .nil (.cond (.seq .nil .nil) .nil))) .nil)
abbrev sh0 : ES := ⟨[(0, .v (.sl (.st (.pair (.int .i64) (.pair (.str) (.sl (.int .i64))))))), (1, .v (.sl (.st (.pair (.int .i64) (.pair (.str) (.sl (.int .i64))))))), (5, .v (.int .i64))], []⟩
abbrev sh0_0 : ES := ⟨[], []⟩
def g0 (n m : Nat) (x : sh0.V) (kn : KN rsh) (kx : KX rsh) : Option (RVs rsh) := l0 n x.1.1 x.1.2.1 (fun _ => kx 0 (sh0_0.enc ((()), (())))) m x.1.2.2.1
def T (n : Nat) : Tab (RVs rsh) := fun j e kn kx => match j with
 | 0 => ES.on sh0 e fun x => g0 n n x kn kx
 | _ => none
theorem mk (n : Nat) : MOk (cx n) := mkCtx_ok (mem_cons (laws_eqLit.ok n) mem_nil)
theorem u0 (n : Nat) (v : AVs ash) : UnitOk (cx n) 27 (T n) (kr n v) 0 (.loop b0) :=
 loop_u (n := n) (CO _) (mk n) (MX _) an0 [(0, [])] [0, 1, 5] sh0 (g0 n) (fun _ _ _ => rfl) (fun _ _ _ => rfl) (fun m x kn kx => by kernel_rfl) (l := []) (by kernel_rfl) (mem_nil)
theorem ok (n : Nat) : EntOk Try.prog 35 (ent n) :=
 ent_okU (c := cx n) (e := ent n) (d := d) (CO _) (mk n) (MX _) an Try.func35 (by kernel_rfl) (T n) (l := [(0, .loop b0)]) (by kernel_rfl) (fun v => mem_cons (u0 n v) mem_nil) (fun v => by kernel_rfl)
end laws_eqLitS
namespace laws_eqRule
def F (n : Nat) (a1 : (List (Int × ByteArray × List Int)) × (Int × ByteArray × List Int) × List (Int × ByteArray × List Int)) (b2 : (List (Int × ByteArray × List Int)) × (Int × ByteArray × List Int) × List (Int × ByteArray × List Int)) : Option Bool :=
 (laws_eqExpS.F n a1.1 b2.1).bind fun r3 =>
 if (!r3) = true then
 some false
 else
 (laws_eqLit.F n a1.2.1 b2.2.1).bind fun r4 =>
 if (!r4) = true then
 some false
 else
 (laws_eqLitS.F n a1.2.2 b2.2.2).bind fun r5 =>
 if (!r5) = true then
 some false
 else
 some true
noncomputable def code : Code := Try.f11.body.getD .skip
abbrev ash : List ASh := [.ro (.st (.pair (.sl (.st (.pair (.int .i64) (.pair (.str) (.sl (.int .i64)))))) (.pair (.st (.pair (.int .i64) (.pair (.str) (.sl (.int .i64))))) (.sl (.st (.pair (.int .i64) (.pair (.str) (.sl (.int .i64))))))))), .ro (.st (.pair (.sl (.st (.pair (.int .i64) (.pair (.str) (.sl (.int .i64)))))) (.pair (.st (.pair (.int .i64) (.pair (.str) (.sl (.int .i64))))) (.sl (.st (.pair (.int .i64) (.pair (.str) (.sl (.int .i64)))))))))]
abbrev rsh : List RSh := [.ro .bool]
def ent (n : Nat) : FEnt := ⟨ash, rsh, fun v => F n v.1 v.2.1⟩
noncomputable def cx (n : Nat) : Ctx := mkCtx Try.prog TYS [(33, laws_eqExpS.ent n), (34, laws_eqLit.ent n), (35, laws_eqLitS.ent n)]
noncomputable def d : FnD := ⟨code, 23, .nil, [(.tmp 4, .bool, .ro)]⟩
def an : An := .seq .nil (.seq (.seq .nil (.cond (.seq .nil .nil) .nil)) (.seq (.seq .nil (.cond (.seq .nil .nil) .nil)) (.seq (.seq .nil (.cond (.seq .nil .nil) .nil)) (.seq .nil .nil))))
theorem ok (n : Nat) : EntOk Try.prog 11 (ent n) :=
 ent_ok0 (c := cx n) (e := ent n) (d := d) (CO _) (mkCtx_ok (mem_cons (laws_eqExpS.ok n) (mem_cons (laws_eqLit.ok n) (mem_cons (laws_eqLitS.ok n) mem_nil)))) (MX _) an Try.func11 (by kernel_rfl) (by kernel_rfl) (fun v => by kernel_rfl)
end laws_eqRule
namespace laws_markText
def l0 (n : Nat) (K0 : ByteArray → Option ByteArray) : Nat → Int → ByteArray → Option ByteArray
 | 0, _, _ => none
 | k + 1, k2, out3 =>
 if decide (k2 > 0) = true then
 if ByteArray.size (bstr [IntKind.u8.wrap (IntKind.i64.wrap (48 + (Int.tmod k2 10)))]) + ByteArray.size out3 ≤ lim then
 l0 n K0 k (IntKind.i64.wrap (Int.tdiv k2 10)) ((bstr [IntKind.u8.wrap (IntKind.i64.wrap (48 + (Int.tmod k2 10)))]) ++ out3)
 else
 none
 else
 K0 out3
def F (n : Nat) (k1 : Int) : Option ByteArray :=
 if decide (k1 ≤ 0) = true then
 some ⟨#[109, 48]⟩
 else
 l0 n (fun out4 =>
 if ByteArray.size ⟨#[109]⟩ + ByteArray.size out4 ≤ lim then
 some (⟨#[109]⟩ ++ out4)
 else
 none) n k1 ByteArray.empty
noncomputable def code : Code := Try.f68.body.getD .skip
abbrev ash : List ASh := [.ro (.int .i64)]
abbrev rsh : List RSh := [.ro .str]
def ent (n : Nat) : FEnt := ⟨ash, rsh, fun v => F n v.1⟩
noncomputable def cx (n : Nat) : Ctx := mkCtx Try.prog TYS []
noncomputable def d : FnD := ⟨code, 20, .nil, [(.tmp 2, .str, .ro)]⟩
noncomputable def kr (n : Nat) (v : AVs ash) : KN rsh := endK (cx n) d (avEnc ash v) (rvDec rsh)
noncomputable def b0 : Code := Code.l (Code.l (Code.l (Code.r (Code.r (Code.r code)))))
def an : An := .seq .nil (.seq (.seq .nil (.cond (.seq .nil .nil) .nil)) (.seq .nil (.seq (.block (some [3]) (.cut 0 [0, 3])) (.seq .nil .nil))))
def an0 : An := .seq (.seq .nil (.cond .nil .nil)) (.block (some [0, 3]) (.seq .nil .nil))
abbrev sh0 : ES := ⟨[(0, .v (.int .i64)), (3, .v .str)], []⟩
abbrev sh0_0 : ES := ⟨[(3, .v .str)], []⟩
def g0 (n m : Nat) (x : sh0.V) (kn : KN rsh) (kx : KX rsh) : Option (RVs rsh) := l0 n (fun y0 => kx 0 (sh0_0.enc ((y0, ()), (())))) m x.1.1 x.1.2.1
def T (n : Nat) : Tab (RVs rsh) := fun j e kn kx => match j with
 | 0 => ES.on sh0 e fun x => g0 n n x kn kx
 | _ => none
theorem mk (n : Nat) : MOk (cx n) := mkCtx_ok (mem_nil)
theorem u0 (n : Nat) (v : AVs ash) : UnitOk (cx n) 20 (T n) (kr n v) 0 (.loop b0) :=
 loop_u (n := n) (CO _) (mk n) (MX _) an0 [(0, [3])] [0, 3] sh0 (g0 n) (fun _ _ _ => rfl) (fun _ _ _ => rfl) (fun m x kn kx => by kernel_rfl) (l := []) (by kernel_rfl) (mem_nil)
theorem ok (n : Nat) : EntOk Try.prog 68 (ent n) :=
 ent_okU (c := cx n) (e := ent n) (d := d) (CO _) (mk n) (MX _) an Try.func68 (by kernel_rfl) (T n) (l := [(0, .loop b0)]) (by kernel_rfl) (fun v => mem_cons (u0 n v) mem_nil) (fun v => by kernel_rfl)
end laws_markText
namespace laws_markIntS
def l0 (n : Nat) (K0 : Int → (List Int) → Option (Int × List Int)) : Nat → Int → Int → (List Int) → Option (Int × List Int)
 | 0, _, _, _ => none
 | k + 1, k3, i4, a5 =>
 if decide (i4 < (List.length a5 : Int)) = true then
 if (0 : Int) ≤ i4 ∧ i4 < (List.length a5 : Int) then
 l0 n K0 k (IntKind.i64.wrap (k3 + 1)) (IntKind.i64.wrap (i4 + 1)) (List.set a5 (Int.toNat i4) k3)
 else
 none
 else
 K0 k3 a5
def F (n : Nat) (a1 : List Int) (k2 : Int) : Option (Int × List Int) :=
 l0 n (fun k6 a7 =>
 some (k6, a7)) n k2 0 a1
noncomputable def code : Code := Try.f69.body.getD .skip
abbrev ash : List ASh := [.ms (.sl (.int .i64)) (.own .ro), .ro (.int .i64)]
abbrev rsh : List RSh := [.ro (.int .i64), .out (.sl (.int .i64))]
def ent (n : Nat) : FEnt := ⟨ash, rsh, fun v => F n v.1 v.2.1⟩
noncomputable def cx (n : Nat) : Ctx := mkCtx Try.prog TYS []
noncomputable def d : FnD := ⟨code, 19, .nil, [(.tmp 4, .int .i64, .ro)]⟩
noncomputable def kr (n : Nat) (v : AVs ash) : KN rsh := endK (cx n) d (avEnc ash v) (rvDec rsh)
noncomputable def b0 : Code := Code.l (Code.l (Code.r (Code.l (Code.r code))))
def an : An := .seq .nil (.seq (.seq .nil (.block (some [0, 1]) (.cut 0 [0, 1, 5]))) (.seq .nil .nil))
def an0 : An := .seq (.seq .nil (.cond .nil .nil)) (.seq (.block (some [0, 1, 5]) (.seq .nil .nil)) .nil)
abbrev sh0 : ES := ⟨[(0, .al 0 []), (1, .v (.int .i64)), (5, .v (.int .i64))], [⟨0, .sl (.int .i64), .own .ro, false, true, none⟩]⟩
abbrev sh0_0 : ES := ⟨[(0, .al 0 []), (1, .v (.int .i64))], [⟨0, .sl (.int .i64), .own .ro, false, true, none⟩]⟩
def g0 (n m : Nat) (x : sh0.V) (kn : KN rsh) (kx : KX rsh) : Option (RVs rsh) := l0 n (fun y0 y1 => kx 0 (sh0_0.enc (((()), y0, ()), (y1, ())))) m x.1.2.1 x.1.2.2.1 x.2.1
def T (n : Nat) : Tab (RVs rsh) := fun j e kn kx => match j with
 | 0 => ES.on sh0 e fun x => g0 n n x kn kx
 | _ => none
theorem mk (n : Nat) : MOk (cx n) := mkCtx_ok (mem_nil)
theorem u0 (n : Nat) (v : AVs ash) : UnitOk (cx n) 19 (T n) (kr n v) 0 (.loop b0) :=
 loop_u (n := n) (CO _) (mk n) (MX _) an0 [(0, [0, 1])] [0, 1, 5] sh0 (g0 n) (fun _ _ _ => rfl) (fun _ _ _ => rfl) (fun m x kn kx => by kernel_rfl) (l := []) (by kernel_rfl) (mem_nil)
theorem ok (n : Nat) : EntOk Try.prog 69 (ent n) :=
 ent_okU (c := cx n) (e := ent n) (d := d) (CO _) (mk n) (MX _) an Try.func69 (by kernel_rfl) (T n) (l := [(0, .loop b0)]) (by kernel_rfl) (fun v => mem_cons (u0 n v) mem_nil) (fun v => by kernel_rfl)
end laws_markIntS
end Go.Abs
