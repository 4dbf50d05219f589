/- The functions, and that a call of each comes to it. Conditions: none. -/
import Derived.Test.YtpgedieoancjkaaDoorF0
namespace Go.Abs
open Go.Proofs
set_option linter.unusedVariables false
namespace laws_markRule
def F (n : Nat) (a1 : (List (Int × ByteArray × List Int)) × (Int × ByteArray × List Int) × List (Int × ByteArray × List Int)) (k2 : Int) : Option (Int × (List (Int × ByteArray × List Int)) × (Int × ByteArray × List Int) × List (Int × ByteArray × List Int)) :=
 (laws_markExpS.F n a1.1 k2).bind fun r3 =>
 (laws_markLit.F n a1.2.1 r3.1).bind fun r4 =>
 (laws_markLitS.F n a1.2.2 r4.1).bind fun r5 =>
 some (r5.1, (r3.2, (r4.2, r5.2)))
noncomputable def code : Code := Tryd.f12.body.getD .skip
abbrev ash : List ASh := [.ms (.st (.pair (.sl (.st (.pair (.int .i64) (.pair (.str) (.sl (.int .i64)))))) (.pair (.st (.pair (.int .i64) (.pair (.str) (.sl (.int .i64))))) (.sl (.st (.pair (.int .i64) (.pair (.str) (.sl (.int .i64))))))))) (.pr (.own (.pr .ro (.pr .ro (.own .ro)))) (.pr (.pr .ro (.pr .ro (.own .ro))) (.own (.pr .ro (.pr .ro (.own .ro)))))), .ro (.int .i64)]
abbrev rsh : List RSh := [.ro (.int .i64), .out (.st (.pair (.sl (.st (.pair (.int .i64) (.pair (.str) (.sl (.int .i64)))))) (.pair (.st (.pair (.int .i64) (.pair (.str) (.sl (.int .i64))))) (.sl (.st (.pair (.int .i64) (.pair (.str) (.sl (.int .i64)))))))))]
def ent (n : Nat) : FEnt := ⟨ash, rsh, fun v => F n v.1 v.2.1⟩
noncomputable def cx (n : Nat) : Ctx := mkCtx Tryd.prog TYS [(29, laws_markExpS.ent n), (30, laws_markLit.ent n), (31, laws_markLitS.ent n)]
noncomputable def d : FnD := ⟨code, 18, .nil, [(.tmp 4, .int .i64, .ro)]⟩
def an : An := .seq .nil (.seq .nil (.seq .nil (.seq .nil (.seq .nil .nil))))
theorem ok (n : Nat) : EntOk Tryd.prog 12 (ent n) :=
 ent_ok0 (c := cx n) (e := ent n) (d := d) (CO _) (mkCtx_ok (mem_cons (laws_markExpS.ok n) (mem_cons (laws_markLit.ok n) (mem_cons (laws_markLitS.ok n) mem_nil)))) (MX _) an Tryd.func12 (by kernel_rfl) (by kernel_rfl) (fun v => by kernel_rfl)
end laws_markRule
namespace laws_heldIntS
def l0 (n : Nat) (a3 : List Int) (K0 : Int → Option Int) : Nat → Int → Int → Option Int
 | 0, _, _ => none
 | k + 1, k4, i5 =>
 if decide (i5 < (List.length a3 : Int)) = true then
 if (0 : Int) ≤ i5 ∧ i5 < (List.length a3 : Int) then
 if (!decide ((List.getD a3 (Int.toNat i5) 0) = k4)) = true then
 some (-1)
 else
 l0 n a3 K0 k (IntKind.i64.wrap (k4 + 1)) (IntKind.i64.wrap (i5 + 1))
 else
 none
 else
 K0 k4
def F (n : Nat) (a1 : List Int) (k2 : Int) : Option Int :=
 l0 n a1 (fun k6 =>
 some k6) n k2 0
noncomputable def code : Code := Tryd.f61.body.getD .skip
abbrev ash : List ASh := [.ro (.sl (.int .i64)), .ro (.int .i64)]
abbrev rsh : List RSh := [.ro (.int .i64)]
def ent (n : Nat) : FEnt := ⟨ash, rsh, fun v => F n v.1 v.2.1⟩
noncomputable def cx (n : Nat) : Ctx := mkCtx Tryd.prog TYS []
noncomputable def d : FnD := ⟨code, 21, .nil, [(.tmp 4, .int .i64, .ro)]⟩
noncomputable def kr (n : Nat) (v : AVs ash) : KN rsh := endK (cx n) d (avEnc ash v) (rvDec rsh)
noncomputable def b0 : Code := Code.l (Code.l (Code.r (Code.l (Code.r code))))
def an : An := .seq .nil (.seq (.seq .nil (.block (some [1]) (.cut 0 [0, 1, 5]))) (.seq .nil .nil))
def an0 : An := .seq (.seq .nil (.cond .nil .nil)) (.seq (.block (some [0, 1, 5]) (.seq (.seq .nil (.cond (.seq .nil .nil) .nil)) .nil)) .nil)
abbrev sh0 : ES := ⟨[(0, .v (.sl (.int .i64))), (1, .v (.int .i64)), (5, .v (.int .i64))], []⟩
abbrev sh0_0 : ES := ⟨[(1, .v (.int .i64))], []⟩
def g0 (n m : Nat) (x : sh0.V) (kn : KN rsh) (kx : KX rsh) : Option (RVs rsh) := l0 n x.1.1 (fun y0 => kx 0 (sh0_0.enc ((y0, ()), (())))) m x.1.2.1 x.1.2.2.1
def T (n : Nat) : Tab (RVs rsh) := fun j e kn kx => match j with
 | 0 => ES.on sh0 e fun x => g0 n n x kn kx
 | _ => none
theorem mk (n : Nat) : MOk (cx n) := mkCtx_ok (mem_nil)
theorem u0 (n : Nat) (v : AVs ash) : UnitOk (cx n) 21 (T n) (kr n v) 0 (.loop b0) :=
 loop_u (n := n) (CO _) (mk n) (MX _) an0 [(0, [1])] [0, 1, 5] sh0 (g0 n) (fun _ _ _ => rfl) (fun _ _ _ => rfl) (fun m x kn kx => by kernel_rfl) (l := []) (by kernel_rfl) (mem_nil)
theorem ok (n : Nat) : EntOk Tryd.prog 61 (ent n) :=
 ent_okU (c := cx n) (e := ent n) (d := d) (CO _) (mk n) (MX _) an Tryd.func61 (by kernel_rfl) (T n) (l := [(0, .loop b0)]) (by kernel_rfl) (fun v => mem_cons (u0 n v) mem_nil) (fun v => by kernel_rfl)
end laws_heldIntS
namespace laws_heldExpS
def l0 (n : Nat) (a3 : List (Int × ByteArray × List Int)) (K0 : Int → Option Int) : Nat → Int → Int → Option Int
 | 0, _, _ => none
 | k + 1, k4, i5 =>
 if decide (i5 < (List.length a3 : Int)) = true then
 if (0 : Int) ≤ i5 ∧ i5 < (List.length a3 : Int) then
 if (!decide (((List.getD a3 (Int.toNat i5) (0, (ByteArray.empty, []))).1) = k4)) = true then
 some (-1)
 else
 if (0 : Int) ≤ i5 ∧ i5 < (List.length a3 : Int) then
 (laws_markText.F n (IntKind.i64.wrap (k4 + 1))).bind fun r6 =>
 if (!(Abs.seq (((List.getD a3 (Int.toNat i5) (0, (ByteArray.empty, []))).2).1) r6)) = true then
 some (-1)
 else
 if (0 : Int) ≤ i5 ∧ i5 < (List.length a3 : Int) then
 (laws_heldIntS.F n (((List.getD a3 (Int.toNat i5) (0, (ByteArray.empty, []))).2).2) (IntKind.i64.wrap ((IntKind.i64.wrap (k4 + 1)) + 1))).bind fun r7 =>
 if decide (r7 < 0) = true then
 some (-1)
 else
 l0 n a3 K0 k r7 (IntKind.i64.wrap (i5 + 1))
 else
 none
 else
 none
 else
 none
 else
 K0 k4
def F (n : Nat) (a1 : List (Int × ByteArray × List Int)) (k2 : Int) : Option Int :=
 l0 n a1 (fun k8 =>
 some k8) n k2 0
noncomputable def code : Code := Tryd.f32.body.getD .skip
abbrev ash : List ASh := [.ro (.sl (.st (.pair (.int .i64) (.pair (.str) (.sl (.int .i64)))))), .ro (.int .i64)]
abbrev rsh : List RSh := [.ro (.int .i64)]
def ent (n : Nat) : FEnt := ⟨ash, rsh, fun v => F n v.1 v.2.1⟩
noncomputable def cx (n : Nat) : Ctx := mkCtx Tryd.prog TYS [(59, laws_markText.ent n), (61, laws_heldIntS.ent n)]
noncomputable def d : FnD := ⟨code, 41, .nil, [(.tmp 4, .int .i64, .ro)]⟩
noncomputable def kr (n : Nat) (v : AVs ash) : KN rsh := endK (cx n) d (avEnc ash v) (rvDec rsh)
noncomputable def b0 : Code := Code.l (Code.l (Code.r (Code.l (Code.r code))))
def an : An := .seq .nil (.seq (.seq .nil (.block (some [1]) (.cut 0 [0, 1, 5]))) (.seq .nil .nil))
def an0 : An := .seq (.seq .nil (.cond .nil .nil)) (.seq (.block (some [0, 1, 5]) (.seq (.seq .nil (.cond (.seq .nil .nil) .nil)) (.seq .nil (.seq (.seq .nil (.cond (.seq .nil .nil) .nil)) (.seq .nil (.seq .nil (.seq .nil (.cond (.seq .nil .nil) .nil)))))))) .nil)
abbrev sh0 : ES := ⟨[(0, .v (.sl (.st (.pair (.int .i64) (.pair (.str) (.sl (.int .i64))))))), (1, .v (.int .i64)), (5, .v (.int .i64))], []⟩
abbrev sh0_0 : ES := ⟨[(1, .v (.int .i64))], []⟩
def g0 (n m : Nat) (x : sh0.V) (kn : KN rsh) (kx : KX rsh) : Option (RVs rsh) := l0 n x.1.1 (fun y0 => kx 0 (sh0_0.enc ((y0, ()), (())))) m x.1.2.1 x.1.2.2.1
def T (n : Nat) : Tab (RVs rsh) := fun j e kn kx => match j with
 | 0 => ES.on sh0 e fun x => g0 n n x kn kx
 | _ => none
theorem mk (n : Nat) : MOk (cx n) := mkCtx_ok (mem_cons (laws_markText.ok n) (mem_cons (laws_heldIntS.ok n) mem_nil))
theorem u0 (n : Nat) (v : AVs ash) : UnitOk (cx n) 41 (T n) (kr n v) 0 (.loop b0) :=
 loop_u (n := n) (CO _) (mk n) (MX _) an0 [(0, [1])] [0, 1, 5] sh0 (g0 n) (fun _ _ _ => rfl) (fun _ _ _ => rfl) (fun m x kn kx => by kernel_rfl) (l := []) (by kernel_rfl) (mem_nil)
theorem ok (n : Nat) : EntOk Tryd.prog 32 (ent n) :=
 ent_okU (c := cx n) (e := ent n) (d := d) (CO _) (mk n) (MX _) an Tryd.func32 (by kernel_rfl) (T n) (l := [(0, .loop b0)]) (by kernel_rfl) (fun v => mem_cons (u0 n v) mem_nil) (fun v => by kernel_rfl)
end laws_heldExpS
namespace laws_heldLit
def F (n : Nat) (a1 : Int × ByteArray × List Int) (k2 : Int) : Option Int :=
 (laws_heldIntS.F n a1.2.2 k2).bind fun r3 =>
 if decide (r3 < 0) = true then
 some (-1)
 else
 some r3
noncomputable def code : Code := Tryd.f33.body.getD .skip
abbrev ash : List ASh := [.ro (.st (.pair (.int .i64) (.pair (.str) (.sl (.int .i64))))), .ro (.int .i64)]
abbrev rsh : List RSh := [.ro (.int .i64)]
def ent (n : Nat) : FEnt := ⟨ash, rsh, fun v => F n v.1 v.2.1⟩
noncomputable def cx (n : Nat) : Ctx := mkCtx Tryd.prog TYS [(61, laws_heldIntS.ent n)]
noncomputable def d : FnD := ⟨code, 12, .nil, [(.tmp 4, .int .i64, .ro)]⟩
def an : An := .seq .nil (.seq .nil (.seq (.seq .nil (.cond (.seq .nil .nil) .nil)) (.seq .nil .nil)))
theorem ok (n : Nat) : EntOk Tryd.prog 33 (ent n) :=
 ent_ok0 (c := cx n) (e := ent n) (d := d) (CO _) (mkCtx_ok (mem_cons (laws_heldIntS.ok n) mem_nil)) (MX _) an Tryd.func33 (by kernel_rfl) (by kernel_rfl) (fun v => by kernel_rfl)
end laws_heldLit
namespace laws_heldLitS
def l0 (n : Nat) (a3 : List (Int × ByteArray × List Int)) (K0 : Int → Option Int) : Nat → Int → Int → Option Int
 | 0, _, _ => none
 | k + 1, k4, i5 =>
 if decide (i5 < (List.length a3 : Int)) = true then
 if (0 : Int) ≤ i5 ∧ i5 < (List.length a3 : Int) then
 if (!decide (((List.getD a3 (Int.toNat i5) (0, (ByteArray.empty, []))).1) = k4)) = true then
 some (-1)
 else
 if (0 : Int) ≤ i5 ∧ i5 < (List.length a3 : Int) then
 (laws_markText.F n (IntKind.i64.wrap (k4 + 1))).bind fun r6 =>
 if (!(Abs.seq (((List.getD a3 (Int.toNat i5) (0, (ByteArray.empty, []))).2).1) r6)) = true then
 some (-1)
 else
 if (0 : Int) ≤ i5 ∧ i5 < (List.length a3 : Int) then
 (laws_heldIntS.F n (((List.getD a3 (Int.toNat i5) (0, (ByteArray.empty, []))).2).2) (IntKind.i64.wrap ((IntKind.i64.wrap (k4 + 1)) + 1))).bind fun r7 =>
 if decide (r7 < 0) = true then
 some (-1)
 else
 l0 n a3 K0 k r7 (IntKind.i64.wrap (i5 + 1))
 else
 none
 else
 none
 else
 none
 else
 K0 k4
def F (n : Nat) (a1 : List (Int × ByteArray × List Int)) (k2 : Int) : Option Int :=
 l0 n a1 (fun k8 =>
 some k8) n k2 0
noncomputable def code : Code := Tryd.f34.body.getD .skip
abbrev ash : List ASh := [.ro (.sl (.st (.pair (.int .i64) (.pair (.str) (.sl (.int .i64)))))), .ro (.int .i64)]
abbrev rsh : List RSh := [.ro (.int .i64)]
def ent (n : Nat) : FEnt := ⟨ash, rsh, fun v => F n v.1 v.2.1⟩
noncomputable def cx (n : Nat) : Ctx := mkCtx Tryd.prog TYS [(59, laws_markText.ent n), (61, laws_heldIntS.ent n)]
noncomputable def d : FnD := ⟨code, 41, .nil, [(.tmp 4, .int .i64, .ro)]⟩
noncomputable def kr (n : Nat) (v : AVs ash) : KN rsh := endK (cx n) d (avEnc ash v) (rvDec rsh)
noncomputable def b0 : Code := Code.l (Code.l (Code.r (Code.l (Code.r code))))
def an : An := .seq .nil (.seq (.seq .nil (.block (some [1]) (.cut 0 [0, 1, 5]))) (.seq .nil .nil))
def an0 : An := .seq (.seq .nil (.cond .nil .nil)) (.seq (.block (some [0, 1, 5]) (.seq (.seq .nil (.cond (.seq .nil .nil) .nil)) (.seq .nil (.seq (.seq .nil (.cond (.seq .nil .nil) .nil)) (.seq .nil (.seq .nil (.seq .nil (.cond (.seq .nil .nil) .nil)))))))) .nil)
abbrev sh0 : ES := ⟨[(0, .v (.sl (.st (.pair (.int .i64) (.pair (.str) (.sl (.int .i64))))))), (1, .v (.int .i64)), (5, .v (.int .i64))], []⟩
abbrev sh0_0 : ES := ⟨[(1, .v (.int .i64))], []⟩
def g0 (n m : Nat) (x : sh0.V) (kn : KN rsh) (kx : KX rsh) : Option (RVs rsh) := l0 n x.1.1 (fun y0 => kx 0 (sh0_0.enc ((y0, ()), (())))) m x.1.2.1 x.1.2.2.1
def T (n : Nat) : Tab (RVs rsh) := fun j e kn kx => match j with
 | 0 => ES.on sh0 e fun x => g0 n n x kn kx
 | _ => none
theorem mk (n : Nat) : MOk (cx n) := mkCtx_ok (mem_cons (laws_markText.ok n) (mem_cons (laws_heldIntS.ok n) mem_nil))
theorem u0 (n : Nat) (v : AVs ash) : UnitOk (cx n) 41 (T n) (kr n v) 0 (.loop b0) :=
 loop_u (n := n) (CO _) (mk n) (MX _) an0 [(0, [1])] [0, 1, 5] sh0 (g0 n) (fun _ _ _ => rfl) (fun _ _ _ => rfl) (fun m x kn kx => by kernel_rfl) (l := []) (by kernel_rfl) (mem_nil)
theorem ok (n : Nat) : EntOk Tryd.prog 34 (ent n) :=
 ent_okU (c := cx n) (e := ent n) (d := d) (CO _) (mk n) (MX _) an Tryd.func34 (by kernel_rfl) (T n) (l := [(0, .loop b0)]) (by kernel_rfl) (fun v => mem_cons (u0 n v) mem_nil) (fun v => by kernel_rfl)
end laws_heldLitS
namespace laws_heldRule
def F (n : Nat) (a1 : (List (Int × ByteArray × List Int)) × (Int × ByteArray × List Int) × List (Int × ByteArray × List Int)) (k2 : Int) : Option Int :=
 (laws_heldExpS.F n a1.1 k2).bind fun r3 =>
 if decide (r3 < 0) = true then
 some (-1)
 else
 (laws_heldLit.F n a1.2.1 r3).bind fun r4 =>
 if decide (r4 < 0) = true then
 some (-1)
 else
 (laws_heldLitS.F n a1.2.2 r4).bind fun r5 =>
 if decide (r5 < 0) = true then
 some (-1)
 else
 some r5
noncomputable def code : Code := Tryd.f13.body.getD .skip
abbrev ash : List ASh := [.ro (.st (.pair (.sl (.st (.pair (.int .i64) (.pair (.str) (.sl (.int .i64)))))) (.pair (.st (.pair (.int .i64) (.pair (.str) (.sl (.int .i64))))) (.sl (.st (.pair (.int .i64) (.pair (.str) (.sl (.int .i64))))))))), .ro (.int .i64)]
abbrev rsh : List RSh := [.ro (.int .i64)]
def ent (n : Nat) : FEnt := ⟨ash, rsh, fun v => F n v.1 v.2.1⟩
noncomputable def cx (n : Nat) : Ctx := mkCtx Tryd.prog TYS [(32, laws_heldExpS.ent n), (33, laws_heldLit.ent n), (34, laws_heldLitS.ent n)]
noncomputable def d : FnD := ⟨code, 24, .nil, [(.tmp 4, .int .i64, .ro)]⟩
def an : An := .seq .nil (.seq .nil (.seq (.seq .nil (.cond (.seq .nil .nil) .nil)) (.seq .nil (.seq (.seq .nil (.cond (.seq .nil .nil) .nil)) (.seq .nil (.seq (.seq .nil (.cond (.seq .nil .nil) .nil)) (.seq .nil .nil)))))))
theorem ok (n : Nat) : EntOk Tryd.prog 13 (ent n) :=
 ent_ok0 (c := cx n) (e := ent n) (d := d) (CO _) (mkCtx_ok (mem_cons (laws_heldExpS.ok n) (mem_cons (laws_heldLit.ok n) (mem_cons (laws_heldLitS.ok n) mem_nil)))) (MX _) an Tryd.func13 (by kernel_rfl) (by kernel_rfl) (fun v => by kernel_rfl)
end laws_heldRule
namespace laws_FnExactCanon
def j0 (n : Nat) (t12 : (List (Int × ByteArray × List Int)) × (Int × ByteArray × List Int) × List (Int × ByteArray × List Int)) (t13 : (List (Int × ByteArray × List Int)) × (Int × ByteArray × List Int) × List (Int × ByteArray × List Int)) (t14 : (List (Int × ByteArray × List Int)) × (Int × ByteArray × List Int) × List (Int × ByteArray × List Int)) : Option Bool :=
 (laws_markRule.F n t14 1).bind fun r15 =>
 (laws_heldRule.F n r15.2 1).bind fun r16 =>
 if decide (r16 < 0) = true then
 some false
 else
 if (!decide (r16 = r15.1)) = true then
 some false
 else
 (laws_toRule.F n t12).bind fun r17 =>
 (impl_Canon.F n r17).bind fun r18 =>
 (laws_eqRule.F n r18 t13).bind fun r19 =>
 if (!r19) = true then
 some false
 else
 (laws_heldRule.F n r15.2 1).bind fun r20 =>
 if decide (r20 < 0) = true then
 some false
 else
 if (!decide (r20 = r15.1)) = true then
 some false
 else
 some true
def F (n : Nat) (t1 : (List (Int × ByteArray × List Int)) × (Int × ByteArray × List Int) × List (Int × ByteArray × List Int)) : Option Bool :=
 (laws_szRule.F n t1 1048576).bind fun r2 =>
 if decide (r2 < 0) = true then
 some true
 else
 (laws_toRule.F n t1).bind fun r3 =>
 (spec_Canon.F n r3).bind fun r4 =>
 (laws_toRule.F n t1).bind fun r5 =>
 (impl_Canon.F n r5).bind fun r6 =>
 (laws_eqRule.F n r6 r4).bind fun r7 =>
 if (!r7) = true then
 some false
 else
 (laws_toRule.F n t1).bind fun r8 =>
 (laws_eqRule.F n r5 r8).bind fun r9 =>
 if (!r9) = true then
 some false
 else
 (laws_markRule.F n r5 1).bind fun r10 =>
 if (decide (r10.1 < 0)) = false then
 (laws_eqRule.F n r6 r4).bind fun r11 =>
 if (!r11) = true then
 some false
 else
 j0 n t1 r4 r6
 else
 some false
noncomputable def code : Code := Tryd.f4.body.getD .skip
abbrev ash : List ASh := [.ro (.st (.pair (.sl (.st (.pair (.int .i64) (.pair (.str) (.sl (.int .i64)))))) (.pair (.st (.pair (.int .i64) (.pair (.str) (.sl (.int .i64))))) (.sl (.st (.pair (.int .i64) (.pair (.str) (.sl (.int .i64)))))))))]
abbrev rsh : List RSh := [.ro .bool]
def ent (n : Nat) : FEnt := ⟨ash, rsh, fun v => F n v.1⟩
noncomputable def cx (n : Nat) : Ctx := mkCtx Tryd.prog TYS [(5, laws_szRule.ent n), (7, laws_toRule.ent n), (9, laws_eqRule.ent n), (10, spec_Canon.ent n), (11, impl_Canon.ent n), (12, laws_markRule.ent n), (13, laws_heldRule.ent n)]
noncomputable def d : FnD := ⟨code, 69, .nil, [(.tmp 2, .bool, .ro)]⟩
noncomputable def kr (n : Nat) (v : AVs ash) : KN rsh := endK (cx n) d (avEnc ash v) (rvDec rsh)
noncomputable def c0 : Code := (Code.r (Code.r (Code.r (Code.r (Code.r (Code.r (Code.r (Code.r (Code.r (Code.r (Code.r (Code.r code))))))))))))
def an : An := .seq .nil (.seq .nil (.seq .nil (.seq (.seq .nil (.cond (.seq .nil .nil) .nil)) (.seq .nil (.seq (.reg [(20, .pr (.own (.pr .ro (.pr .ro (.own .ro)))) (.pr (.pr .ro (.pr .ro (.own .ro))) (.own (.pr .ro (.pr .ro (.own .ro)))))), (5, .pr (.own .ro) (.pr (.pr .ro (.pr .ro (.own .ro))) (.own .ro)))]) (.seq (.reg [(22, .pr (.own (.pr .ro (.pr .ro (.own .ro)))) (.pr (.pr .ro (.pr .ro (.own .ro))) (.own (.pr .ro (.pr .ro (.own .ro)))))), (6, .pr (.own .ro) (.pr (.pr .ro (.pr .ro (.own .ro))) (.own .ro)))]) (.seq (.seq .nil (.cond (.seq .nil .nil) .nil)) (.seq (.seq .nil (.cond (.seq .nil .nil) .nil)) (.seq .nil (.seq .nil (.seq (.seq .nil (.cond (.seq .nil .nil) .nil)) (.cut 0 [1, 4, 6]))))))))))))
def an0 : An := .seq .nil (.seq .nil (.seq .nil (.seq .nil (.seq (.seq .nil (.cond (.seq .nil .nil) .nil)) (.seq (.seq .nil (.cond (.seq .nil .nil) .nil)) (.seq .nil (.seq (.seq .nil (.cond (.seq .nil .nil) .nil)) (.seq .nil (.seq .nil (.seq (.seq .nil (.cond (.seq .nil .nil) .nil)) (.seq (.seq .nil (.cond (.seq .nil .nil) .nil)) (.seq .nil .nil))))))))))))
abbrev sh0 : ES := ⟨[(1, .pt 1 []), (4, .pt 4 []), (6, .pt 6 [])], [⟨1, .st (.pair (.sl (.st (.pair (.int .i64) (.pair (.str) (.sl (.int .i64)))))) (.pair (.st (.pair (.int .i64) (.pair (.str) (.sl (.int .i64))))) (.sl (.st (.pair (.int .i64) (.pair (.str) (.sl (.int .i64)))))))), .ro, true, false, none⟩, ⟨4, .st (.pair (.sl (.st (.pair (.int .i64) (.pair (.str) (.sl (.int .i64)))))) (.pair (.st (.pair (.int .i64) (.pair (.str) (.sl (.int .i64))))) (.sl (.st (.pair (.int .i64) (.pair (.str) (.sl (.int .i64)))))))), .ro, true, false, none⟩, ⟨6, .st (.pair (.sl (.st (.pair (.int .i64) (.pair (.str) (.sl (.int .i64)))))) (.pair (.st (.pair (.int .i64) (.pair (.str) (.sl (.int .i64))))) (.sl (.st (.pair (.int .i64) (.pair (.str) (.sl (.int .i64)))))))), .pr (.own (.pr .ro (.pr .ro (.own .ro)))) (.pr (.pr .ro (.pr .ro (.own .ro))) (.own (.pr .ro (.pr .ro (.own .ro))))), true, false, none⟩]⟩
def g0 (n m : Nat) (x : sh0.V) (kn : KN rsh) (kx : KX rsh) : Option (RVs rsh) := j0 n x.2.1 x.2.2.1 x.2.2.2.1
def T (n : Nat) : Tab (RVs rsh) := fun j e kn kx => match j with
 | 0 => ES.on sh0 e fun x => g0 n n x kn kx
 | _ => none
theorem mk (n : Nat) : MOk (cx n) := mkCtx_ok (mem_cons (laws_szRule.ok n) (mem_cons (laws_toRule.ok n) (mem_cons (laws_eqRule.ok n) (mem_cons (spec_Canon.ok n) (mem_cons (impl_Canon.ok n) (mem_cons (laws_markRule.ok n) (mem_cons (laws_heldRule.ok n) mem_nil)))))))
theorem u0 (n : Nat) (v : AVs ash) : UnitOk (cx n) 69 (T n) (kr n v) 0 (c0) :=
 join_u (CO _) (mk n) (MX _) an0 [] [2] sh0 (g0 n n) (fun _ _ _ => rfl) (fun x kn kx => by kernel_rfl) (l := []) (by kernel_rfl) (mem_nil)
theorem ok (n : Nat) : EntOk Tryd.prog 4 (ent n) :=
 ent_okU (c := cx n) (e := ent n) (d := d) (CO _) (mk n) (MX _) an Tryd.func4 (by kernel_rfl) (T n) (l := [(0, c0)]) (by kernel_rfl) (fun v => mem_cons (u0 n v) mem_nil) (fun v => by kernel_rfl)
end laws_FnExactCanon
end Go.Abs
