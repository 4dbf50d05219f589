/- The functions, and that a call of each comes to it. Conditions: none. -/
import Derived.Test.YtgdlicpmbgodjaaGreatDoorF0
namespace Go.Abs
open Go.Proofs
set_option linter.unusedVariables false
noncomputable section
namespace laws_heldStringS
def l0 (n : Nat) (a3 : List ByteArray) (K0 : Int → Option Int) : Nat → Int → Int → Option Int
 | 0, _, _ => none
 | k + 1, k4, i5 =>
 if decide (i5 < (List.length a3 : Int)) = true then
 if (0 : Int) ≤ i5 ∧ i5 < (List.length a3 : Int) then
 (laws_markText.F n k4).bind fun r6 =>
 if (!(Abs.seq (List.getD a3 (Int.toNat i5) ByteArray.empty) r6)) = true then
 some (-1)
 else
 l0 n a3 K0 k (IntKind.i64.wrap (k4 + 1)) (IntKind.i64.wrap (i5 + 1))
 else
 none
 else
 K0 k4
def F (n : Nat) (a1 : List ByteArray) (k2 : Int) : Option Int :=
 l0 n a1 (fun k7 =>
 some k7) n k2 0
def code : Code := Tryz.f79.body.getD .skip
abbrev ash : List ASh := [.ro (.sl (.str)), .ro (.int .i64)]
abbrev rsh : List RSh := [.ro (.int .i64)]
def ent (n : Nat) : Z0V := ⟨ash, rsh, fun v => F n v.1 v.2.1⟩
def cx (n : Nat) : Ctx := Z0E Tryz.prog TYS [(133, laws_markText.ent n)]
def d : FnD := ⟨code, 22, .nil, [(.tmp 4, .int .i64, .ro)]⟩
def kr (n : Nat) (v : AVs ash) : KN rsh := Z14 (cx n) d (Z0L ash v) (Z0T rsh)
def b0 : Code := Code.l (Code.l (Code.r (Code.l (Code.r code))))
def an : An := .seq .nil (.seq (.seq .nil (.block (some [1]) (.cut 0 [0, 1, 5]))) (.seq .nil .nil))
def an0 : An := .seq (.seq .nil (.cond .nil .nil)) (.seq (.block (some [0, 1, 5]) (.seq (.seq .nil (.cond (.seq .nil .nil) .nil)) .nil)) .nil)
abbrev sh0 : ES := ⟨[(0, .v (.sl (.str))), (1, .v (.int .i64)), (5, .v (.int .i64))], []⟩
abbrev sh0_0 : ES := ⟨[(1, .v (.int .i64))], []⟩
def g0 (n m : Nat) (x : sh0.V) (kn : KN rsh) (kx : KX rsh) : Option (RVs rsh) := l0 n x.1.1 (fun y0 => kx 0 (sh0_0.enc ((y0, ()), (())))) m x.1.2.1 x.1.2.2.1
def T (n : Nat) : Tab (RVs rsh) := fun j e kn kx => match j with
 | 0 => ES.on sh0 e fun x => g0 n n x kn kx
 | _ => none
theorem mk (n : Nat) : MOk (cx n) := Z01 (mem_cons (laws_markText.ok n) Z00)
theorem u0 (n : Nat) (v : AVs ash) : Z08 (cx n) 22 (T n) (kr n v) 0 (.loop b0) :=
 Z0I (n := n) (CO _) (mk n) (MX _) an0 [(0, [1])] [0, 1, 5] sh0 (g0 n) (fun _ _ _ => rfl) (fun _ _ _ => rfl) (fun m x kn kx => by kernel_rfl) (l := []) (by kernel_rfl) (Z00)
theorem ok (n : Nat) : Z07 Tryz.prog 79 (ent n) :=
 Z0D (c := cx n) (e := ent n) (d := d) (CO _) (mk n) (MX _) an Tryz.func79 (by kernel_rfl) (T n) (l := [(0, .loop b0)]) (by kernel_rfl) (fun v => mem_cons (u0 n v) Z00) (fun v => by kernel_rfl)
end laws_heldStringS
namespace laws_heldTupleS
def l0 (n : Nat) (a3 : List (List ByteArray)) (K0 : Int → Option Int) : Nat → Int → Int → Option Int
 | 0, _, _ => none
 | k + 1, k4, i5 =>
 if decide (i5 < (List.length a3 : Int)) = true then
 if (0 : Int) ≤ i5 ∧ i5 < (List.length a3 : Int) then
 (laws_heldStringS.F n (List.getD a3 (Int.toNat i5) []) k4).bind fun r6 =>
 if decide (r6 < 0) = true then
 some (-1)
 else
 l0 n a3 K0 k r6 (IntKind.i64.wrap (i5 + 1))
 else
 none
 else
 K0 k4
def F (n : Nat) (a1 : List (List ByteArray)) (k2 : Int) : Option Int :=
 l0 n a1 (fun k7 =>
 some k7) n k2 0
def code : Code := Tryz.f113.body.getD .skip
abbrev ash : List ASh := [.ro (.sl (.st (.sl (.str)))), .ro (.int .i64)]
abbrev rsh : List RSh := [.ro (.int .i64)]
def ent (n : Nat) : Z0V := ⟨ash, rsh, fun v => F n v.1 v.2.1⟩
def cx (n : Nat) : Ctx := Z0E Tryz.prog TYS [(79, laws_heldStringS.ent n)]
def d : FnD := ⟨code, 22, .nil, [(.tmp 4, .int .i64, .ro)]⟩
def kr (n : Nat) (v : AVs ash) : KN rsh := Z14 (cx n) d (Z0L ash v) (Z0T rsh)
def b0 : Code := Code.l (Code.l (Code.r (Code.l (Code.r code))))
def an : An := .seq .nil (.seq (.seq .nil (.block (some [1]) (.cut 0 [0, 1, 5]))) (.seq .nil .nil))
def an0 : An := .seq (.seq .nil (.cond .nil .nil)) (.seq (.block (some [0, 1, 5]) (.seq .nil (.seq .nil (.cond (.seq .nil .nil) .nil)))) .nil)
abbrev sh0 : ES := ⟨[(0, .v (.sl (.st (.sl (.str))))), (1, .v (.int .i64)), (5, .v (.int .i64))], []⟩
abbrev sh0_0 : ES := ⟨[(1, .v (.int .i64))], []⟩
def g0 (n m : Nat) (x : sh0.V) (kn : KN rsh) (kx : KX rsh) : Option (RVs rsh) := l0 n x.1.1 (fun y0 => kx 0 (sh0_0.enc ((y0, ()), (())))) m x.1.2.1 x.1.2.2.1
def T (n : Nat) : Tab (RVs rsh) := fun j e kn kx => match j with
 | 0 => ES.on sh0 e fun x => g0 n n x kn kx
 | _ => none
theorem mk (n : Nat) : MOk (cx n) := Z01 (mem_cons (laws_heldStringS.ok n) Z00)
theorem u0 (n : Nat) (v : AVs ash) : Z08 (cx n) 22 (T n) (kr n v) 0 (.loop b0) :=
 Z0I (n := n) (CO _) (mk n) (MX _) an0 [(0, [1])] [0, 1, 5] sh0 (g0 n) (fun _ _ _ => rfl) (fun _ _ _ => rfl) (fun m x kn kx => by kernel_rfl) (l := []) (by kernel_rfl) (Z00)
theorem ok (n : Nat) : Z07 Tryz.prog 113 (ent n) :=
 Z0D (c := cx n) (e := ent n) (d := d) (CO _) (mk n) (MX _) an Tryz.func113 (by kernel_rfl) (T n) (l := [(0, .loop b0)]) (by kernel_rfl) (fun v => mem_cons (u0 n v) Z00) (fun v => by kernel_rfl)
end laws_heldTupleS
namespace laws_heldRelS
def l0 (n : Nat) (a3 : List (Int × List (List ByteArray))) (K0 : Int → Option Int) : Nat → Int → Int → Option Int
 | 0, _, _ => none
 | k + 1, k4, i5 =>
 if decide (i5 < (List.length a3 : Int)) = true then
 if (0 : Int) ≤ i5 ∧ i5 < (List.length a3 : Int) then
 if (!decide (((List.getD a3 (Int.toNat i5) (0, [])).1) = k4)) = true then
 some (-1)
 else
 if (0 : Int) ≤ i5 ∧ i5 < (List.length a3 : Int) then
 (laws_heldTupleS.F n ((List.getD a3 (Int.toNat i5) (0, [])).2) (IntKind.i64.wrap (k4 + 1))).bind fun r6 =>
 if decide (r6 < 0) = true then
 some (-1)
 else
 l0 n a3 K0 k r6 (IntKind.i64.wrap (i5 + 1))
 else
 none
 else
 none
 else
 K0 k4
def F (n : Nat) (a1 : List (Int × List (List ByteArray))) (k2 : Int) : Option Int :=
 l0 n a1 (fun k7 =>
 some k7) n k2 0
def code : Code := Tryz.f103.body.getD .skip
abbrev ash : List ASh := [.ro (.sl (.st (.pair (.int .i64) (.sl (.st (.sl (.str))))))), .ro (.int .i64)]
abbrev rsh : List RSh := [.ro (.int .i64)]
def ent (n : Nat) : Z0V := ⟨ash, rsh, fun v => F n v.1 v.2.1⟩
def cx (n : Nat) : Ctx := Z0E Tryz.prog TYS [(113, laws_heldTupleS.ent n)]
def d : FnD := ⟨code, 31, .nil, [(.tmp 4, .int .i64, .ro)]⟩
def kr (n : Nat) (v : AVs ash) : KN rsh := Z14 (cx n) d (Z0L ash v) (Z0T rsh)
def b0 : Code := Code.l (Code.l (Code.r (Code.l (Code.r code))))
def an : An := .seq .nil (.seq (.seq .nil (.block (some [1]) (.cut 0 [0, 1, 5]))) (.seq .nil .nil))
def an0 : An := .seq (.seq .nil (.cond .nil .nil)) (.seq (.block (some [0, 1, 5]) (.seq (.seq .nil (.cond (.seq .nil .nil) .nil)) (.seq .nil (.seq .nil (.seq .nil (.cond (.seq .nil .nil) .nil)))))) .nil)
abbrev sh0 : ES := ⟨[(0, .v (.sl (.st (.pair (.int .i64) (.sl (.st (.sl (.str)))))))), (1, .v (.int .i64)), (5, .v (.int .i64))], []⟩
abbrev sh0_0 : ES := ⟨[(1, .v (.int .i64))], []⟩
def g0 (n m : Nat) (x : sh0.V) (kn : KN rsh) (kx : KX rsh) : Option (RVs rsh) := l0 n x.1.1 (fun y0 => kx 0 (sh0_0.enc ((y0, ()), (())))) m x.1.2.1 x.1.2.2.1
def T (n : Nat) : Tab (RVs rsh) := fun j e kn kx => match j with
 | 0 => ES.on sh0 e fun x => g0 n n x kn kx
 | _ => none
theorem mk (n : Nat) : MOk (cx n) := Z01 (mem_cons (laws_heldTupleS.ok n) Z00)
theorem u0 (n : Nat) (v : AVs ash) : Z08 (cx n) 31 (T n) (kr n v) 0 (.loop b0) :=
 Z0I (n := n) (CO _) (mk n) (MX _) an0 [(0, [1])] [0, 1, 5] sh0 (g0 n) (fun _ _ _ => rfl) (fun _ _ _ => rfl) (fun m x kn kx => by kernel_rfl) (l := []) (by kernel_rfl) (Z00)
theorem ok (n : Nat) : Z07 Tryz.prog 103 (ent n) :=
 Z0D (c := cx n) (e := ent n) (d := d) (CO _) (mk n) (MX _) an Tryz.func103 (by kernel_rfl) (T n) (l := [(0, .loop b0)]) (by kernel_rfl) (fun v => mem_cons (u0 n v) Z00) (fun v => by kernel_rfl)
end laws_heldRelS
namespace laws_heldDb
def F (n : Nat) (a1 : List (Int × List (List ByteArray))) (k2 : Int) : Option Int :=
 (laws_heldRelS.F n a1 k2).bind fun r3 =>
 if decide (r3 < 0) = true then
 some (-1)
 else
 some r3
def code : Code := Tryz.f35.body.getD .skip
abbrev ash : List ASh := [.ro (.st (.sl (.st (.pair (.int .i64) (.sl (.st (.sl (.str)))))))), .ro (.int .i64)]
abbrev rsh : List RSh := [.ro (.int .i64)]
def ent (n : Nat) : Z0V := ⟨ash, rsh, fun v => F n v.1 v.2.1⟩
def cx (n : Nat) : Ctx := Z0E Tryz.prog TYS [(103, laws_heldRelS.ent n)]
def d : FnD := ⟨code, 12, .nil, [(.tmp 4, .int .i64, .ro)]⟩
def an : An := .seq .nil (.seq .nil (.seq (.seq .nil (.cond (.seq .nil .nil) .nil)) (.seq .nil .nil)))
theorem ok (n : Nat) : Z07 Tryz.prog 35 (ent n) :=
 Z0F (c := cx n) (e := ent n) (d := d) (CO _) (Z01 (mem_cons (laws_heldRelS.ok n) Z00)) (MX _) an Tryz.func35 (by kernel_rfl) (by kernel_rfl) (fun v => by kernel_rfl)
end laws_heldDb
namespace laws_FnExactApply
def j2 (n : Nat) (t38 : Int) (t39 : List (Int × List (List ByteArray))) : Option Bool :=
 (laws_heldDb.F n t39 1).bind fun r40 =>
 if decide (r40 < 0) = true then
 some false
 else
 if (!decide (r40 = t38)) = true then
 some false
 else
 some true
def j1 (n : Nat) (t27 : List (Int × (List ByteArray) × Bool)) (t28 : Bool) (t29 : List (Int × List (List ByteArray))) (t30 : List (Int × List (List ByteArray))) (t31 : List (Int × List (List ByteArray))) : Option Bool :=
 (laws_markDb.F n t31 1).bind fun r32 =>
 (laws_heldDb.F n r32.2 1).bind fun r33 =>
 if decide (r33 < 0) = true then
 some false
 else
 if (!decide (r33 = r32.1)) = true then
 some false
 else
 (laws_toDb.F n t29).bind fun r34 =>
 (laws_toChangeS.F n t27).bind fun r35 =>
 (impl_Apply.F n r34 r35).bind fun r36 =>
 (laws_eqDb.F n r36.1 t30).bind fun r37 =>
 if (!r37) = false then
 if (!(r36.2 == t28)) = true then
 some false
 else
 j2 n r32.1 r32.2
 else
 some false
def j0 (n : Nat) (t12 : List (Int × (List ByteArray) × Bool)) (t13 : Bool) (t14 : Bool) (t15 : List (Int × List (List ByteArray))) (t16 : List (Int × List (List ByteArray))) (t17 : List (Int × List (List ByteArray))) (t18 : List (Int × (List ByteArray) × Bool)) (t19 : List (Int × List (List ByteArray))) : Option Bool :=
 (laws_toDb.F n t15).bind fun r20 =>
 (laws_eqDb.F n t17 r20).bind fun r21 =>
 if (!r21) = true then
 some false
 else
 (laws_toChangeS.F n t12).bind fun r22 =>
 (laws_eqChangeS.F n t18 r22).bind fun r23 =>
 if (!r23) = true then
 some false
 else
 (laws_markDb.F n t17 1).bind fun r24 =>
 (laws_markChangeS.F n t18 r24.1).bind fun r25 =>
 if (decide (r25.1 < 0)) = false then
 (laws_eqDb.F n t19 t16).bind fun r26 =>
 if (!r26) = false then
 if (!(t14 == t13)) = true then
 some false
 else
 j1 n t12 t13 t15 t16 t19
 else
 some false
 else
 some false
def F (n : Nat) (t1 : List (Int × List (List ByteArray))) (t2 : List (Int × (List ByteArray) × Bool)) : Option Bool :=
 (laws_szDb.F n t1 1048576).bind fun r3 =>
 if decide (r3 < 0) = true then
 some true
 else
 (laws_szChangeS.F n t2 r3).bind fun r4 =>
 if decide (r4 < 0) = true then
 some true
 else
 (laws_toDb.F n t1).bind fun r5 =>
 (laws_toChangeS.F n t2).bind fun r6 =>
 (spec_Apply.F n r5 r6).bind fun r7 =>
 (laws_toDb.F n t1).bind fun r8 =>
 (laws_toChangeS.F n t2).bind fun r9 =>
 (impl_Apply.F n r8 r9).bind fun r10 =>
 (laws_eqDb.F n r10.1 r7.1).bind fun r11 =>
 if (!r11) = false then
 if (!(r10.2 == r7.2)) = true then
 some false
 else
 j0 n t2 r7.2 r10.2 t1 r7.1 r8 r9 r10.1
 else
 some false
def code : Code := Tryz.f6.body.getD .skip
abbrev ash : List ASh := [.ro (.st (.sl (.st (.pair (.int .i64) (.sl (.st (.sl (.str)))))))), .ro (.sl (.st (.pair (.int .i64) (.pair (.st (.sl (.str))) (.bool)))))]
abbrev rsh : List RSh := [.ro .bool]
def ent (n : Nat) : Z0V := ⟨ash, rsh, fun v => F n v.1 v.2.1⟩
def cx (n : Nat) : Ctx := Z0E Tryz.prog TYS [(15, laws_szDb.ent n), (17, laws_toDb.ent n), (19, laws_eqChangeS.ent n), (20, laws_eqDb.ent n), (21, laws_markDb.ent n), (22, laws_markChangeS.ent n), (26, impl_Apply.ent n), (27, spec_Apply.ent n), (33, laws_szChangeS.ent n), (34, laws_toChangeS.ent n), (35, laws_heldDb.ent n)]
def d : FnD := ⟨code, 119, .nil, [(.tmp 4, .bool, .ro)]⟩
def kr (n : Nat) (v : AVs ash) : KN rsh := Z14 (cx n) d (Z0L ash v) (Z0T rsh)
def c2 : Code := (Code.r (Code.r (Code.r (Code.r (Code.r (Code.r (Code.r (Code.r (Code.r (Code.r (Code.r (Code.r (Code.r (Code.r (Code.r (Code.r (Code.r (Code.r (Code.r (Code.r (Code.r (Code.r (Code.r (Code.r (Code.r code)))))))))))))))))))))))))
def c1 : Code := (Code.r (Code.r (Code.r (Code.r (Code.r (Code.r (Code.r (Code.r (Code.r (Code.r (Code.r (Code.r (Code.r (Code.r (Code.r (Code.r (Code.r code)))))))))))))))))
def c0 : Code := (Code.r (Code.r (Code.r (Code.r (Code.r (Code.r (Code.r (Code.r (Code.r (Code.r (Code.r code)))))))))))
def an : An := .seq .nil (.seq .nil (.seq .nil (.seq (.seq .nil (.cond (.seq .nil .nil) .nil)) (.seq .nil (.seq (.seq .nil (.cond (.seq .nil .nil) .nil)) (.seq .nil (.seq (.reg [(36, .own (.pr .ro (.own (.own .ro)))), (8, .own .ro)]) (.seq (.reg [(38, .own (.pr .ro (.pr (.own .ro) .ro)))]) (.seq (.reg [(4138, .own (.pr .ro (.own (.own .ro)))), (10, .own .ro)]) (.seq (.seq .nil (.cond (.seq .nil .nil) .nil)) (.cut 0 [1, 2, 6, 7, 8, 9, 10, 11])))))))))))
def an2 : An := .seq .nil (.seq .nil (.seq (.seq .nil (.cond (.seq .nil .nil) .nil)) (.seq (.seq .nil (.cond (.seq .nil .nil) .nil)) (.seq .nil .nil))))
abbrev sh2 : ES := ⟨[(10, .pt 10 []), (13, .v (.int .i64))], [⟨10, .st (.sl (.st (.pair (.int .i64) (.sl (.st (.sl (.str))))))), .own (.pr .ro (.own (.own .ro))), true, false, none⟩]⟩
def an1 : An := .seq .nil (.seq .nil (.seq .nil (.seq .nil (.seq (.seq .nil (.cond (.seq .nil .nil) .nil)) (.seq (.seq .nil (.cond (.seq .nil .nil) .nil)) (.seq .nil (.seq (.seq .nil (.cond (.seq .nil .nil) .nil)) (.cut 2 [10, 13]))))))))
abbrev sh1 : ES := ⟨[(1, .v (.sl (.st (.pair (.int .i64) (.pair (.st (.sl (.str))) (.bool)))))), (2, .pt 2 []), (6, .pt 6 []), (7, .v .bool), (10, .pt 10 [])], [⟨2, .st (.sl (.st (.pair (.int .i64) (.sl (.st (.sl (.str))))))), .ro, true, false, none⟩, ⟨6, .st (.sl (.st (.pair (.int .i64) (.sl (.st (.sl (.str))))))), .ro, true, false, none⟩, ⟨10, .st (.sl (.st (.pair (.int .i64) (.sl (.st (.sl (.str))))))), .own (.pr .ro (.own (.own .ro))), true, false, none⟩]⟩
def an0 : An := .seq (.seq .nil (.cond (.seq .nil .nil) .nil)) (.seq (.seq .nil (.cond (.seq .nil .nil) .nil)) (.seq .nil (.seq .nil (.seq .nil (.seq (.seq .nil (.cond (.seq .nil .nil) .nil)) (.cut 1 [1, 2, 6, 7, 10]))))))
abbrev sh0 : ES := ⟨[(1, .v (.sl (.st (.pair (.int .i64) (.pair (.st (.sl (.str))) (.bool)))))), (2, .pt 2 []), (6, .pt 6 []), (7, .v .bool), (8, .pt 8 []), (9, .al 9 []), (10, .pt 10 []), (11, .v .bool)], [⟨2, .st (.sl (.st (.pair (.int .i64) (.sl (.st (.sl (.str))))))), .ro, true, false, none⟩, ⟨6, .st (.sl (.st (.pair (.int .i64) (.sl (.st (.sl (.str))))))), .ro, true, false, none⟩, ⟨8, .st (.sl (.st (.pair (.int .i64) (.sl (.st (.sl (.str))))))), .own (.pr .ro (.own (.own .ro))), true, false, none⟩, ⟨9, .sl (.st (.pair (.int .i64) (.pair (.st (.sl (.str))) (.bool)))), .own (.pr .ro (.pr (.own .ro) .ro)), false, false, none⟩, ⟨10, .st (.sl (.st (.pair (.int .i64) (.sl (.st (.sl (.str))))))), .own (.pr .ro (.own (.own .ro))), true, false, none⟩]⟩
def g2 (n m : Nat) (x : sh2.V) (kn : KN rsh) (kx : KX rsh) : Option (RVs rsh) := j2 n x.1.2.1 x.2.1
def g1 (n m : Nat) (x : sh1.V) (kn : KN rsh) (kx : KX rsh) : Option (RVs rsh) := j1 n x.1.1 x.1.2.2.2.1 x.2.1 x.2.2.1 x.2.2.2.1
def g0 (n m : Nat) (x : sh0.V) (kn : KN rsh) (kx : KX rsh) : Option (RVs rsh) := j0 n x.1.1 x.1.2.2.2.1 x.1.2.2.2.2.2.2.2.1 x.2.1 x.2.2.1 x.2.2.2.1 x.2.2.2.2.1 x.2.2.2.2.2.1
def T (n : Nat) : Tab (RVs rsh) := fun j e kn kx => match j with
 | 2 => ES.on sh2 e fun x => g2 n n x kn kx
 | 1 => ES.on sh1 e fun x => g1 n n x kn kx
 | 0 => ES.on sh0 e fun x => g0 n n x kn kx
 | _ => none
theorem mk (n : Nat) : MOk (cx n) := Z01 (mem_cons (laws_szDb.ok n) (mem_cons (laws_toDb.ok n) (mem_cons (laws_eqChangeS.ok n) (mem_cons (laws_eqDb.ok n) (mem_cons (laws_markDb.ok n) (mem_cons (laws_markChangeS.ok n) (mem_cons (impl_Apply.ok n) (mem_cons (spec_Apply.ok n) (mem_cons (laws_szChangeS.ok n) (mem_cons (laws_toChangeS.ok n) (mem_cons (laws_heldDb.ok n) Z00)))))))))))
theorem u2 (n : Nat) (v : AVs ash) : Z08 (cx n) 119 (T n) (kr n v) 2 (c2) :=
 Z17 (CO _) (mk n) (MX _) an2 [] [4] sh2 (g2 n n) (fun _ _ _ => rfl) (fun x kn kx => by kernel_rfl) (l := []) (by kernel_rfl) (Z00)
theorem u1 (n : Nat) (v : AVs ash) : Z08 (cx n) 119 (T n) (kr n v) 1 (c1) :=
 Z17 (CO _) (mk n) (MX _) an1 [] [4] sh1 (g1 n n) (fun _ _ _ => rfl) (fun x kn kx => by kernel_rfl) (l := [(2, c2)]) (by kernel_rfl) (mem_cons (u2 n v) Z00)
theorem u0 (n : Nat) (v : AVs ash) : Z08 (cx n) 119 (T n) (kr n v) 0 (c0) :=
 Z17 (CO _) (mk n) (MX _) an0 [] [4] sh0 (g0 n n) (fun _ _ _ => rfl) (fun x kn kx => by kernel_rfl) (l := [(1, c1)]) (by kernel_rfl) (mem_cons (u1 n v) Z00)
theorem ok (n : Nat) : Z07 Tryz.prog 6 (ent n) :=
 Z0D (c := cx n) (e := ent n) (d := d) (CO _) (mk n) (MX _) an Tryz.func6 (by kernel_rfl) (T n) (l := [(0, c0)]) (by kernel_rfl) (fun v => mem_cons (u0 n v) Z00) (fun v => by kernel_rfl)
end laws_FnExactApply
end
end Go.Abs
