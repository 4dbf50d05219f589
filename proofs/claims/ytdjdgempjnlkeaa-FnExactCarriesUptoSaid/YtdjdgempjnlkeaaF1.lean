/- The functions, and that a call of each comes to it. Conditions: none. -/
import Derived.Test.YtdjdgempjnlkeaaF0
namespace Go.Abs
open Go.Proofs
set_option linter.unusedVariables false
namespace laws_markExpS
def l0 (n : Nat) (K0 : Int → (List (Int × ByteArray × List Int)) → Option (Int × List (Int × ByteArray × List Int))) : Nat → Int → Int → (List (Int × ByteArray × List Int)) → Option (Int × List (Int × ByteArray × List Int))
 | 0, _, _, _ => none
 | k + 1, k3, i4, a5 =>
 if decide (i4 < (List.length a5 : Int)) = true then
 if (0 : Int) ≤ i4 ∧ i4 < (List.length a5 : Int) then
 let w6 : List (Int × ByteArray × List Int) := List.set a5 (Int.toNat i4) (k3, (List.getD a5 (Int.toNat i4) (0, (ByteArray.empty, []))).2)
 (laws_markText.F n (IntKind.i64.wrap (k3 + 1))).bind fun r7 =>
 if (0 : Int) ≤ i4 ∧ i4 < (List.length w6 : Int) then
 let w8 : List (Int × ByteArray × List Int) := List.set w6 (Int.toNat i4) ((List.getD w6 (Int.toNat i4) (0, (ByteArray.empty, []))).1, (r7, ((List.getD w6 (Int.toNat i4) (0, (ByteArray.empty, []))).2).2))
 if (0 : Int) ≤ i4 ∧ i4 < (List.length w8 : Int) then
 (laws_markIntS.F n (((List.getD w8 (Int.toNat i4) (0, (ByteArray.empty, []))).2).2) (IntKind.i64.wrap ((IntKind.i64.wrap (k3 + 1)) + 1))).bind fun r9 =>
 let w10 : List (Int × ByteArray × List Int) := List.set w8 (Int.toNat i4) ((List.getD w8 (Int.toNat i4) (0, (ByteArray.empty, []))).1, (((List.getD w8 (Int.toNat i4) (0, (ByteArray.empty, []))).2).1, r9.2))
 l0 n K0 k r9.1 (IntKind.i64.wrap (i4 + 1)) w10
 else
 none
 else
 none
 else
 none
 else
 K0 k3 a5
def F (n : Nat) (a1 : List (Int × ByteArray × List Int)) (k2 : Int) : Option (Int × List (Int × ByteArray × List Int)) :=
 l0 n (fun k11 a12 =>
 some (k11, a12)) n k2 0 a1
noncomputable def code : Code := Try.f41.body.getD .skip
abbrev ash : List ASh := [.ms (.sl (.st (.pair (.int .i64) (.pair (.str) (.sl (.int .i64)))))) (.own (.pr .ro (.pr .ro (.own .ro)))), .ro (.int .i64)]
abbrev rsh : List RSh := [.ro (.int .i64), .out (.sl (.st (.pair (.int .i64) (.pair (.str) (.sl (.int .i64))))))]
def ent (n : Nat) : FEnt := ⟨ash, rsh, fun v => F n v.1 v.2.1⟩
noncomputable def cx (n : Nat) : Ctx := mkCtx Try.prog TYS [(68, laws_markText.ent n), (69, laws_markIntS.ent n)]
noncomputable def d : FnD := ⟨code, 35, .nil, [(.tmp 4, .int .i64, .ro)]⟩
noncomputable def kr (n : Nat) (v : AVs ash) : KN rsh := endK (cx n) d (avEnc ash v) (rvDec rsh)
noncomputable def b0 : Code := Code.l (Code.l (Code.r (Code.l (Code.r code))))
def an : An := .seq .nil (.seq (.seq .nil (.block (some [0, 1]) (.cut 0 [0, 1, 5]))) (.seq .nil .nil))
def an0 : An := .seq (.seq .nil (.cond .nil .nil)) (.seq (.block (some [0, 1, 5]) (.seq .nil (.seq .nil (.seq .nil (.seq .nil .nil))))) .nil)
abbrev sh0 : ES := ⟨[(0, .al 0 []), (1, .v (.int .i64)), (5, .v (.int .i64))], [⟨0, .sl (.st (.pair (.int .i64) (.pair (.str) (.sl (.int .i64))))), .own (.pr .ro (.pr .ro (.own .ro))), false, true, none⟩]⟩
abbrev sh0_0 : ES := ⟨[(0, .al 0 []), (1, .v (.int .i64))], [⟨0, .sl (.st (.pair (.int .i64) (.pair (.str) (.sl (.int .i64))))), .own (.pr .ro (.pr .ro (.own .ro))), false, true, none⟩]⟩
def g0 (n m : Nat) (x : sh0.V) (kn : KN rsh) (kx : KX rsh) : Option (RVs rsh) := l0 n (fun y0 y1 => kx 0 (sh0_0.enc (((()), y0, ()), (y1, ())))) m x.1.2.1 x.1.2.2.1 x.2.1
def T (n : Nat) : Tab (RVs rsh) := fun j e kn kx => match j with
 | 0 => ES.on sh0 e fun x => g0 n n x kn kx
 | _ => none
theorem mk (n : Nat) : MOk (cx n) := mkCtx_ok (mem_cons (laws_markText.ok n) (mem_cons (laws_markIntS.ok n) mem_nil))
theorem u0 (n : Nat) (v : AVs ash) : UnitOk (cx n) 35 (T n) (kr n v) 0 (.loop b0) :=
 loop_u (n := n) (CO _) (mk n) (MX _) an0 [(0, [0, 1])] [0, 1, 5] sh0 (g0 n) (fun _ _ _ => rfl) (fun _ _ _ => rfl) (fun m x kn kx => by kernel_rfl) (l := []) (by kernel_rfl) (mem_nil)
theorem ok (n : Nat) : EntOk Try.prog 41 (ent n) :=
 ent_okU (c := cx n) (e := ent n) (d := d) (CO _) (mk n) (MX _) an Try.func41 (by kernel_rfl) (T n) (l := [(0, .loop b0)]) (by kernel_rfl) (fun v => mem_cons (u0 n v) mem_nil) (fun v => by kernel_rfl)
end laws_markExpS
namespace laws_markLit
def F (n : Nat) (a1 : Int × ByteArray × List Int) (k2 : Int) : Option (Int × Int × ByteArray × List Int) :=
 (laws_markIntS.F n a1.2.2 k2).bind fun r3 =>
 some (r3.1, (a1.1, (a1.2.1, r3.2)))
noncomputable def code : Code := Try.f42.body.getD .skip
abbrev ash : List ASh := [.ms (.st (.pair (.int .i64) (.pair (.str) (.sl (.int .i64))))) (.pr .ro (.pr .ro (.own .ro))), .ro (.int .i64)]
abbrev rsh : List RSh := [.ro (.int .i64), .out (.st (.pair (.int .i64) (.pair (.str) (.sl (.int .i64)))))]
def ent (n : Nat) : FEnt := ⟨ash, rsh, fun v => F n v.1 v.2.1⟩
noncomputable def cx (n : Nat) : Ctx := mkCtx Try.prog TYS [(69, laws_markIntS.ent n)]
noncomputable def d : FnD := ⟨code, 10, .nil, [(.tmp 4, .int .i64, .ro)]⟩
def an : An := .seq .nil (.seq .nil (.seq .nil .nil))
theorem ok (n : Nat) : EntOk Try.prog 42 (ent n) :=
 ent_ok0 (c := cx n) (e := ent n) (d := d) (CO _) (mkCtx_ok (mem_cons (laws_markIntS.ok n) mem_nil)) (MX _) an Try.func42 (by kernel_rfl) (by kernel_rfl) (fun v => by kernel_rfl)
end laws_markLit
namespace laws_markLitS
def l0 (n : Nat) (K0 : Int → (List (Int × ByteArray × List Int)) → Option (Int × List (Int × ByteArray × List Int))) : Nat → Int → Int → (List (Int × ByteArray × List Int)) → Option (Int × List (Int × ByteArray × List Int))
 | 0, _, _, _ => none
 | k + 1, k3, i4, a5 =>
 if decide (i4 < (List.length a5 : Int)) = true then
 if (0 : Int) ≤ i4 ∧ i4 < (List.length a5 : Int) then
 let w6 : List (Int × ByteArray × List Int) := List.set a5 (Int.toNat i4) (k3, (List.getD a5 (Int.toNat i4) (0, (ByteArray.empty, []))).2)
 (laws_markText.F n (IntKind.i64.wrap (k3 + 1))).bind fun r7 =>
 if (0 : Int) ≤ i4 ∧ i4 < (List.length w6 : Int) then
 let w8 : List (Int × ByteArray × List Int) := List.set w6 (Int.toNat i4) ((List.getD w6 (Int.toNat i4) (0, (ByteArray.empty, []))).1, (r7, ((List.getD w6 (Int.toNat i4) (0, (ByteArray.empty, []))).2).2))
 if (0 : Int) ≤ i4 ∧ i4 < (List.length w8 : Int) then
 (laws_markIntS.F n (((List.getD w8 (Int.toNat i4) (0, (ByteArray.empty, []))).2).2) (IntKind.i64.wrap ((IntKind.i64.wrap (k3 + 1)) + 1))).bind fun r9 =>
 let w10 : List (Int × ByteArray × List Int) := List.set w8 (Int.toNat i4) ((List.getD w8 (Int.toNat i4) (0, (ByteArray.empty, []))).1, (((List.getD w8 (Int.toNat i4) (0, (ByteArray.empty, []))).2).1, r9.2))
 l0 n K0 k r9.1 (IntKind.i64.wrap (i4 + 1)) w10
 else
 none
 else
 none
 else
 none
 else
 K0 k3 a5
def F (n : Nat) (a1 : List (Int × ByteArray × List Int)) (k2 : Int) : Option (Int × List (Int × ByteArray × List Int)) :=
 l0 n (fun k11 a12 =>
 some (k11, a12)) n k2 0 a1
noncomputable def code : Code := Try.f43.body.getD .skip
abbrev ash : List ASh := [.ms (.sl (.st (.pair (.int .i64) (.pair (.str) (.sl (.int .i64)))))) (.own (.pr .ro (.pr .ro (.own .ro)))), .ro (.int .i64)]
abbrev rsh : List RSh := [.ro (.int .i64), .out (.sl (.st (.pair (.int .i64) (.pair (.str) (.sl (.int .i64))))))]
def ent (n : Nat) : FEnt := ⟨ash, rsh, fun v => F n v.1 v.2.1⟩
noncomputable def cx (n : Nat) : Ctx := mkCtx Try.prog TYS [(68, laws_markText.ent n), (69, laws_markIntS.ent n)]
noncomputable def d : FnD := ⟨code, 35, .nil, [(.tmp 4, .int .i64, .ro)]⟩
noncomputable def kr (n : Nat) (v : AVs ash) : KN rsh := endK (cx n) d (avEnc ash v) (rvDec rsh)
noncomputable def b0 : Code := Code.l (Code.l (Code.r (Code.l (Code.r code))))
def an : An := .seq .nil (.seq (.seq .nil (.block (some [0, 1]) (.cut 0 [0, 1, 5]))) (.seq .nil .nil))
def an0 : An := .seq (.seq .nil (.cond .nil .nil)) (.seq (.block (some [0, 1, 5]) (.seq .nil (.seq .nil (.seq .nil (.seq .nil .nil))))) .nil)
abbrev sh0 : ES := ⟨[(0, .al 0 []), (1, .v (.int .i64)), (5, .v (.int .i64))], [⟨0, .sl (.st (.pair (.int .i64) (.pair (.str) (.sl (.int .i64))))), .own (.pr .ro (.pr .ro (.own .ro))), false, true, none⟩]⟩
abbrev sh0_0 : ES := ⟨[(0, .al 0 []), (1, .v (.int .i64))], [⟨0, .sl (.st (.pair (.int .i64) (.pair (.str) (.sl (.int .i64))))), .own (.pr .ro (.pr .ro (.own .ro))), false, true, none⟩]⟩
def g0 (n m : Nat) (x : sh0.V) (kn : KN rsh) (kx : KX rsh) : Option (RVs rsh) := l0 n (fun y0 y1 => kx 0 (sh0_0.enc (((()), y0, ()), (y1, ())))) m x.1.2.1 x.1.2.2.1 x.2.1
def T (n : Nat) : Tab (RVs rsh) := fun j e kn kx => match j with
 | 0 => ES.on sh0 e fun x => g0 n n x kn kx
 | _ => none
theorem mk (n : Nat) : MOk (cx n) := mkCtx_ok (mem_cons (laws_markText.ok n) (mem_cons (laws_markIntS.ok n) mem_nil))
theorem u0 (n : Nat) (v : AVs ash) : UnitOk (cx n) 35 (T n) (kr n v) 0 (.loop b0) :=
 loop_u (n := n) (CO _) (mk n) (MX _) an0 [(0, [0, 1])] [0, 1, 5] sh0 (g0 n) (fun _ _ _ => rfl) (fun _ _ _ => rfl) (fun m x kn kx => by kernel_rfl) (l := []) (by kernel_rfl) (mem_nil)
theorem ok (n : Nat) : EntOk Try.prog 43 (ent n) :=
 ent_okU (c := cx n) (e := ent n) (d := d) (CO _) (mk n) (MX _) an Try.func43 (by kernel_rfl) (T n) (l := [(0, .loop b0)]) (by kernel_rfl) (fun v => mem_cons (u0 n v) mem_nil) (fun v => by kernel_rfl)
end laws_markLitS
namespace laws_markRule
def F (n : Nat) (a1 : (List (Int × ByteArray × List Int)) × (Int × ByteArray × List Int) × List (Int × ByteArray × List Int)) (k2 : Int) : Option (Int × (List (Int × ByteArray × List Int)) × (Int × ByteArray × List Int) × List (Int × ByteArray × List Int)) :=
 (laws_markExpS.F n a1.1 k2).bind fun r3 =>
 (laws_markLit.F n a1.2.1 r3.1).bind fun r4 =>
 (laws_markLitS.F n a1.2.2 r4.1).bind fun r5 =>
 some (r5.1, (r3.2, (r4.2, r5.2)))
noncomputable def code : Code := Try.f17.body.getD .skip
abbrev ash : List ASh := [.ms (.st (.pair (.sl (.st (.pair (.int .i64) (.pair (.str) (.sl (.int .i64)))))) (.pair (.st (.pair (.int .i64) (.pair (.str) (.sl (.int .i64))))) (.sl (.st (.pair (.int .i64) (.pair (.str) (.sl (.int .i64))))))))) (.pr (.own (.pr .ro (.pr .ro (.own .ro)))) (.pr (.pr .ro (.pr .ro (.own .ro))) (.own (.pr .ro (.pr .ro (.own .ro)))))), .ro (.int .i64)]
abbrev rsh : List RSh := [.ro (.int .i64), .out (.st (.pair (.sl (.st (.pair (.int .i64) (.pair (.str) (.sl (.int .i64)))))) (.pair (.st (.pair (.int .i64) (.pair (.str) (.sl (.int .i64))))) (.sl (.st (.pair (.int .i64) (.pair (.str) (.sl (.int .i64)))))))))]
def ent (n : Nat) : FEnt := ⟨ash, rsh, fun v => F n v.1 v.2.1⟩
noncomputable def cx (n : Nat) : Ctx := mkCtx Try.prog TYS [(41, laws_markExpS.ent n), (42, laws_markLit.ent n), (43, laws_markLitS.ent n)]
noncomputable def d : FnD := ⟨code, 18, .nil, [(.tmp 4, .int .i64, .ro)]⟩
def an : An := .seq .nil (.seq .nil (.seq .nil (.seq .nil (.seq .nil .nil))))
theorem ok (n : Nat) : EntOk Try.prog 17 (ent n) :=
 ent_ok0 (c := cx n) (e := ent n) (d := d) (CO _) (mkCtx_ok (mem_cons (laws_markExpS.ok n) (mem_cons (laws_markLit.ok n) (mem_cons (laws_markLitS.ok n) mem_nil)))) (MX _) an Try.func17 (by kernel_rfl) (by kernel_rfl) (fun v => by kernel_rfl)
end laws_markRule
namespace laws_markStringS
def l0 (n : Nat) (K0 : Int → (List ByteArray) → Option (Int × List ByteArray)) : Nat → Int → Int → (List ByteArray) → Option (Int × List ByteArray)
 | 0, _, _, _ => none
 | k + 1, k3, i4, a5 =>
 if decide (i4 < (List.length a5 : Int)) = true then
 (laws_markText.F n k3).bind fun r6 =>
 if (0 : Int) ≤ i4 ∧ i4 < (List.length a5 : Int) then
 l0 n K0 k (IntKind.i64.wrap (k3 + 1)) (IntKind.i64.wrap (i4 + 1)) (List.set a5 (Int.toNat i4) r6)
 else
 none
 else
 K0 k3 a5
def F (n : Nat) (a1 : List ByteArray) (k2 : Int) : Option (Int × List ByteArray) :=
 l0 n (fun k7 a8 =>
 some (k7, a8)) n k2 0 a1
noncomputable def code : Code := Try.f44.body.getD .skip
abbrev ash : List ASh := [.ms (.sl (.str)) (.own .ro), .ro (.int .i64)]
abbrev rsh : List RSh := [.ro (.int .i64), .out (.sl (.str))]
def ent (n : Nat) : FEnt := ⟨ash, rsh, fun v => F n v.1 v.2.1⟩
noncomputable def cx (n : Nat) : Ctx := mkCtx Try.prog TYS [(68, laws_markText.ent n)]
noncomputable def d : FnD := ⟨code, 20, .nil, [(.tmp 4, .int .i64, .ro)]⟩
noncomputable def kr (n : Nat) (v : AVs ash) : KN rsh := endK (cx n) d (avEnc ash v) (rvDec rsh)
noncomputable def b0 : Code := Code.l (Code.l (Code.r (Code.l (Code.r code))))
def an : An := .seq .nil (.seq (.seq .nil (.block (some [0, 1]) (.cut 0 [0, 1, 5]))) (.seq .nil .nil))
def an0 : An := .seq (.seq .nil (.cond .nil .nil)) (.seq (.block (some [0, 1, 5]) (.seq .nil .nil)) .nil)
abbrev sh0 : ES := ⟨[(0, .al 0 []), (1, .v (.int .i64)), (5, .v (.int .i64))], [⟨0, .sl (.str), .own .ro, false, true, none⟩]⟩
abbrev sh0_0 : ES := ⟨[(0, .al 0 []), (1, .v (.int .i64))], [⟨0, .sl (.str), .own .ro, false, true, none⟩]⟩
def g0 (n m : Nat) (x : sh0.V) (kn : KN rsh) (kx : KX rsh) : Option (RVs rsh) := l0 n (fun y0 y1 => kx 0 (sh0_0.enc (((()), y0, ()), (y1, ())))) m x.1.2.1 x.1.2.2.1 x.2.1
def T (n : Nat) : Tab (RVs rsh) := fun j e kn kx => match j with
 | 0 => ES.on sh0 e fun x => g0 n n x kn kx
 | _ => none
theorem mk (n : Nat) : MOk (cx n) := mkCtx_ok (mem_cons (laws_markText.ok n) mem_nil)
theorem u0 (n : Nat) (v : AVs ash) : UnitOk (cx n) 20 (T n) (kr n v) 0 (.loop b0) :=
 loop_u (n := n) (CO _) (mk n) (MX _) an0 [(0, [0, 1])] [0, 1, 5] sh0 (g0 n) (fun _ _ _ => rfl) (fun _ _ _ => rfl) (fun m x kn kx => by kernel_rfl) (l := []) (by kernel_rfl) (mem_nil)
theorem ok (n : Nat) : EntOk Try.prog 44 (ent n) :=
 ent_okU (c := cx n) (e := ent n) (d := d) (CO _) (mk n) (MX _) an Try.func44 (by kernel_rfl) (T n) (l := [(0, .loop b0)]) (by kernel_rfl) (fun v => mem_cons (u0 n v) mem_nil) (fun v => by kernel_rfl)
end laws_markStringS
namespace laws_markMatch
def F (n : Nat) (a1 : (List ByteArray) × List ByteArray) (k2 : Int) : Option (Int × (List ByteArray) × List ByteArray) :=
 (laws_markStringS.F n a1.1 k2).bind fun r3 =>
 (laws_markStringS.F n a1.2 r3.1).bind fun r4 =>
 some (r4.1, (r3.2, r4.2))
noncomputable def code : Code := Try.f18.body.getD .skip
abbrev ash : List ASh := [.ms (.st (.pair (.sl (.str)) (.sl (.str)))) (.pr (.own .ro) (.own .ro)), .ro (.int .i64)]
abbrev rsh : List RSh := [.ro (.int .i64), .out (.st (.pair (.sl (.str)) (.sl (.str))))]
def ent (n : Nat) : FEnt := ⟨ash, rsh, fun v => F n v.1 v.2.1⟩
noncomputable def cx (n : Nat) : Ctx := mkCtx Try.prog TYS [(44, laws_markStringS.ent n)]
noncomputable def d : FnD := ⟨code, 14, .nil, [(.tmp 4, .int .i64, .ro)]⟩
def an : An := .seq .nil (.seq .nil (.seq .nil (.seq .nil .nil)))
theorem ok (n : Nat) : EntOk Try.prog 18 (ent n) :=
 ent_ok0 (c := cx n) (e := ent n) (d := d) (CO _) (mkCtx_ok (mem_cons (laws_markStringS.ok n) mem_nil)) (MX _) an Try.func18 (by kernel_rfl) (by kernel_rfl) (fun v => by kernel_rfl)
end laws_markMatch
namespace laws_heldStringS
def l0 (n : Nat) (a3 : List ByteArray) (K0 : Int → Option Int) : Nat → Int → Int → Option Int
 | 0, _, _ => none
 | k + 1, k4, i5 =>
 if decide (i5 < (List.length a3 : Int)) = true then
 if (0 : Int) ≤ i5 ∧ i5 < (List.length a3 : Int) then
 (laws_markText.F n k4).bind fun r6 =>
 if (!(Abs.seq (List.getD a3 (Int.toNat i5) ByteArray.empty) r6)) = true then
 some (-1)
 else
 l0 n a3 K0 k (IntKind.i64.wrap (k4 + 1)) (IntKind.i64.wrap (i5 + 1))
 else
 none
 else
 K0 k4
def F (n : Nat) (a1 : List ByteArray) (k2 : Int) : Option Int :=
 l0 n a1 (fun k7 =>
 some k7) n k2 0
noncomputable def code : Code := Try.f45.body.getD .skip
abbrev ash : List ASh := [.ro (.sl (.str)), .ro (.int .i64)]
abbrev rsh : List RSh := [.ro (.int .i64)]
def ent (n : Nat) : FEnt := ⟨ash, rsh, fun v => F n v.1 v.2.1⟩
noncomputable def cx (n : Nat) : Ctx := mkCtx Try.prog TYS [(68, laws_markText.ent n)]
noncomputable def d : FnD := ⟨code, 22, .nil, [(.tmp 4, .int .i64, .ro)]⟩
noncomputable def kr (n : Nat) (v : AVs ash) : KN rsh := endK (cx n) d (avEnc ash v) (rvDec rsh)
noncomputable def b0 : Code := Code.l (Code.l (Code.r (Code.l (Code.r code))))
def an : An := .seq .nil (.seq (.seq .nil (.block (some [1]) (.cut 0 [0, 1, 5]))) (.seq .nil .nil))
def an0 : An := .seq (.seq .nil (.cond .nil .nil)) (.seq (.block (some [0, 1, 5]) (.seq (.seq .nil (.cond (.seq .nil .nil) .nil)) .nil)) .nil)
abbrev sh0 : ES := ⟨[(0, .v (.sl (.str))), (1, .v (.int .i64)), (5, .v (.int .i64))], []⟩
abbrev sh0_0 : ES := ⟨[(1, .v (.int .i64))], []⟩
def g0 (n m : Nat) (x : sh0.V) (kn : KN rsh) (kx : KX rsh) : Option (RVs rsh) := l0 n x.1.1 (fun y0 => kx 0 (sh0_0.enc ((y0, ()), (())))) m x.1.2.1 x.1.2.2.1
def T (n : Nat) : Tab (RVs rsh) := fun j e kn kx => match j with
 | 0 => ES.on sh0 e fun x => g0 n n x kn kx
 | _ => none
theorem mk (n : Nat) : MOk (cx n) := mkCtx_ok (mem_cons (laws_markText.ok n) mem_nil)
theorem u0 (n : Nat) (v : AVs ash) : UnitOk (cx n) 22 (T n) (kr n v) 0 (.loop b0) :=
 loop_u (n := n) (CO _) (mk n) (MX _) an0 [(0, [1])] [0, 1, 5] sh0 (g0 n) (fun _ _ _ => rfl) (fun _ _ _ => rfl) (fun m x kn kx => by kernel_rfl) (l := []) (by kernel_rfl) (mem_nil)
theorem ok (n : Nat) : EntOk Try.prog 45 (ent n) :=
 ent_okU (c := cx n) (e := ent n) (d := d) (CO _) (mk n) (MX _) an Try.func45 (by kernel_rfl) (T n) (l := [(0, .loop b0)]) (by kernel_rfl) (fun v => mem_cons (u0 n v) mem_nil) (fun v => by kernel_rfl)
end laws_heldStringS
namespace laws_heldMatch
def F (n : Nat) (a1 : (List ByteArray) × List ByteArray) (k2 : Int) : Option Int :=
 (laws_heldStringS.F n a1.1 k2).bind fun r3 =>
 if decide (r3 < 0) = true then
 some (-1)
 else
 (laws_heldStringS.F n a1.2 r3).bind fun r4 =>
 if decide (r4 < 0) = true then
 some (-1)
 else
 some r4
noncomputable def code : Code := Try.f19.body.getD .skip
abbrev ash : List ASh := [.ro (.st (.pair (.sl (.str)) (.sl (.str)))), .ro (.int .i64)]
abbrev rsh : List RSh := [.ro (.int .i64)]
def ent (n : Nat) : FEnt := ⟨ash, rsh, fun v => F n v.1 v.2.1⟩
noncomputable def cx (n : Nat) : Ctx := mkCtx Try.prog TYS [(45, laws_heldStringS.ent n)]
noncomputable def d : FnD := ⟨code, 18, .nil, [(.tmp 4, .int .i64, .ro)]⟩
def an : An := .seq .nil (.seq .nil (.seq (.seq .nil (.cond (.seq .nil .nil) .nil)) (.seq .nil (.seq (.seq .nil (.cond (.seq .nil .nil) .nil)) (.seq .nil .nil)))))
theorem ok (n : Nat) : EntOk Try.prog 19 (ent n) :=
 ent_ok0 (c := cx n) (e := ent n) (d := d) (CO _) (mkCtx_ok (mem_cons (laws_heldStringS.ok n) mem_nil)) (MX _) an Try.func19 (by kernel_rfl) (by kernel_rfl) (fun v => by kernel_rfl)
end laws_heldMatch
namespace laws_FnExactCarries
def j2 (n : Nat) (t38 : Int) (t39 : (List ByteArray) × List ByteArray) : Option Bool :=
 (laws_heldMatch.F n t39 1).bind fun r40 =>
 if decide (r40 < 0) = true then
 some false
 else
 if (!decide (r40 = t38)) = true then
 some false
 else
 some true
def j1 (n : Nat) (t27 : Bool) (t28 : (List (Int × ByteArray × List Int)) × (Int × ByteArray × List Int) × List (Int × ByteArray × List Int)) (t29 : (List (Int × ByteArray × List Int)) × (Int × ByteArray × List Int) × List (Int × ByteArray × List Int)) (t30 : (List ByteArray) × List ByteArray) (t31 : (List ByteArray) × List ByteArray) : Option Bool :=
 (laws_markMatch.F n t31 1).bind fun r32 =>
 (laws_heldMatch.F n r32.2 1).bind fun r33 =>
 if decide (r33 < 0) = true then
 some false
 else
 if (!decide (r33 = r32.1)) = true then
 some false
 else
 (laws_toRule.F n t28).bind fun r34 =>
 (laws_toRule.F n t29).bind fun r35 =>
 (impl_Carries.F n r34 r35).bind fun r36 =>
 (laws_eqMatch.F n r36.1 t30).bind fun r37 =>
 if (!r37) = false then
 if (!(r36.2 == t27)) = true then
 some false
 else
 j2 n r32.1 r32.2
 else
 some false
def j0 (n : Nat) (t12 : Bool) (t13 : Bool) (t14 : (List (Int × ByteArray × List Int)) × (Int × ByteArray × List Int) × List (Int × ByteArray × List Int)) (t15 : (List (Int × ByteArray × List Int)) × (Int × ByteArray × List Int) × List (Int × ByteArray × List Int)) (t16 : (List ByteArray) × List ByteArray) (t17 : (List (Int × ByteArray × List Int)) × (Int × ByteArray × List Int) × List (Int × ByteArray × List Int)) (t18 : (List (Int × ByteArray × List Int)) × (Int × ByteArray × List Int) × List (Int × ByteArray × List Int)) (t19 : (List ByteArray) × List ByteArray) : Option Bool :=
 (laws_toRule.F n t14).bind fun r20 =>
 (laws_eqRule.F n t17 r20).bind fun r21 =>
 if (!r21) = true then
 some false
 else
 (laws_toRule.F n t15).bind fun r22 =>
 (laws_eqRule.F n t18 r22).bind fun r23 =>
 if (!r23) = true then
 some false
 else
 (laws_markRule.F n t17 1).bind fun r24 =>
 (laws_markRule.F n t18 r24.1).bind fun r25 =>
 if (decide (r25.1 < 0)) = false then
 (laws_eqMatch.F n t19 t16).bind fun r26 =>
 if (!r26) = false then
 if (!(t13 == t12)) = true then
 some false
 else
 j1 n t12 t14 t15 t16 t19
 else
 some false
 else
 some false
def F (n : Nat) (t1 : (List (Int × ByteArray × List Int)) × (Int × ByteArray × List Int) × List (Int × ByteArray × List Int)) (t2 : (List (Int × ByteArray × List Int)) × (Int × ByteArray × List Int) × List (Int × ByteArray × List Int)) : Option Bool :=
 (laws_szRule.F n t1 1048576).bind fun r3 =>
 if decide (r3 < 0) = true then
 some true
 else
 (laws_szRule.F n t2 r3).bind fun r4 =>
 if decide (r4 < 0) = true then
 some true
 else
 (laws_toRule.F n t1).bind fun r5 =>
 (laws_toRule.F n t2).bind fun r6 =>
 (spec_Carries.F n r5 r6).bind fun r7 =>
 (laws_toRule.F n t1).bind fun r8 =>
 (laws_toRule.F n t2).bind fun r9 =>
 (impl_Carries.F n r8 r9).bind fun r10 =>
 (laws_eqMatch.F n r10.1 r7.1).bind fun r11 =>
 if (!r11) = false then
 if (!(r10.2 == r7.2)) = true then
 some false
 else
 j0 n r7.2 r10.2 t1 t2 r7.1 r8 r9 r10.1
 else
 some false
noncomputable def code : Code := Try.f5.body.getD .skip
abbrev ash : List ASh := [.ro (.st (.pair (.sl (.st (.pair (.int .i64) (.pair (.str) (.sl (.int .i64)))))) (.pair (.st (.pair (.int .i64) (.pair (.str) (.sl (.int .i64))))) (.sl (.st (.pair (.int .i64) (.pair (.str) (.sl (.int .i64))))))))), .ro (.st (.pair (.sl (.st (.pair (.int .i64) (.pair (.str) (.sl (.int .i64)))))) (.pair (.st (.pair (.int .i64) (.pair (.str) (.sl (.int .i64))))) (.sl (.st (.pair (.int .i64) (.pair (.str) (.sl (.int .i64)))))))))]
abbrev rsh : List RSh := [.ro .bool]
def ent (n : Nat) : FEnt := ⟨ash, rsh, fun v => F n v.1 v.2.1⟩
noncomputable def cx (n : Nat) : Ctx := mkCtx Try.prog TYS [(7, laws_szRule.ent n), (9, laws_toRule.ent n), (11, laws_eqRule.ent n), (14, spec_Carries.ent n), (15, impl_Carries.ent n), (16, laws_eqMatch.ent n), (17, laws_markRule.ent n), (18, laws_markMatch.ent n), (19, laws_heldMatch.ent n)]
noncomputable def d : FnD := ⟨code, 119, .nil, [(.tmp 4, .bool, .ro)]⟩
noncomputable def kr (n : Nat) (v : AVs ash) : KN rsh := endK (cx n) d (avEnc ash v) (rvDec rsh)
noncomputable def c2 : Code := (Code.r (Code.r (Code.r (Code.r (Code.r (Code.r (Code.r (Code.r (Code.r (Code.r (Code.r (Code.r (Code.r (Code.r (Code.r (Code.r (Code.r (Code.r (Code.r (Code.r (Code.r (Code.r (Code.r (Code.r (Code.r code)))))))))))))))))))))))))
noncomputable def c1 : Code := (Code.r (Code.r (Code.r (Code.r (Code.r (Code.r (Code.r (Code.r (Code.r (Code.r (Code.r (Code.r (Code.r (Code.r (Code.r (Code.r (Code.r code)))))))))))))))))
noncomputable def c0 : Code := (Code.r (Code.r (Code.r (Code.r (Code.r (Code.r (Code.r (Code.r (Code.r (Code.r (Code.r code)))))))))))
def an : An := .seq .nil (.seq .nil (.seq .nil (.seq (.seq .nil (.cond (.seq .nil .nil) .nil)) (.seq .nil (.seq (.seq .nil (.cond (.seq .nil .nil) .nil)) (.seq .nil (.seq (.reg [(36, .pr (.own (.pr .ro (.pr .ro (.own .ro)))) (.pr (.pr .ro (.pr .ro (.own .ro))) (.own (.pr .ro (.pr .ro (.own .ro)))))), (8, .pr (.own .ro) (.pr (.pr .ro (.pr .ro (.own .ro))) (.own .ro)))]) (.seq (.reg [(38, .pr (.own (.pr .ro (.pr .ro (.own .ro)))) (.pr (.pr .ro (.pr .ro (.own .ro))) (.own (.pr .ro (.pr .ro (.own .ro)))))), (9, .pr (.own .ro) (.pr (.pr .ro (.pr .ro (.own .ro))) (.own .ro)))]) (.seq (.reg [(4138, .pr (.own .ro) (.own .ro)), (10, .pr (.own .ro) (.own .ro))]) (.seq (.seq .nil (.cond (.seq .nil .nil) .nil)) (.cut 0 [2, 3, 6, 7, 8, 9, 10, 11])))))))))))
def an2 : An := .seq .nil (.seq .nil (.seq (.seq .nil (.cond (.seq .nil .nil) .nil)) (.seq (.seq .nil (.cond (.seq .nil .nil) .nil)) (.seq .nil .nil))))
abbrev sh2 : ES := ⟨[(10, .pt 10 []), (13, .v (.int .i64))], [⟨10, .st (.pair (.sl (.str)) (.sl (.str))), .pr (.own .ro) (.own .ro), true, false, none⟩]⟩
def an1 : An := .seq .nil (.seq .nil (.seq .nil (.seq .nil (.seq (.seq .nil (.cond (.seq .nil .nil) .nil)) (.seq (.seq .nil (.cond (.seq .nil .nil) .nil)) (.seq .nil (.seq (.seq .nil (.cond (.seq .nil .nil) .nil)) (.cut 2 [10, 13]))))))))
abbrev sh1 : ES := ⟨[(2, .pt 2 []), (3, .pt 3 []), (6, .pt 6 []), (7, .v .bool), (10, .pt 10 [])], [⟨2, .st (.pair (.sl (.st (.pair (.int .i64) (.pair (.str) (.sl (.int .i64)))))) (.pair (.st (.pair (.int .i64) (.pair (.str) (.sl (.int .i64))))) (.sl (.st (.pair (.int .i64) (.pair (.str) (.sl (.int .i64)))))))), .ro, true, false, none⟩, ⟨3, .st (.pair (.sl (.st (.pair (.int .i64) (.pair (.str) (.sl (.int .i64)))))) (.pair (.st (.pair (.int .i64) (.pair (.str) (.sl (.int .i64))))) (.sl (.st (.pair (.int .i64) (.pair (.str) (.sl (.int .i64)))))))), .ro, true, false, none⟩, ⟨6, .st (.pair (.sl (.str)) (.sl (.str))), .ro, true, false, none⟩, ⟨10, .st (.pair (.sl (.str)) (.sl (.str))), .pr (.own .ro) (.own .ro), true, false, none⟩]⟩
def an0 : An := .seq (.seq .nil (.cond (.seq .nil .nil) .nil)) (.seq (.seq .nil (.cond (.seq .nil .nil) .nil)) (.seq .nil (.seq .nil (.seq .nil (.seq (.seq .nil (.cond (.seq .nil .nil) .nil)) (.cut 1 [2, 3, 6, 7, 10]))))))
abbrev sh0 : ES := ⟨[(2, .pt 2 []), (3, .pt 3 []), (6, .pt 6 []), (7, .v .bool), (8, .pt 8 []), (9, .pt 9 []), (10, .pt 10 []), (11, .v .bool)], [⟨2, .st (.pair (.sl (.st (.pair (.int .i64) (.pair (.str) (.sl (.int .i64)))))) (.pair (.st (.pair (.int .i64) (.pair (.str) (.sl (.int .i64))))) (.sl (.st (.pair (.int .i64) (.pair (.str) (.sl (.int .i64)))))))), .ro, true, false, none⟩, ⟨3, .st (.pair (.sl (.st (.pair (.int .i64) (.pair (.str) (.sl (.int .i64)))))) (.pair (.st (.pair (.int .i64) (.pair (.str) (.sl (.int .i64))))) (.sl (.st (.pair (.int .i64) (.pair (.str) (.sl (.int .i64)))))))), .ro, true, false, none⟩, ⟨6, .st (.pair (.sl (.str)) (.sl (.str))), .ro, true, false, none⟩, ⟨8, .st (.pair (.sl (.st (.pair (.int .i64) (.pair (.str) (.sl (.int .i64)))))) (.pair (.st (.pair (.int .i64) (.pair (.str) (.sl (.int .i64))))) (.sl (.st (.pair (.int .i64) (.pair (.str) (.sl (.int .i64)))))))), .pr (.own (.pr .ro (.pr .ro (.own .ro)))) (.pr (.pr .ro (.pr .ro (.own .ro))) (.own (.pr .ro (.pr .ro (.own .ro))))), true, false, none⟩, ⟨9, .st (.pair (.sl (.st (.pair (.int .i64) (.pair (.str) (.sl (.int .i64)))))) (.pair (.st (.pair (.int .i64) (.pair (.str) (.sl (.int .i64))))) (.sl (.st (.pair (.int .i64) (.pair (.str) (.sl (.int .i64)))))))), .pr (.own (.pr .ro (.pr .ro (.own .ro)))) (.pr (.pr .ro (.pr .ro (.own .ro))) (.own (.pr .ro (.pr .ro (.own .ro))))), true, false, none⟩, ⟨10, .st (.pair (.sl (.str)) (.sl (.str))), .pr (.own .ro) (.own .ro), true, false, none⟩]⟩
def g2 (n m : Nat) (x : sh2.V) (kn : KN rsh) (kx : KX rsh) : Option (RVs rsh) := j2 n x.1.2.1 x.2.1
def g1 (n m : Nat) (x : sh1.V) (kn : KN rsh) (kx : KX rsh) : Option (RVs rsh) := j1 n x.1.2.2.2.1 x.2.1 x.2.2.1 x.2.2.2.1 x.2.2.2.2.1
def g0 (n m : Nat) (x : sh0.V) (kn : KN rsh) (kx : KX rsh) : Option (RVs rsh) := j0 n x.1.2.2.2.1 x.1.2.2.2.2.2.2.2.1 x.2.1 x.2.2.1 x.2.2.2.1 x.2.2.2.2.1 x.2.2.2.2.2.1 x.2.2.2.2.2.2.1
def T (n : Nat) : Tab (RVs rsh) := fun j e kn kx => match j with
 | 2 => ES.on sh2 e fun x => g2 n n x kn kx
 | 1 => ES.on sh1 e fun x => g1 n n x kn kx
 | 0 => ES.on sh0 e fun x => g0 n n x kn kx
 | _ => none
theorem mk (n : Nat) : MOk (cx n) := mkCtx_ok (mem_cons (laws_szRule.ok n) (mem_cons (laws_toRule.ok n) (mem_cons (laws_eqRule.ok n) (mem_cons (spec_Carries.ok n) (mem_cons (impl_Carries.ok n) (mem_cons (laws_eqMatch.ok n) (mem_cons (laws_markRule.ok n) (mem_cons (laws_markMatch.ok n) (mem_cons (laws_heldMatch.ok n) mem_nil)))))))))
theorem u2 (n : Nat) (v : AVs ash) : UnitOk (cx n) 119 (T n) (kr n v) 2 (c2) :=
 join_u (CO _) (mk n) (MX _) an2 [] [4] sh2 (g2 n n) (fun _ _ _ => rfl) (fun x kn kx => by kernel_rfl) (l := []) (by kernel_rfl) (mem_nil)
theorem u1 (n : Nat) (v : AVs ash) : UnitOk (cx n) 119 (T n) (kr n v) 1 (c1) :=
 join_u (CO _) (mk n) (MX _) an1 [] [4] sh1 (g1 n n) (fun _ _ _ => rfl) (fun x kn kx => by kernel_rfl) (l := [(2, c2)]) (by kernel_rfl) (mem_cons (u2 n v) mem_nil)
theorem u0 (n : Nat) (v : AVs ash) : UnitOk (cx n) 119 (T n) (kr n v) 0 (c0) :=
 join_u (CO _) (mk n) (MX _) an0 [] [4] sh0 (g0 n n) (fun _ _ _ => rfl) (fun x kn kx => by kernel_rfl) (l := [(1, c1)]) (by kernel_rfl) (mem_cons (u1 n v) mem_nil)
theorem ok (n : Nat) : EntOk Try.prog 5 (ent n) :=
 ent_okU (c := cx n) (e := ent n) (d := d) (CO _) (mk n) (MX _) an Try.func5 (by kernel_rfl) (T n) (l := [(0, c0)]) (by kernel_rfl) (fun v => mem_cons (u0 n v) mem_nil) (fun v => by kernel_rfl)
end laws_FnExactCarries
namespace spec_Contains
end spec_Contains
namespace impl_Contains
end impl_Contains
namespace laws_FnExactContains
end laws_FnExactContains
namespace impl_PlainRule
end impl_PlainRule
namespace laws_FnExactPlainRule
end laws_FnExactPlainRule
end Go.Abs
