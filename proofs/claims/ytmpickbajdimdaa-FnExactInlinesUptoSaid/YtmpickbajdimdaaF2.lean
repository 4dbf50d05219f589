/- The functions, and that a call of each comes to it. Conditions: none. -/
import Derived.Test.YtmpickbajdimdaaF1
namespace Go.Abs
open Go.Proofs
set_option linter.unusedVariables false
/-! laws.eqTypeDecl -/
namespace laws_eqTypeDecl
def F (n : Nat) (a1 : ByteArray × List (ByteArray × List ByteArray)) (b2 : ByteArray × List (ByteArray × List ByteArray)) : Option Bool :=
  if (!(Abs.seq a1.1 b2.1)) = true then
    some false
  else
    (laws_eqConS.F n a1.2 b2.2).bind fun r3 =>
    if (!r3) = true then
      some false
    else
      some true
noncomputable def code : Code := Try.f109.body.getD .skip
abbrev ash : List ASh := [.ro (.st (.pair (.str) (.sl (.st (.pair (.str) (.sl (.str))))))), .ro (.st (.pair (.str) (.sl (.st (.pair (.str) (.sl (.str)))))))]
abbrev rsh : List RSh := [.ro .bool]
def ent (n : Nat) : FEnt := ⟨ash, rsh, fun v => F n v.1 v.2.1⟩
noncomputable def cx (n : Nat) : Ctx := mkCtx Try.prog TYS [(130, laws_eqConS.ent n)]
noncomputable def d : FnD := ⟨code, 16, .nil, [(.tmp 4, .bool, .ro)]⟩
noncomputable def kr (n : Nat) (v : AVs ash) : Env → Option (RVs rsh) := endK (cx n) d (avEnc ash v) (rvDec rsh)
def an : An := .seq .nil (.seq (.seq .nil (.cond (.seq .nil .nil) .nil)) (.seq (.seq .nil (.cond (.seq .nil .nil) .nil)) (.seq .nil .nil)))
def T (n : Nat) : Tab (RVs rsh) := fun j e kn kx => match j with
  | _ => none
theorem co (n : Nat) : CtxOk (cx n) := mkCtx_cok TYS_ok
theorem mx (n : Nat) : (cx n).P.follows .mixedOrders = true := mkCtx_mix MIX
theorem mk (n : Nat) : MOk (cx n) := mkCtx_ok (mem_cons (laws_eqConS.ok n) mem_nil)
theorem us : units code an = [] := by kernel_rfl
theorem eqn (n : Nat) (v : AVs ash) : fnEvT (cx n) d an (T n) (avEnc ash v) (rvDec rsh) = F n v.1 v.2.1 := by kernel_rfl
theorem ok (n : Nat) : EntOk Try.prog 109 (ent n) :=
  ent_ok (c := cx n) (e := ent n) (d := d) (an := an) (fn := Try.f109) (co n) (mk n) (mx n) (by kernel_rfl) (by kernel_rfl) (by kernel_rfl) (by kernel_rfl) (by kernel_rfl) (fun _ => T n) (fun v => units_of us (mem_nil)) (eqn n)
end laws_eqTypeDecl
/-! laws.eqTypeDeclS -/
namespace laws_eqTypeDeclS
def l0 (n : Nat) (a3 : List (ByteArray × List (ByteArray × List ByteArray))) (b4 : List (ByteArray × List (ByteArray × List ByteArray))) (K0 : Unit → Option Bool) : Nat → Int → Option Bool
  | 0, _ => none
  | k + 1, i5 =>
    if decide (i5 < (List.length a3 : Int)) = true then
      if 0 ≤ i5 ∧ i5 < (List.length a3 : Int) then
        if 0 ≤ i5 ∧ i5 < (List.length b4 : Int) then
          (laws_eqTypeDecl.F n (List.getD a3 (Int.toNat i5) (ByteArray.empty, [])) (List.getD b4 (Int.toNat i5) (ByteArray.empty, []))).bind fun r6 =>
          if (!r6) = true then
            some false
          else
            l0 n a3 b4 K0 k (IntKind.i64.wrap (i5 + 1))
        else
          none
      else
        none
    else
      K0 ()
def F (n : Nat) (a1 : List (ByteArray × List (ByteArray × List ByteArray))) (b2 : List (ByteArray × List (ByteArray × List ByteArray))) : Option Bool :=
  if (!decide ((List.length a1 : Int) = (List.length b2 : Int))) = true then
    some false
  else
    l0 n a1 b2 (fun _ =>
      some true) n 0
noncomputable def code : Code := Try.f69.body.getD .skip
abbrev ash : List ASh := [.ro (.sl (.st (.pair (.str) (.sl (.st (.pair (.str) (.sl (.str)))))))), .ro (.sl (.st (.pair (.str) (.sl (.st (.pair (.str) (.sl (.str))))))))]
abbrev rsh : List RSh := [.ro .bool]
def ent (n : Nat) : FEnt := ⟨ash, rsh, fun v => F n v.1 v.2.1⟩
noncomputable def cx (n : Nat) : Ctx := mkCtx Try.prog TYS [(109, laws_eqTypeDecl.ent n)]
noncomputable def d : FnD := ⟨code, 27, .nil, [(.tmp 4, .bool, .ro)]⟩
noncomputable def kr (n : Nat) (v : AVs ash) : Env → Option (RVs rsh) := endK (cx n) d (avEnc ash v) (rvDec rsh)
noncomputable def c0 : Code := (Code.l (Code.r (Code.l (Code.r (Code.r code)))))
noncomputable def b0 : Code := Code.l c0
def an : An := .seq .nil (.seq (.seq .nil (.cond (.seq .nil .nil) .nil)) (.seq (.seq .nil (.block (some []) (.cut 0 [0, 1, 5]))) (.seq .nil .nil)))
def an0 : An := .seq (.seq .nil (.cond .nil .nil)) (.seq (.block (some [0, 1, 5]) (.seq .nil (.cond (.seq .nil .nil) .nil))) .nil)
abbrev sh0 : ES := ⟨[(0, .v (.sl (.st (.pair (.str) (.sl (.st (.pair (.str) (.sl (.str))))))))), (1, .v (.sl (.st (.pair (.str) (.sl (.st (.pair (.str) (.sl (.str))))))))), (5, .v (.int .i64))], []⟩
abbrev sh0_0 : ES := ⟨[], []⟩
def T0 (n m : Nat) (e : Env) (kn : Env → Option (RVs rsh)) (kx : Nat → Env → Option (RVs rsh)) : Option (RVs rsh) := ES.on sh0 e fun x => l0 n x.1.1 x.1.2.1 (fun _ => kx 0 (sh0_0.enc ((()), (())))) m x.1.2.2.1
def T (n : Nat) : Tab (RVs rsh) := fun j e kn kx => match j with
  | 0 => T0 n n e kn kx
  | _ => none
theorem co (n : Nat) : CtxOk (cx n) := mkCtx_cok TYS_ok
theorem mx (n : Nat) : (cx n).P.follows .mixedOrders = true := mkCtx_mix MIX
theorem mk (n : Nat) : MOk (cx n) := mkCtx_ok (mem_cons (laws_eqTypeDecl.ok n) mem_nil)
theorem us0 : units b0 an0 = [] := by kernel_rfl
theorem e0 (n m : Nat) (v : AVs ash) (x : sh0.V) (kn : Env → Option (RVs rsh)) (kx : Nat → Env → Option (RVs rsh)) : aevT (cx n) 27 (T n) (kr n v) b0 an0 [(0, [])] (meet (some [0, 1, 5]) fun e => T0 n m e kn kx) kx (sh0.enc x) = l0 n x.1.1 x.1.2.1 (fun _ => kx 0 (sh0_0.enc ((()), (())))) (m + 1) x.1.2.2.1 := by kernel_rfl
theorem cl0 : c0 = .loop b0 := by kernel_rfl
theorem u0 (n : Nat) (v : AVs ash) : UnitOk (cx n) 27 (T n) (kr n v) 0 c0 := by
  rw [cl0]
  exact loop_unit (n := n) (co n) (mk n) (mx n) an0 [(0, [])] [0, 1, 5] (T0 n) (fun _ _ _ => rfl) (fun e kn kx out h => by obtain ⟨x, _, h⟩ := ES.on_inv h; cases h) (fun m e kn kx out h => by obtain ⟨x, rfl, h⟩ := ES.on_inv h; exact (e0 n m v x kn kx).trans h) (units_of us0 (mem_nil))
theorem us : units code an = [(0, c0)] := by kernel_rfl
theorem eqn (n : Nat) (v : AVs ash) : fnEvT (cx n) d an (T n) (avEnc ash v) (rvDec rsh) = F n v.1 v.2.1 := by kernel_rfl
theorem ok (n : Nat) : EntOk Try.prog 69 (ent n) :=
  ent_ok (c := cx n) (e := ent n) (d := d) (an := an) (fn := Try.f69) (co n) (mk n) (mx n) (by kernel_rfl) (by kernel_rfl) (by kernel_rfl) (by kernel_rfl) (by kernel_rfl) (fun _ => T n) (fun v => units_of us (mem_cons (u0 n v) mem_nil)) (eqn n)
end laws_eqTypeDeclS
/-! laws.eqRelDecl -/
namespace laws_eqRelDecl
def F (n : Nat) (a1 : ByteArray × (List ByteArray) × Int) (b2 : ByteArray × (List ByteArray) × Int) : Option Bool :=
  if (!(Abs.seq a1.1 b2.1)) = true then
    some false
  else
    (laws_eqStringS.F n a1.2.1 b2.2.1).bind fun r3 =>
    if (!r3) = true then
      some false
    else
      if (!decide (a1.2.2 = b2.2.2)) = true then
        some false
      else
        some true
noncomputable def code : Code := Try.f110.body.getD .skip
abbrev ash : List ASh := [.ro (.st (.pair (.str) (.pair (.sl (.str)) (.int .i64)))), .ro (.st (.pair (.str) (.pair (.sl (.str)) (.int .i64))))]
abbrev rsh : List RSh := [.ro .bool]
def ent (n : Nat) : FEnt := ⟨ash, rsh, fun v => F n v.1 v.2.1⟩
noncomputable def cx (n : Nat) : Ctx := mkCtx Try.prog TYS [(79, laws_eqStringS.ent n)]
noncomputable def d : FnD := ⟨code, 21, .nil, [(.tmp 4, .bool, .ro)]⟩
noncomputable def kr (n : Nat) (v : AVs ash) : Env → Option (RVs rsh) := endK (cx n) d (avEnc ash v) (rvDec rsh)
def an : An := .seq .nil (.seq (.seq .nil (.cond (.seq .nil .nil) .nil)) (.seq (.seq .nil (.cond (.seq .nil .nil) .nil)) (.seq (.seq .nil (.cond (.seq .nil .nil) .nil)) (.seq .nil .nil))))
def T (n : Nat) : Tab (RVs rsh) := fun j e kn kx => match j with
  | _ => none
theorem co (n : Nat) : CtxOk (cx n) := mkCtx_cok TYS_ok
theorem mx (n : Nat) : (cx n).P.follows .mixedOrders = true := mkCtx_mix MIX
theorem mk (n : Nat) : MOk (cx n) := mkCtx_ok (mem_cons (laws_eqStringS.ok n) mem_nil)
theorem us : units code an = [] := by kernel_rfl
theorem eqn (n : Nat) (v : AVs ash) : fnEvT (cx n) d an (T n) (avEnc ash v) (rvDec rsh) = F n v.1 v.2.1 := by kernel_rfl
theorem ok (n : Nat) : EntOk Try.prog 110 (ent n) :=
  ent_ok (c := cx n) (e := ent n) (d := d) (an := an) (fn := Try.f110) (co n) (mk n) (mx n) (by kernel_rfl) (by kernel_rfl) (by kernel_rfl) (by kernel_rfl) (by kernel_rfl) (fun _ => T n) (fun v => units_of us (mem_nil)) (eqn n)
end laws_eqRelDecl
/-! laws.eqRelDeclS -/
namespace laws_eqRelDeclS
def l0 (n : Nat) (a3 : List (ByteArray × (List ByteArray) × Int)) (b4 : List (ByteArray × (List ByteArray) × Int)) (K0 : Unit → Option Bool) : Nat → Int → Option Bool
  | 0, _ => none
  | k + 1, i5 =>
    if decide (i5 < (List.length a3 : Int)) = true then
      if 0 ≤ i5 ∧ i5 < (List.length a3 : Int) then
        if 0 ≤ i5 ∧ i5 < (List.length b4 : Int) then
          (laws_eqRelDecl.F n (List.getD a3 (Int.toNat i5) (ByteArray.empty, ([], 0))) (List.getD b4 (Int.toNat i5) (ByteArray.empty, ([], 0)))).bind fun r6 =>
          if (!r6) = true then
            some false
          else
            l0 n a3 b4 K0 k (IntKind.i64.wrap (i5 + 1))
        else
          none
      else
        none
    else
      K0 ()
def F (n : Nat) (a1 : List (ByteArray × (List ByteArray) × Int)) (b2 : List (ByteArray × (List ByteArray) × Int)) : Option Bool :=
  if (!decide ((List.length a1 : Int) = (List.length b2 : Int))) = true then
    some false
  else
    l0 n a1 b2 (fun _ =>
      some true) n 0
noncomputable def code : Code := Try.f70.body.getD .skip
abbrev ash : List ASh := [.ro (.sl (.st (.pair (.str) (.pair (.sl (.str)) (.int .i64))))), .ro (.sl (.st (.pair (.str) (.pair (.sl (.str)) (.int .i64)))))]
abbrev rsh : List RSh := [.ro .bool]
def ent (n : Nat) : FEnt := ⟨ash, rsh, fun v => F n v.1 v.2.1⟩
noncomputable def cx (n : Nat) : Ctx := mkCtx Try.prog TYS [(110, laws_eqRelDecl.ent n)]
noncomputable def d : FnD := ⟨code, 27, .nil, [(.tmp 4, .bool, .ro)]⟩
noncomputable def kr (n : Nat) (v : AVs ash) : Env → Option (RVs rsh) := endK (cx n) d (avEnc ash v) (rvDec rsh)
noncomputable def c0 : Code := (Code.l (Code.r (Code.l (Code.r (Code.r code)))))
noncomputable def b0 : Code := Code.l c0
def an : An := .seq .nil (.seq (.seq .nil (.cond (.seq .nil .nil) .nil)) (.seq (.seq .nil (.block (some []) (.cut 0 [0, 1, 5]))) (.seq .nil .nil)))
def an0 : An := .seq (.seq .nil (.cond .nil .nil)) (.seq (.block (some [0, 1, 5]) (.seq .nil (.cond (.seq .nil .nil) .nil))) .nil)
abbrev sh0 : ES := ⟨[(0, .v (.sl (.st (.pair (.str) (.pair (.sl (.str)) (.int .i64)))))), (1, .v (.sl (.st (.pair (.str) (.pair (.sl (.str)) (.int .i64)))))), (5, .v (.int .i64))], []⟩
abbrev sh0_0 : ES := ⟨[], []⟩
def T0 (n m : Nat) (e : Env) (kn : Env → Option (RVs rsh)) (kx : Nat → Env → Option (RVs rsh)) : Option (RVs rsh) := ES.on sh0 e fun x => l0 n x.1.1 x.1.2.1 (fun _ => kx 0 (sh0_0.enc ((()), (())))) m x.1.2.2.1
def T (n : Nat) : Tab (RVs rsh) := fun j e kn kx => match j with
  | 0 => T0 n n e kn kx
  | _ => none
theorem co (n : Nat) : CtxOk (cx n) := mkCtx_cok TYS_ok
theorem mx (n : Nat) : (cx n).P.follows .mixedOrders = true := mkCtx_mix MIX
theorem mk (n : Nat) : MOk (cx n) := mkCtx_ok (mem_cons (laws_eqRelDecl.ok n) mem_nil)
theorem us0 : units b0 an0 = [] := by kernel_rfl
theorem e0 (n m : Nat) (v : AVs ash) (x : sh0.V) (kn : Env → Option (RVs rsh)) (kx : Nat → Env → Option (RVs rsh)) : aevT (cx n) 27 (T n) (kr n v) b0 an0 [(0, [])] (meet (some [0, 1, 5]) fun e => T0 n m e kn kx) kx (sh0.enc x) = l0 n x.1.1 x.1.2.1 (fun _ => kx 0 (sh0_0.enc ((()), (())))) (m + 1) x.1.2.2.1 := by kernel_rfl
theorem cl0 : c0 = .loop b0 := by kernel_rfl
theorem u0 (n : Nat) (v : AVs ash) : UnitOk (cx n) 27 (T n) (kr n v) 0 c0 := by
  rw [cl0]
  exact loop_unit (n := n) (co n) (mk n) (mx n) an0 [(0, [])] [0, 1, 5] (T0 n) (fun _ _ _ => rfl) (fun e kn kx out h => by obtain ⟨x, _, h⟩ := ES.on_inv h; cases h) (fun m e kn kx out h => by obtain ⟨x, rfl, h⟩ := ES.on_inv h; exact (e0 n m v x kn kx).trans h) (units_of us0 (mem_nil))
theorem us : units code an = [(0, c0)] := by kernel_rfl
theorem eqn (n : Nat) (v : AVs ash) : fnEvT (cx n) d an (T n) (avEnc ash v) (rvDec rsh) = F n v.1 v.2.1 := by kernel_rfl
theorem ok (n : Nat) : EntOk Try.prog 70 (ent n) :=
  ent_ok (c := cx n) (e := ent n) (d := d) (an := an) (fn := Try.f70) (co n) (mk n) (mx n) (by kernel_rfl) (by kernel_rfl) (by kernel_rfl) (by kernel_rfl) (by kernel_rfl) (fun _ => T n) (fun v => units_of us (mem_cons (u0 n v) mem_nil)) (eqn n)
end laws_eqRelDeclS
/-! laws.eqExp -/
namespace laws_eqExp
def F (n : Nat) (a1 : Int × ByteArray × List Int) (b2 : Int × ByteArray × List Int) : Option Bool :=
  if (!decide (a1.1 = b2.1)) = true then
    some false
  else
    if (!(Abs.seq a1.2.1 b2.2.1)) = true then
      some false
    else
      (laws_eqIntS.F n a1.2.2 b2.2.2).bind fun r3 =>
      if (!r3) = true then
        some false
      else
        some true
noncomputable def code : Code := Try.f104.body.getD .skip
abbrev ash : List ASh := [.ro (.st (.pair (.int .i64) (.pair (.str) (.sl (.int .i64))))), .ro (.st (.pair (.int .i64) (.pair (.str) (.sl (.int .i64)))))]
abbrev rsh : List RSh := [.ro .bool]
def ent (n : Nat) : FEnt := ⟨ash, rsh, fun v => F n v.1 v.2.1⟩
noncomputable def cx (n : Nat) : Ctx := mkCtx Try.prog TYS [(27, laws_eqIntS.ent n)]
noncomputable def d : FnD := ⟨code, 21, .nil, [(.tmp 4, .bool, .ro)]⟩
noncomputable def kr (n : Nat) (v : AVs ash) : Env → Option (RVs rsh) := endK (cx n) d (avEnc ash v) (rvDec rsh)
def an : An := .seq .nil (.seq (.seq .nil (.cond (.seq .nil .nil) .nil)) (.seq (.seq .nil (.cond (.seq .nil .nil) .nil)) (.seq (.seq .nil (.cond (.seq .nil .nil) .nil)) (.seq .nil .nil))))
def T (n : Nat) : Tab (RVs rsh) := fun j e kn kx => match j with
  | _ => none
theorem co (n : Nat) : CtxOk (cx n) := mkCtx_cok TYS_ok
theorem mx (n : Nat) : (cx n).P.follows .mixedOrders = true := mkCtx_mix MIX
theorem mk (n : Nat) : MOk (cx n) := mkCtx_ok (mem_cons (laws_eqIntS.ok n) mem_nil)
theorem us : units code an = [] := by kernel_rfl
theorem eqn (n : Nat) (v : AVs ash) : fnEvT (cx n) d an (T n) (avEnc ash v) (rvDec rsh) = F n v.1 v.2.1 := by kernel_rfl
theorem ok (n : Nat) : EntOk Try.prog 104 (ent n) :=
  ent_ok (c := cx n) (e := ent n) (d := d) (an := an) (fn := Try.f104) (co n) (mk n) (mx n) (by kernel_rfl) (by kernel_rfl) (by kernel_rfl) (by kernel_rfl) (by kernel_rfl) (fun _ => T n) (fun v => units_of us (mem_nil)) (eqn n)
end laws_eqExp
/-! laws.eqExpS -/
namespace laws_eqExpS
def l0 (n : Nat) (a3 : List (Int × ByteArray × List Int)) (b4 : List (Int × ByteArray × List Int)) (K0 : Unit → Option Bool) : Nat → Int → Option Bool
  | 0, _ => none
  | k + 1, i5 =>
    if decide (i5 < (List.length a3 : Int)) = true then
      if 0 ≤ i5 ∧ i5 < (List.length a3 : Int) then
        if 0 ≤ i5 ∧ i5 < (List.length b4 : Int) then
          (laws_eqExp.F n (List.getD a3 (Int.toNat i5) (0, (ByteArray.empty, []))) (List.getD b4 (Int.toNat i5) (0, (ByteArray.empty, [])))).bind fun r6 =>
          if (!r6) = true then
            some false
          else
            l0 n a3 b4 K0 k (IntKind.i64.wrap (i5 + 1))
        else
          none
      else
        none
    else
      K0 ()
def F (n : Nat) (a1 : List (Int × ByteArray × List Int)) (b2 : List (Int × ByteArray × List Int)) : Option Bool :=
  if (!decide ((List.length a1 : Int) = (List.length b2 : Int))) = true then
    some false
  else
    l0 n a1 b2 (fun _ =>
      some true) n 0
noncomputable def code : Code := Try.f59.body.getD .skip
abbrev ash : List ASh := [.ro (.sl (.st (.pair (.int .i64) (.pair (.str) (.sl (.int .i64)))))), .ro (.sl (.st (.pair (.int .i64) (.pair (.str) (.sl (.int .i64))))))]
abbrev rsh : List RSh := [.ro .bool]
def ent (n : Nat) : FEnt := ⟨ash, rsh, fun v => F n v.1 v.2.1⟩
noncomputable def cx (n : Nat) : Ctx := mkCtx Try.prog TYS [(104, laws_eqExp.ent n)]
noncomputable def d : FnD := ⟨code, 27, .nil, [(.tmp 4, .bool, .ro)]⟩
noncomputable def kr (n : Nat) (v : AVs ash) : Env → Option (RVs rsh) := endK (cx n) d (avEnc ash v) (rvDec rsh)
noncomputable def c0 : Code := (Code.l (Code.r (Code.l (Code.r (Code.r code)))))
noncomputable def b0 : Code := Code.l c0
def an : An := .seq .nil (.seq (.seq .nil (.cond (.seq .nil .nil) .nil)) (.seq (.seq .nil (.block (some []) (.cut 0 [0, 1, 5]))) (.seq .nil .nil)))
def an0 : An := .seq (.seq .nil (.cond .nil .nil)) (.seq (.block (some [0, 1, 5]) (.seq .nil (.cond (.seq .nil .nil) .nil))) .nil)
abbrev sh0 : ES := ⟨[(0, .v (.sl (.st (.pair (.int .i64) (.pair (.str) (.sl (.int .i64))))))), (1, .v (.sl (.st (.pair (.int .i64) (.pair (.str) (.sl (.int .i64))))))), (5, .v (.int .i64))], []⟩
abbrev sh0_0 : ES := ⟨[], []⟩
def T0 (n m : Nat) (e : Env) (kn : Env → Option (RVs rsh)) (kx : Nat → Env → Option (RVs rsh)) : Option (RVs rsh) := ES.on sh0 e fun x => l0 n x.1.1 x.1.2.1 (fun _ => kx 0 (sh0_0.enc ((()), (())))) m x.1.2.2.1
def T (n : Nat) : Tab (RVs rsh) := fun j e kn kx => match j with
  | 0 => T0 n n e kn kx
  | _ => none
theorem co (n : Nat) : CtxOk (cx n) := mkCtx_cok TYS_ok
theorem mx (n : Nat) : (cx n).P.follows .mixedOrders = true := mkCtx_mix MIX
theorem mk (n : Nat) : MOk (cx n) := mkCtx_ok (mem_cons (laws_eqExp.ok n) mem_nil)
theorem us0 : units b0 an0 = [] := by kernel_rfl
theorem e0 (n m : Nat) (v : AVs ash) (x : sh0.V) (kn : Env → Option (RVs rsh)) (kx : Nat → Env → Option (RVs rsh)) : aevT (cx n) 27 (T n) (kr n v) b0 an0 [(0, [])] (meet (some [0, 1, 5]) fun e => T0 n m e kn kx) kx (sh0.enc x) = l0 n x.1.1 x.1.2.1 (fun _ => kx 0 (sh0_0.enc ((()), (())))) (m + 1) x.1.2.2.1 := by kernel_rfl
theorem cl0 : c0 = .loop b0 := by kernel_rfl
theorem u0 (n : Nat) (v : AVs ash) : UnitOk (cx n) 27 (T n) (kr n v) 0 c0 := by
  rw [cl0]
  exact loop_unit (n := n) (co n) (mk n) (mx n) an0 [(0, [])] [0, 1, 5] (T0 n) (fun _ _ _ => rfl) (fun e kn kx out h => by obtain ⟨x, _, h⟩ := ES.on_inv h; cases h) (fun m e kn kx out h => by obtain ⟨x, rfl, h⟩ := ES.on_inv h; exact (e0 n m v x kn kx).trans h) (units_of us0 (mem_nil))
theorem us : units code an = [(0, c0)] := by kernel_rfl
theorem eqn (n : Nat) (v : AVs ash) : fnEvT (cx n) d an (T n) (avEnc ash v) (rvDec rsh) = F n v.1 v.2.1 := by kernel_rfl
theorem ok (n : Nat) : EntOk Try.prog 59 (ent n) :=
  ent_ok (c := cx n) (e := ent n) (d := d) (an := an) (fn := Try.f59) (co n) (mk n) (mx n) (by kernel_rfl) (by kernel_rfl) (by kernel_rfl) (by kernel_rfl) (by kernel_rfl) (fun _ => T n) (fun v => units_of us (mem_cons (u0 n v) mem_nil)) (eqn n)
end laws_eqExpS
/-! laws.eqLit -/
namespace laws_eqLit
def F (n : Nat) (a1 : Int × ByteArray × List Int) (b2 : Int × ByteArray × List Int) : Option Bool :=
  if (!decide (a1.1 = b2.1)) = true then
    some false
  else
    if (!(Abs.seq a1.2.1 b2.2.1)) = true then
      some false
    else
      (laws_eqIntS.F n a1.2.2 b2.2.2).bind fun r3 =>
      if (!r3) = true then
        some false
      else
        some true
noncomputable def code : Code := Try.f60.body.getD .skip
abbrev ash : List ASh := [.ro (.st (.pair (.int .i64) (.pair (.str) (.sl (.int .i64))))), .ro (.st (.pair (.int .i64) (.pair (.str) (.sl (.int .i64)))))]
abbrev rsh : List RSh := [.ro .bool]
def ent (n : Nat) : FEnt := ⟨ash, rsh, fun v => F n v.1 v.2.1⟩
noncomputable def cx (n : Nat) : Ctx := mkCtx Try.prog TYS [(27, laws_eqIntS.ent n)]
noncomputable def d : FnD := ⟨code, 21, .nil, [(.tmp 4, .bool, .ro)]⟩
noncomputable def kr (n : Nat) (v : AVs ash) : Env → Option (RVs rsh) := endK (cx n) d (avEnc ash v) (rvDec rsh)
def an : An := .seq .nil (.seq (.seq .nil (.cond (.seq .nil .nil) .nil)) (.seq (.seq .nil (.cond (.seq .nil .nil) .nil)) (.seq (.seq .nil (.cond (.seq .nil .nil) .nil)) (.seq .nil .nil))))
def T (n : Nat) : Tab (RVs rsh) := fun j e kn kx => match j with
  | _ => none
theorem co (n : Nat) : CtxOk (cx n) := mkCtx_cok TYS_ok
theorem mx (n : Nat) : (cx n).P.follows .mixedOrders = true := mkCtx_mix MIX
theorem mk (n : Nat) : MOk (cx n) := mkCtx_ok (mem_cons (laws_eqIntS.ok n) mem_nil)
theorem us : units code an = [] := by kernel_rfl
theorem eqn (n : Nat) (v : AVs ash) : fnEvT (cx n) d an (T n) (avEnc ash v) (rvDec rsh) = F n v.1 v.2.1 := by kernel_rfl
theorem ok (n : Nat) : EntOk Try.prog 60 (ent n) :=
  ent_ok (c := cx n) (e := ent n) (d := d) (an := an) (fn := Try.f60) (co n) (mk n) (mx n) (by kernel_rfl) (by kernel_rfl) (by kernel_rfl) (by kernel_rfl) (by kernel_rfl) (fun _ => T n) (fun v => units_of us (mem_nil)) (eqn n)
end laws_eqLit
/-! laws.eqLitS -/
namespace laws_eqLitS
def l0 (n : Nat) (a3 : List (Int × ByteArray × List Int)) (b4 : List (Int × ByteArray × List Int)) (K0 : Unit → Option Bool) : Nat → Int → Option Bool
  | 0, _ => none
  | k + 1, i5 =>
    if decide (i5 < (List.length a3 : Int)) = true then
      if 0 ≤ i5 ∧ i5 < (List.length a3 : Int) then
        if 0 ≤ i5 ∧ i5 < (List.length b4 : Int) then
          (laws_eqLit.F n (List.getD a3 (Int.toNat i5) (0, (ByteArray.empty, []))) (List.getD b4 (Int.toNat i5) (0, (ByteArray.empty, [])))).bind fun r6 =>
          if (!r6) = true then
            some false
          else
            l0 n a3 b4 K0 k (IntKind.i64.wrap (i5 + 1))
        else
          none
      else
        none
    else
      K0 ()
def F (n : Nat) (a1 : List (Int × ByteArray × List Int)) (b2 : List (Int × ByteArray × List Int)) : Option Bool :=
  if (!decide ((List.length a1 : Int) = (List.length b2 : Int))) = true then
    some false
  else
    l0 n a1 b2 (fun _ =>
      some true) n 0
noncomputable def code : Code := Try.f61.body.getD .skip
abbrev ash : List ASh := [.ro (.sl (.st (.pair (.int .i64) (.pair (.str) (.sl (.int .i64)))))), .ro (.sl (.st (.pair (.int .i64) (.pair (.str) (.sl (.int .i64))))))]
abbrev rsh : List RSh := [.ro .bool]
def ent (n : Nat) : FEnt := ⟨ash, rsh, fun v => F n v.1 v.2.1⟩
noncomputable def cx (n : Nat) : Ctx := mkCtx Try.prog TYS [(60, laws_eqLit.ent n)]
noncomputable def d : FnD := ⟨code, 27, .nil, [(.tmp 4, .bool, .ro)]⟩
noncomputable def kr (n : Nat) (v : AVs ash) : Env → Option (RVs rsh) := endK (cx n) d (avEnc ash v) (rvDec rsh)
noncomputable def c0 : Code := (Code.l (Code.r (Code.l (Code.r (Code.r code)))))
noncomputable def b0 : Code := Code.l c0
def an : An := .seq .nil (.seq (.seq .nil (.cond (.seq .nil .nil) .nil)) (.seq (.seq .nil (.block (some []) (.cut 0 [0, 1, 5]))) (.seq .nil .nil)))
def an0 : An := .seq (.seq .nil (.cond .nil .nil)) (.seq (.block (some [0, 1, 5]) (.seq .nil (.cond (.seq .nil .nil) .nil))) .nil)
abbrev sh0 : ES := ⟨[(0, .v (.sl (.st (.pair (.int .i64) (.pair (.str) (.sl (.int .i64))))))), (1, .v (.sl (.st (.pair (.int .i64) (.pair (.str) (.sl (.int .i64))))))), (5, .v (.int .i64))], []⟩
abbrev sh0_0 : ES := ⟨[], []⟩
def T0 (n m : Nat) (e : Env) (kn : Env → Option (RVs rsh)) (kx : Nat → Env → Option (RVs rsh)) : Option (RVs rsh) := ES.on sh0 e fun x => l0 n x.1.1 x.1.2.1 (fun _ => kx 0 (sh0_0.enc ((()), (())))) m x.1.2.2.1
def T (n : Nat) : Tab (RVs rsh) := fun j e kn kx => match j with
  | 0 => T0 n n e kn kx
  | _ => none
theorem co (n : Nat) : CtxOk (cx n) := mkCtx_cok TYS_ok
theorem mx (n : Nat) : (cx n).P.follows .mixedOrders = true := mkCtx_mix MIX
theorem mk (n : Nat) : MOk (cx n) := mkCtx_ok (mem_cons (laws_eqLit.ok n) mem_nil)
theorem us0 : units b0 an0 = [] := by kernel_rfl
theorem e0 (n m : Nat) (v : AVs ash) (x : sh0.V) (kn : Env → Option (RVs rsh)) (kx : Nat → Env → Option (RVs rsh)) : aevT (cx n) 27 (T n) (kr n v) b0 an0 [(0, [])] (meet (some [0, 1, 5]) fun e => T0 n m e kn kx) kx (sh0.enc x) = l0 n x.1.1 x.1.2.1 (fun _ => kx 0 (sh0_0.enc ((()), (())))) (m + 1) x.1.2.2.1 := by kernel_rfl
theorem cl0 : c0 = .loop b0 := by kernel_rfl
theorem u0 (n : Nat) (v : AVs ash) : UnitOk (cx n) 27 (T n) (kr n v) 0 c0 := by
  rw [cl0]
  exact loop_unit (n := n) (co n) (mk n) (mx n) an0 [(0, [])] [0, 1, 5] (T0 n) (fun _ _ _ => rfl) (fun e kn kx out h => by obtain ⟨x, _, h⟩ := ES.on_inv h; cases h) (fun m e kn kx out h => by obtain ⟨x, rfl, h⟩ := ES.on_inv h; exact (e0 n m v x kn kx).trans h) (units_of us0 (mem_nil))
theorem us : units code an = [(0, c0)] := by kernel_rfl
theorem eqn (n : Nat) (v : AVs ash) : fnEvT (cx n) d an (T n) (avEnc ash v) (rvDec rsh) = F n v.1 v.2.1 := by kernel_rfl
theorem ok (n : Nat) : EntOk Try.prog 61 (ent n) :=
  ent_ok (c := cx n) (e := ent n) (d := d) (an := an) (fn := Try.f61) (co n) (mk n) (mx n) (by kernel_rfl) (by kernel_rfl) (by kernel_rfl) (by kernel_rfl) (by kernel_rfl) (fun _ => T n) (fun v => units_of us (mem_cons (u0 n v) mem_nil)) (eqn n)
end laws_eqLitS
/-! laws.eqRule -/
namespace laws_eqRule
def F (n : Nat) (a1 : (List (Int × ByteArray × List Int)) × (Int × ByteArray × List Int) × List (Int × ByteArray × List Int)) (b2 : (List (Int × ByteArray × List Int)) × (Int × ByteArray × List Int) × List (Int × ByteArray × List Int)) : Option Bool :=
  (laws_eqExpS.F n a1.1 b2.1).bind fun r3 =>
  if (!r3) = true then
    some false
  else
    (laws_eqLit.F n a1.2.1 b2.2.1).bind fun r4 =>
    if (!r4) = true then
      some false
    else
      (laws_eqLitS.F n a1.2.2 b2.2.2).bind fun r5 =>
      if (!r5) = true then
        some false
      else
        some true
noncomputable def code : Code := Try.f22.body.getD .skip
abbrev ash : List ASh := [.ro (.st (.pair (.sl (.st (.pair (.int .i64) (.pair (.str) (.sl (.int .i64)))))) (.pair (.st (.pair (.int .i64) (.pair (.str) (.sl (.int .i64))))) (.sl (.st (.pair (.int .i64) (.pair (.str) (.sl (.int .i64))))))))), .ro (.st (.pair (.sl (.st (.pair (.int .i64) (.pair (.str) (.sl (.int .i64)))))) (.pair (.st (.pair (.int .i64) (.pair (.str) (.sl (.int .i64))))) (.sl (.st (.pair (.int .i64) (.pair (.str) (.sl (.int .i64)))))))))]
abbrev rsh : List RSh := [.ro .bool]
def ent (n : Nat) : FEnt := ⟨ash, rsh, fun v => F n v.1 v.2.1⟩
noncomputable def cx (n : Nat) : Ctx := mkCtx Try.prog TYS [(59, laws_eqExpS.ent n), (60, laws_eqLit.ent n), (61, laws_eqLitS.ent n)]
noncomputable def d : FnD := ⟨code, 23, .nil, [(.tmp 4, .bool, .ro)]⟩
noncomputable def kr (n : Nat) (v : AVs ash) : Env → Option (RVs rsh) := endK (cx n) d (avEnc ash v) (rvDec rsh)
def an : An := .seq .nil (.seq (.seq .nil (.cond (.seq .nil .nil) .nil)) (.seq (.seq .nil (.cond (.seq .nil .nil) .nil)) (.seq (.seq .nil (.cond (.seq .nil .nil) .nil)) (.seq .nil .nil))))
def T (n : Nat) : Tab (RVs rsh) := fun j e kn kx => match j with
  | _ => none
theorem co (n : Nat) : CtxOk (cx n) := mkCtx_cok TYS_ok
theorem mx (n : Nat) : (cx n).P.follows .mixedOrders = true := mkCtx_mix MIX
theorem mk (n : Nat) : MOk (cx n) := mkCtx_ok (mem_cons (laws_eqExpS.ok n) (mem_cons (laws_eqLit.ok n) (mem_cons (laws_eqLitS.ok n) mem_nil)))
theorem us : units code an = [] := by kernel_rfl
theorem eqn (n : Nat) (v : AVs ash) : fnEvT (cx n) d an (T n) (avEnc ash v) (rvDec rsh) = F n v.1 v.2.1 := by kernel_rfl
theorem ok (n : Nat) : EntOk Try.prog 22 (ent n) :=
  ent_ok (c := cx n) (e := ent n) (d := d) (an := an) (fn := Try.f22) (co n) (mk n) (mx n) (by kernel_rfl) (by kernel_rfl) (by kernel_rfl) (by kernel_rfl) (by kernel_rfl) (fun _ => T n) (fun v => units_of us (mem_nil)) (eqn n)
end laws_eqRule
/-! laws.eqRuleS -/
namespace laws_eqRuleS
def l0 (n : Nat) (a3 : List ((List (Int × ByteArray × List Int)) × (Int × ByteArray × List Int) × List (Int × ByteArray × List Int))) (b4 : List ((List (Int × ByteArray × List Int)) × (Int × ByteArray × List Int) × List (Int × ByteArray × List Int))) (K0 : Unit → Option Bool) : Nat → Int → Option Bool
  | 0, _ => none
  | k + 1, i5 =>
    if decide (i5 < (List.length a3 : Int)) = true then
      if 0 ≤ i5 ∧ i5 < (List.length a3 : Int) then
        if 0 ≤ i5 ∧ i5 < (List.length b4 : Int) then
          (laws_eqRule.F n (List.getD a3 (Int.toNat i5) ([], ((0, (ByteArray.empty, [])), []))) (List.getD b4 (Int.toNat i5) ([], ((0, (ByteArray.empty, [])), [])))).bind fun r6 =>
          if (!r6) = true then
            some false
          else
            l0 n a3 b4 K0 k (IntKind.i64.wrap (i5 + 1))
        else
          none
      else
        none
    else
      K0 ()
def F (n : Nat) (a1 : List ((List (Int × ByteArray × List Int)) × (Int × ByteArray × List Int) × List (Int × ByteArray × List Int))) (b2 : List ((List (Int × ByteArray × List Int)) × (Int × ByteArray × List Int) × List (Int × ByteArray × List Int))) : Option Bool :=
  if (!decide ((List.length a1 : Int) = (List.length b2 : Int))) = true then
    some false
  else
    l0 n a1 b2 (fun _ =>
      some true) n 0
noncomputable def code : Code := Try.f71.body.getD .skip
abbrev ash : List ASh := [.ro (.sl (.st (.pair (.sl (.st (.pair (.int .i64) (.pair (.str) (.sl (.int .i64)))))) (.pair (.st (.pair (.int .i64) (.pair (.str) (.sl (.int .i64))))) (.sl (.st (.pair (.int .i64) (.pair (.str) (.sl (.int .i64)))))))))), .ro (.sl (.st (.pair (.sl (.st (.pair (.int .i64) (.pair (.str) (.sl (.int .i64)))))) (.pair (.st (.pair (.int .i64) (.pair (.str) (.sl (.int .i64))))) (.sl (.st (.pair (.int .i64) (.pair (.str) (.sl (.int .i64))))))))))]
abbrev rsh : List RSh := [.ro .bool]
def ent (n : Nat) : FEnt := ⟨ash, rsh, fun v => F n v.1 v.2.1⟩
noncomputable def cx (n : Nat) : Ctx := mkCtx Try.prog TYS [(22, laws_eqRule.ent n)]
noncomputable def d : FnD := ⟨code, 27, .nil, [(.tmp 4, .bool, .ro)]⟩
noncomputable def kr (n : Nat) (v : AVs ash) : Env → Option (RVs rsh) := endK (cx n) d (avEnc ash v) (rvDec rsh)
noncomputable def c0 : Code := (Code.l (Code.r (Code.l (Code.r (Code.r code)))))
noncomputable def b0 : Code := Code.l c0
def an : An := .seq .nil (.seq (.seq .nil (.cond (.seq .nil .nil) .nil)) (.seq (.seq .nil (.block (some []) (.cut 0 [0, 1, 5]))) (.seq .nil .nil)))
def an0 : An := .seq (.seq .nil (.cond .nil .nil)) (.seq (.block (some [0, 1, 5]) (.seq .nil (.cond (.seq .nil .nil) .nil))) .nil)
abbrev sh0 : ES := ⟨[(0, .v (.sl (.st (.pair (.sl (.st (.pair (.int .i64) (.pair (.str) (.sl (.int .i64)))))) (.pair (.st (.pair (.int .i64) (.pair (.str) (.sl (.int .i64))))) (.sl (.st (.pair (.int .i64) (.pair (.str) (.sl (.int .i64))))))))))), (1, .v (.sl (.st (.pair (.sl (.st (.pair (.int .i64) (.pair (.str) (.sl (.int .i64)))))) (.pair (.st (.pair (.int .i64) (.pair (.str) (.sl (.int .i64))))) (.sl (.st (.pair (.int .i64) (.pair (.str) (.sl (.int .i64))))))))))), (5, .v (.int .i64))], []⟩
abbrev sh0_0 : ES := ⟨[], []⟩
def T0 (n m : Nat) (e : Env) (kn : Env → Option (RVs rsh)) (kx : Nat → Env → Option (RVs rsh)) : Option (RVs rsh) := ES.on sh0 e fun x => l0 n x.1.1 x.1.2.1 (fun _ => kx 0 (sh0_0.enc ((()), (())))) m x.1.2.2.1
def T (n : Nat) : Tab (RVs rsh) := fun j e kn kx => match j with
  | 0 => T0 n n e kn kx
  | _ => none
theorem co (n : Nat) : CtxOk (cx n) := mkCtx_cok TYS_ok
theorem mx (n : Nat) : (cx n).P.follows .mixedOrders = true := mkCtx_mix MIX
theorem mk (n : Nat) : MOk (cx n) := mkCtx_ok (mem_cons (laws_eqRule.ok n) mem_nil)
theorem us0 : units b0 an0 = [] := by kernel_rfl
theorem e0 (n m : Nat) (v : AVs ash) (x : sh0.V) (kn : Env → Option (RVs rsh)) (kx : Nat → Env → Option (RVs rsh)) : aevT (cx n) 27 (T n) (kr n v) b0 an0 [(0, [])] (meet (some [0, 1, 5]) fun e => T0 n m e kn kx) kx (sh0.enc x) = l0 n x.1.1 x.1.2.1 (fun _ => kx 0 (sh0_0.enc ((()), (())))) (m + 1) x.1.2.2.1 := by kernel_rfl
theorem cl0 : c0 = .loop b0 := by kernel_rfl
theorem u0 (n : Nat) (v : AVs ash) : UnitOk (cx n) 27 (T n) (kr n v) 0 c0 := by
  rw [cl0]
  exact loop_unit (n := n) (co n) (mk n) (mx n) an0 [(0, [])] [0, 1, 5] (T0 n) (fun _ _ _ => rfl) (fun e kn kx out h => by obtain ⟨x, _, h⟩ := ES.on_inv h; cases h) (fun m e kn kx out h => by obtain ⟨x, rfl, h⟩ := ES.on_inv h; exact (e0 n m v x kn kx).trans h) (units_of us0 (mem_nil))
theorem us : units code an = [(0, c0)] := by kernel_rfl
theorem eqn (n : Nat) (v : AVs ash) : fnEvT (cx n) d an (T n) (avEnc ash v) (rvDec rsh) = F n v.1 v.2.1 := by kernel_rfl
theorem ok (n : Nat) : EntOk Try.prog 71 (ent n) :=
  ent_ok (c := cx n) (e := ent n) (d := d) (an := an) (fn := Try.f71) (co n) (mk n) (mx n) (by kernel_rfl) (by kernel_rfl) (by kernel_rfl) (by kernel_rfl) (by kernel_rfl) (fun _ => T n) (fun v => units_of us (mem_cons (u0 n v) mem_nil)) (eqn n)
end laws_eqRuleS
/-! laws.eqProg -/
namespace laws_eqProg
def F (n : Nat) (a1 : (List (ByteArray × List (ByteArray × List ByteArray))) × (List (ByteArray × (List ByteArray) × Int)) × List ((List (Int × ByteArray × List Int)) × (Int × ByteArray × List Int) × List (Int × ByteArray × List Int))) (b2 : (List (ByteArray × List (ByteArray × List ByteArray))) × (List (ByteArray × (List ByteArray) × Int)) × List ((List (Int × ByteArray × List Int)) × (Int × ByteArray × List Int) × List (Int × ByteArray × List Int))) : Option Bool :=
  (laws_eqTypeDeclS.F n a1.1 b2.1).bind fun r3 =>
  if (!r3) = true then
    some false
  else
    (laws_eqRelDeclS.F n a1.2.1 b2.2.1).bind fun r4 =>
    if (!r4) = true then
      some false
    else
      (laws_eqRuleS.F n a1.2.2 b2.2.2).bind fun r5 =>
      if (!r5) = true then
        some false
      else
        some true
noncomputable def code : Code := Try.f28.body.getD .skip
abbrev ash : List ASh := [.ro (.st (.pair (.sl (.st (.pair (.str) (.sl (.st (.pair (.str) (.sl (.str)))))))) (.pair (.sl (.st (.pair (.str) (.pair (.sl (.str)) (.int .i64))))) (.sl (.st (.pair (.sl (.st (.pair (.int .i64) (.pair (.str) (.sl (.int .i64)))))) (.pair (.st (.pair (.int .i64) (.pair (.str) (.sl (.int .i64))))) (.sl (.st (.pair (.int .i64) (.pair (.str) (.sl (.int .i64))))))))))))), .ro (.st (.pair (.sl (.st (.pair (.str) (.sl (.st (.pair (.str) (.sl (.str)))))))) (.pair (.sl (.st (.pair (.str) (.pair (.sl (.str)) (.int .i64))))) (.sl (.st (.pair (.sl (.st (.pair (.int .i64) (.pair (.str) (.sl (.int .i64)))))) (.pair (.st (.pair (.int .i64) (.pair (.str) (.sl (.int .i64))))) (.sl (.st (.pair (.int .i64) (.pair (.str) (.sl (.int .i64)))))))))))))]
abbrev rsh : List RSh := [.ro .bool]
def ent (n : Nat) : FEnt := ⟨ash, rsh, fun v => F n v.1 v.2.1⟩
noncomputable def cx (n : Nat) : Ctx := mkCtx Try.prog TYS [(69, laws_eqTypeDeclS.ent n), (70, laws_eqRelDeclS.ent n), (71, laws_eqRuleS.ent n)]
noncomputable def d : FnD := ⟨code, 23, .nil, [(.tmp 4, .bool, .ro)]⟩
noncomputable def kr (n : Nat) (v : AVs ash) : Env → Option (RVs rsh) := endK (cx n) d (avEnc ash v) (rvDec rsh)
def an : An := .seq .nil (.seq (.seq .nil (.cond (.seq .nil .nil) .nil)) (.seq (.seq .nil (.cond (.seq .nil .nil) .nil)) (.seq (.seq .nil (.cond (.seq .nil .nil) .nil)) (.seq .nil .nil))))
def T (n : Nat) : Tab (RVs rsh) := fun j e kn kx => match j with
  | _ => none
theorem co (n : Nat) : CtxOk (cx n) := mkCtx_cok TYS_ok
theorem mx (n : Nat) : (cx n).P.follows .mixedOrders = true := mkCtx_mix MIX
theorem mk (n : Nat) : MOk (cx n) := mkCtx_ok (mem_cons (laws_eqTypeDeclS.ok n) (mem_cons (laws_eqRelDeclS.ok n) (mem_cons (laws_eqRuleS.ok n) mem_nil)))
theorem us : units code an = [] := by kernel_rfl
theorem eqn (n : Nat) (v : AVs ash) : fnEvT (cx n) d an (T n) (avEnc ash v) (rvDec rsh) = F n v.1 v.2.1 := by kernel_rfl
theorem ok (n : Nat) : EntOk Try.prog 28 (ent n) :=
  ent_ok (c := cx n) (e := ent n) (d := d) (an := an) (fn := Try.f28) (co n) (mk n) (mx n) (by kernel_rfl) (by kernel_rfl) (by kernel_rfl) (by kernel_rfl) (by kernel_rfl) (fun _ => T n) (fun v => units_of us (mem_nil)) (eqn n)
end laws_eqProg
/-! laws.markText -/
namespace laws_markText
def l0 (n : Nat) (K0 : ByteArray → Option ByteArray) : Nat → Int → ByteArray → Option ByteArray
  | 0, _, _ => none
  | k + 1, k2, out3 =>
    if decide (k2 > 0) = true then
      if ByteArray.size (bstr [IntKind.u8.wrap (IntKind.i64.wrap (48 + (Int.tmod k2 10)))]) + ByteArray.size out3 ≤ lim then
        l0 n K0 k (IntKind.i64.wrap (Int.tdiv k2 10)) ((bstr [IntKind.u8.wrap (IntKind.i64.wrap (48 + (Int.tmod k2 10)))]) ++ out3)
      else
        none
    else
      K0 out3
def F (n : Nat) (k1 : Int) : Option ByteArray :=
  if decide (k1 ≤ 0) = true then
    some ⟨#[109, 48]⟩
  else
    l0 n (fun out4 =>
      if ByteArray.size ⟨#[109]⟩ + ByteArray.size out4 ≤ lim then
        some (⟨#[109]⟩ ++ out4)
      else
        none) n k1 ByteArray.empty
noncomputable def code : Code := Try.f90.body.getD .skip
abbrev ash : List ASh := [.ro (.int .i64)]
abbrev rsh : List RSh := [.ro .str]
def ent (n : Nat) : FEnt := ⟨ash, rsh, fun v => F n v.1⟩
noncomputable def cx (n : Nat) : Ctx := mkCtx Try.prog TYS []
noncomputable def d : FnD := ⟨code, 20, .nil, [(.tmp 2, .str, .ro)]⟩
noncomputable def kr (n : Nat) (v : AVs ash) : Env → Option (RVs rsh) := endK (cx n) d (avEnc ash v) (rvDec rsh)
noncomputable def c0 : Code := (Code.l (Code.l (Code.r (Code.r (Code.r code)))))
noncomputable def b0 : Code := Code.l c0
def an : An := .seq .nil (.seq (.seq .nil (.cond (.seq .nil .nil) .nil)) (.seq .nil (.seq (.block (some [3]) (.cut 0 [0, 3])) (.seq .nil .nil))))
def an0 : An := .seq (.seq .nil (.cond .nil .nil)) (.block (some [0, 3]) (.seq .nil .nil))
abbrev sh0 : ES := ⟨[(0, .v (.int .i64)), (3, .v .str)], []⟩
abbrev sh0_0 : ES := ⟨[(3, .v .str)], []⟩
def T0 (n m : Nat) (e : Env) (kn : Env → Option (RVs rsh)) (kx : Nat → Env → Option (RVs rsh)) : Option (RVs rsh) := ES.on sh0 e fun x => l0 n (fun y0 => kx 0 (sh0_0.enc ((y0, ()), (())))) m x.1.1 x.1.2.1
def T (n : Nat) : Tab (RVs rsh) := fun j e kn kx => match j with
  | 0 => T0 n n e kn kx
  | _ => none
theorem co (n : Nat) : CtxOk (cx n) := mkCtx_cok TYS_ok
theorem mx (n : Nat) : (cx n).P.follows .mixedOrders = true := mkCtx_mix MIX
theorem mk (n : Nat) : MOk (cx n) := mkCtx_ok (mem_nil)
theorem us0 : units b0 an0 = [] := by kernel_rfl
theorem e0 (n m : Nat) (v : AVs ash) (x : sh0.V) (kn : Env → Option (RVs rsh)) (kx : Nat → Env → Option (RVs rsh)) : aevT (cx n) 20 (T n) (kr n v) b0 an0 [(0, [3])] (meet (some [0, 3]) fun e => T0 n m e kn kx) kx (sh0.enc x) = l0 n (fun y0 => kx 0 (sh0_0.enc ((y0, ()), (())))) (m + 1) x.1.1 x.1.2.1 := by kernel_rfl
theorem cl0 : c0 = .loop b0 := by kernel_rfl
theorem u0 (n : Nat) (v : AVs ash) : UnitOk (cx n) 20 (T n) (kr n v) 0 c0 := by
  rw [cl0]
  exact loop_unit (n := n) (co n) (mk n) (mx n) an0 [(0, [3])] [0, 3] (T0 n) (fun _ _ _ => rfl) (fun e kn kx out h => by obtain ⟨x, _, h⟩ := ES.on_inv h; cases h) (fun m e kn kx out h => by obtain ⟨x, rfl, h⟩ := ES.on_inv h; exact (e0 n m v x kn kx).trans h) (units_of us0 (mem_nil))
theorem us : units code an = [(0, c0)] := by kernel_rfl
theorem eqn (n : Nat) (v : AVs ash) : fnEvT (cx n) d an (T n) (avEnc ash v) (rvDec rsh) = F n v.1 := by kernel_rfl
theorem ok (n : Nat) : EntOk Try.prog 90 (ent n) :=
  ent_ok (c := cx n) (e := ent n) (d := d) (an := an) (fn := Try.f90) (co n) (mk n) (mx n) (by kernel_rfl) (by kernel_rfl) (by kernel_rfl) (by kernel_rfl) (by kernel_rfl) (fun _ => T n) (fun v => units_of us (mem_cons (u0 n v) mem_nil)) (eqn n)
end laws_markText
/-! laws.markStringS -/
namespace laws_markStringS
def l0 (n : Nat) (K0 : Int → (List ByteArray) → Option (Int × List ByteArray)) : Nat → Int → Int → (List ByteArray) → Option (Int × List ByteArray)
  | 0, _, _, _ => none
  | k + 1, k3, i4, a5 =>
    if decide (i4 < (List.length a5 : Int)) = true then
      (laws_markText.F n k3).bind fun r6 =>
      if 0 ≤ i4 ∧ i4 < (List.length a5 : Int) then
        l0 n K0 k (IntKind.i64.wrap (k3 + 1)) (IntKind.i64.wrap (i4 + 1)) (List.set a5 (Int.toNat i4) r6)
      else
        none
    else
      K0 k3 a5
def F (n : Nat) (a1 : List ByteArray) (k2 : Int) : Option (Int × List ByteArray) :=
  l0 n (fun k7 a8 =>
    some (k7, a8)) n k2 0 a1
noncomputable def code : Code := Try.f47.body.getD .skip
abbrev ash : List ASh := [.ms (.sl (.str)) (.own .ro), .ro (.int .i64)]
abbrev rsh : List RSh := [.ro (.int .i64), .out (.sl (.str))]
def ent (n : Nat) : FEnt := ⟨ash, rsh, fun v => F n v.1 v.2.1⟩
noncomputable def cx (n : Nat) : Ctx := mkCtx Try.prog TYS [(90, laws_markText.ent n)]
noncomputable def d : FnD := ⟨code, 20, .nil, [(.tmp 4, .int .i64, .ro)]⟩
noncomputable def kr (n : Nat) (v : AVs ash) : Env → Option (RVs rsh) := endK (cx n) d (avEnc ash v) (rvDec rsh)
noncomputable def c0 : Code := (Code.l (Code.r (Code.l (Code.r code))))
noncomputable def b0 : Code := Code.l c0
def an : An := .seq .nil (.seq (.seq .nil (.block (some [0, 1]) (.cut 0 [0, 1, 5]))) (.seq .nil .nil))
def an0 : An := .seq (.seq .nil (.cond .nil .nil)) (.seq (.block (some [0, 1, 5]) (.seq .nil .nil)) .nil)
abbrev sh0 : ES := ⟨[(0, .al 0 []), (1, .v (.int .i64)), (5, .v (.int .i64))], [⟨0, .sl (.str), .own .ro, false, true⟩]⟩
abbrev sh0_0 : ES := ⟨[(0, .al 0 []), (1, .v (.int .i64))], [⟨0, .sl (.str), .own .ro, false, true⟩]⟩
def T0 (n m : Nat) (e : Env) (kn : Env → Option (RVs rsh)) (kx : Nat → Env → Option (RVs rsh)) : Option (RVs rsh) := ES.on sh0 e fun x => l0 n (fun y0 y1 => kx 0 (sh0_0.enc (((()), y0, ()), (y1, ())))) m x.1.2.1 x.1.2.2.1 x.2.1
def T (n : Nat) : Tab (RVs rsh) := fun j e kn kx => match j with
  | 0 => T0 n n e kn kx
  | _ => none
theorem co (n : Nat) : CtxOk (cx n) := mkCtx_cok TYS_ok
theorem mx (n : Nat) : (cx n).P.follows .mixedOrders = true := mkCtx_mix MIX
theorem mk (n : Nat) : MOk (cx n) := mkCtx_ok (mem_cons (laws_markText.ok n) mem_nil)
theorem us0 : units b0 an0 = [] := by kernel_rfl
theorem e0 (n m : Nat) (v : AVs ash) (x : sh0.V) (kn : Env → Option (RVs rsh)) (kx : Nat → Env → Option (RVs rsh)) : aevT (cx n) 20 (T n) (kr n v) b0 an0 [(0, [0, 1])] (meet (some [0, 1, 5]) fun e => T0 n m e kn kx) kx (sh0.enc x) = l0 n (fun y0 y1 => kx 0 (sh0_0.enc (((()), y0, ()), (y1, ())))) (m + 1) x.1.2.1 x.1.2.2.1 x.2.1 := by kernel_rfl
theorem cl0 : c0 = .loop b0 := by kernel_rfl
theorem u0 (n : Nat) (v : AVs ash) : UnitOk (cx n) 20 (T n) (kr n v) 0 c0 := by
  rw [cl0]
  exact loop_unit (n := n) (co n) (mk n) (mx n) an0 [(0, [0, 1])] [0, 1, 5] (T0 n) (fun _ _ _ => rfl) (fun e kn kx out h => by obtain ⟨x, _, h⟩ := ES.on_inv h; cases h) (fun m e kn kx out h => by obtain ⟨x, rfl, h⟩ := ES.on_inv h; exact (e0 n m v x kn kx).trans h) (units_of us0 (mem_nil))
theorem us : units code an = [(0, c0)] := by kernel_rfl
theorem eqn (n : Nat) (v : AVs ash) : fnEvT (cx n) d an (T n) (avEnc ash v) (rvDec rsh) = F n v.1 v.2.1 := by kernel_rfl
theorem ok (n : Nat) : EntOk Try.prog 47 (ent n) :=
  ent_ok (c := cx n) (e := ent n) (d := d) (an := an) (fn := Try.f47) (co n) (mk n) (mx n) (by kernel_rfl) (by kernel_rfl) (by kernel_rfl) (by kernel_rfl) (by kernel_rfl) (fun _ => T n) (fun v => units_of us (mem_cons (u0 n v) mem_nil)) (eqn n)
end laws_markStringS
/-! laws.markConS -/
namespace laws_markConS
def l0 (n : Nat) (K0 : Int → (List (ByteArray × List ByteArray)) → Option (Int × List (ByteArray × List ByteArray))) : Nat → Int → Int → (List (ByteArray × List ByteArray)) → Option (Int × List (ByteArray × List ByteArray))
  | 0, _, _, _ => none
  | k + 1, k3, i4, a5 =>
    if decide (i4 < (List.length a5 : Int)) = true then
      (laws_markText.F n k3).bind fun r6 =>
      if 0 ≤ i4 ∧ i4 < (List.length a5 : Int) then
        let w7 : List (ByteArray × List ByteArray) := List.set a5 (Int.toNat i4) (r6, (List.getD a5 (Int.toNat i4) (ByteArray.empty, [])).2)
        if 0 ≤ i4 ∧ i4 < (List.length w7 : Int) then
          (laws_markStringS.F n ((List.getD w7 (Int.toNat i4) (ByteArray.empty, [])).2) (IntKind.i64.wrap (k3 + 1))).bind fun r8 =>
          let w9 : List (ByteArray × List ByteArray) := List.set w7 (Int.toNat i4) ((List.getD w7 (Int.toNat i4) (ByteArray.empty, [])).1, r8.2)
          l0 n K0 k r8.1 (IntKind.i64.wrap (i4 + 1)) w9
        else
          none
      else
        none
    else
      K0 k3 a5
def F (n : Nat) (a1 : List (ByteArray × List ByteArray)) (k2 : Int) : Option (Int × List (ByteArray × List ByteArray)) :=
  l0 n (fun k10 a11 =>
    some (k10, a11)) n k2 0 a1
noncomputable def code : Code := Try.f111.body.getD .skip
abbrev ash : List ASh := [.ms (.sl (.st (.pair (.str) (.sl (.str))))) (.own (.pr .ro (.own .ro))), .ro (.int .i64)]
abbrev rsh : List RSh := [.ro (.int .i64), .out (.sl (.st (.pair (.str) (.sl (.str)))))]
def ent (n : Nat) : FEnt := ⟨ash, rsh, fun v => F n v.1 v.2.1⟩
noncomputable def cx (n : Nat) : Ctx := mkCtx Try.prog TYS [(47, laws_markStringS.ent n), (90, laws_markText.ent n)]
noncomputable def d : FnD := ⟨code, 28, .nil, [(.tmp 4, .int .i64, .ro)]⟩
noncomputable def kr (n : Nat) (v : AVs ash) : Env → Option (RVs rsh) := endK (cx n) d (avEnc ash v) (rvDec rsh)
noncomputable def c0 : Code := (Code.l (Code.r (Code.l (Code.r code))))
noncomputable def b0 : Code := Code.l c0
def an : An := .seq .nil (.seq (.seq .nil (.block (some [0, 1]) (.cut 0 [0, 1, 5]))) (.seq .nil .nil))
def an0 : An := .seq (.seq .nil (.cond .nil .nil)) (.seq (.block (some [0, 1, 5]) (.seq .nil (.seq .nil .nil))) .nil)
abbrev sh0 : ES := ⟨[(0, .al 0 []), (1, .v (.int .i64)), (5, .v (.int .i64))], [⟨0, .sl (.st (.pair (.str) (.sl (.str)))), .own (.pr .ro (.own .ro)), false, true⟩]⟩
abbrev sh0_0 : ES := ⟨[(0, .al 0 []), (1, .v (.int .i64))], [⟨0, .sl (.st (.pair (.str) (.sl (.str)))), .own (.pr .ro (.own .ro)), false, true⟩]⟩
def T0 (n m : Nat) (e : Env) (kn : Env → Option (RVs rsh)) (kx : Nat → Env → Option (RVs rsh)) : Option (RVs rsh) := ES.on sh0 e fun x => l0 n (fun y0 y1 => kx 0 (sh0_0.enc (((()), y0, ()), (y1, ())))) m x.1.2.1 x.1.2.2.1 x.2.1
def T (n : Nat) : Tab (RVs rsh) := fun j e kn kx => match j with
  | 0 => T0 n n e kn kx
  | _ => none
theorem co (n : Nat) : CtxOk (cx n) := mkCtx_cok TYS_ok
theorem mx (n : Nat) : (cx n).P.follows .mixedOrders = true := mkCtx_mix MIX
theorem mk (n : Nat) : MOk (cx n) := mkCtx_ok (mem_cons (laws_markStringS.ok n) (mem_cons (laws_markText.ok n) mem_nil))
theorem us0 : units b0 an0 = [] := by kernel_rfl
theorem e0 (n m : Nat) (v : AVs ash) (x : sh0.V) (kn : Env → Option (RVs rsh)) (kx : Nat → Env → Option (RVs rsh)) : aevT (cx n) 28 (T n) (kr n v) b0 an0 [(0, [0, 1])] (meet (some [0, 1, 5]) fun e => T0 n m e kn kx) kx (sh0.enc x) = l0 n (fun y0 y1 => kx 0 (sh0_0.enc (((()), y0, ()), (y1, ())))) (m + 1) x.1.2.1 x.1.2.2.1 x.2.1 := by kernel_rfl
theorem cl0 : c0 = .loop b0 := by kernel_rfl
theorem u0 (n : Nat) (v : AVs ash) : UnitOk (cx n) 28 (T n) (kr n v) 0 c0 := by
  rw [cl0]
  exact loop_unit (n := n) (co n) (mk n) (mx n) an0 [(0, [0, 1])] [0, 1, 5] (T0 n) (fun _ _ _ => rfl) (fun e kn kx out h => by obtain ⟨x, _, h⟩ := ES.on_inv h; cases h) (fun m e kn kx out h => by obtain ⟨x, rfl, h⟩ := ES.on_inv h; exact (e0 n m v x kn kx).trans h) (units_of us0 (mem_nil))
theorem us : units code an = [(0, c0)] := by kernel_rfl
theorem eqn (n : Nat) (v : AVs ash) : fnEvT (cx n) d an (T n) (avEnc ash v) (rvDec rsh) = F n v.1 v.2.1 := by kernel_rfl
theorem ok (n : Nat) : EntOk Try.prog 111 (ent n) :=
  ent_ok (c := cx n) (e := ent n) (d := d) (an := an) (fn := Try.f111) (co n) (mk n) (mx n) (by kernel_rfl) (by kernel_rfl) (by kernel_rfl) (by kernel_rfl) (by kernel_rfl) (fun _ => T n) (fun v => units_of us (mem_cons (u0 n v) mem_nil)) (eqn n)
end laws_markConS
/-! laws.markTypeDeclS -/
namespace laws_markTypeDeclS
def l0 (n : Nat) (K0 : Int → (List (ByteArray × List (ByteArray × List ByteArray))) → Option (Int × List (ByteArray × List (ByteArray × List ByteArray)))) : Nat → Int → Int → (List (ByteArray × List (ByteArray × List ByteArray))) → Option (Int × List (ByteArray × List (ByteArray × List ByteArray)))
  | 0, _, _, _ => none
  | k + 1, k3, i4, a5 =>
    if decide (i4 < (List.length a5 : Int)) = true then
      (laws_markText.F n k3).bind fun r6 =>
      if 0 ≤ i4 ∧ i4 < (List.length a5 : Int) then
        let w7 : List (ByteArray × List (ByteArray × List ByteArray)) := List.set a5 (Int.toNat i4) (r6, (List.getD a5 (Int.toNat i4) (ByteArray.empty, [])).2)
        if 0 ≤ i4 ∧ i4 < (List.length w7 : Int) then
          (laws_markConS.F n ((List.getD w7 (Int.toNat i4) (ByteArray.empty, [])).2) (IntKind.i64.wrap (k3 + 1))).bind fun r8 =>
          let w9 : List (ByteArray × List (ByteArray × List ByteArray)) := List.set w7 (Int.toNat i4) ((List.getD w7 (Int.toNat i4) (ByteArray.empty, [])).1, r8.2)
          l0 n K0 k r8.1 (IntKind.i64.wrap (i4 + 1)) w9
        else
          none
      else
        none
    else
      K0 k3 a5
def F (n : Nat) (a1 : List (ByteArray × List (ByteArray × List ByteArray))) (k2 : Int) : Option (Int × List (ByteArray × List (ByteArray × List ByteArray))) :=
  l0 n (fun k10 a11 =>
    some (k10, a11)) n k2 0 a1
noncomputable def code : Code := Try.f72.body.getD .skip
abbrev ash : List ASh := [.ms (.sl (.st (.pair (.str) (.sl (.st (.pair (.str) (.sl (.str)))))))) (.own (.pr .ro (.own (.pr .ro (.own .ro))))), .ro (.int .i64)]
abbrev rsh : List RSh := [.ro (.int .i64), .out (.sl (.st (.pair (.str) (.sl (.st (.pair (.str) (.sl (.str))))))))]
def ent (n : Nat) : FEnt := ⟨ash, rsh, fun v => F n v.1 v.2.1⟩
noncomputable def cx (n : Nat) : Ctx := mkCtx Try.prog TYS [(90, laws_markText.ent n), (111, laws_markConS.ent n)]
noncomputable def d : FnD := ⟨code, 28, .nil, [(.tmp 4, .int .i64, .ro)]⟩
noncomputable def kr (n : Nat) (v : AVs ash) : Env → Option (RVs rsh) := endK (cx n) d (avEnc ash v) (rvDec rsh)
noncomputable def c0 : Code := (Code.l (Code.r (Code.l (Code.r code))))
noncomputable def b0 : Code := Code.l c0
def an : An := .seq .nil (.seq (.seq .nil (.block (some [0, 1]) (.cut 0 [0, 1, 5]))) (.seq .nil .nil))
def an0 : An := .seq (.seq .nil (.cond .nil .nil)) (.seq (.block (some [0, 1, 5]) (.seq .nil (.seq .nil .nil))) .nil)
abbrev sh0 : ES := ⟨[(0, .al 0 []), (1, .v (.int .i64)), (5, .v (.int .i64))], [⟨0, .sl (.st (.pair (.str) (.sl (.st (.pair (.str) (.sl (.str))))))), .own (.pr .ro (.own (.pr .ro (.own .ro)))), false, true⟩]⟩
abbrev sh0_0 : ES := ⟨[(0, .al 0 []), (1, .v (.int .i64))], [⟨0, .sl (.st (.pair (.str) (.sl (.st (.pair (.str) (.sl (.str))))))), .own (.pr .ro (.own (.pr .ro (.own .ro)))), false, true⟩]⟩
def T0 (n m : Nat) (e : Env) (kn : Env → Option (RVs rsh)) (kx : Nat → Env → Option (RVs rsh)) : Option (RVs rsh) := ES.on sh0 e fun x => l0 n (fun y0 y1 => kx 0 (sh0_0.enc (((()), y0, ()), (y1, ())))) m x.1.2.1 x.1.2.2.1 x.2.1
def T (n : Nat) : Tab (RVs rsh) := fun j e kn kx => match j with
  | 0 => T0 n n e kn kx
  | _ => none
theorem co (n : Nat) : CtxOk (cx n) := mkCtx_cok TYS_ok
theorem mx (n : Nat) : (cx n).P.follows .mixedOrders = true := mkCtx_mix MIX
theorem mk (n : Nat) : MOk (cx n) := mkCtx_ok (mem_cons (laws_markText.ok n) (mem_cons (laws_markConS.ok n) mem_nil))
theorem us0 : units b0 an0 = [] := by kernel_rfl
theorem e0 (n m : Nat) (v : AVs ash) (x : sh0.V) (kn : Env → Option (RVs rsh)) (kx : Nat → Env → Option (RVs rsh)) : aevT (cx n) 28 (T n) (kr n v) b0 an0 [(0, [0, 1])] (meet (some [0, 1, 5]) fun e => T0 n m e kn kx) kx (sh0.enc x) = l0 n (fun y0 y1 => kx 0 (sh0_0.enc (((()), y0, ()), (y1, ())))) (m + 1) x.1.2.1 x.1.2.2.1 x.2.1 := by kernel_rfl
theorem cl0 : c0 = .loop b0 := by kernel_rfl
theorem u0 (n : Nat) (v : AVs ash) : UnitOk (cx n) 28 (T n) (kr n v) 0 c0 := by
  rw [cl0]
  exact loop_unit (n := n) (co n) (mk n) (mx n) an0 [(0, [0, 1])] [0, 1, 5] (T0 n) (fun _ _ _ => rfl) (fun e kn kx out h => by obtain ⟨x, _, h⟩ := ES.on_inv h; cases h) (fun m e kn kx out h => by obtain ⟨x, rfl, h⟩ := ES.on_inv h; exact (e0 n m v x kn kx).trans h) (units_of us0 (mem_nil))
theorem us : units code an = [(0, c0)] := by kernel_rfl
theorem eqn (n : Nat) (v : AVs ash) : fnEvT (cx n) d an (T n) (avEnc ash v) (rvDec rsh) = F n v.1 v.2.1 := by kernel_rfl
theorem ok (n : Nat) : EntOk Try.prog 72 (ent n) :=
  ent_ok (c := cx n) (e := ent n) (d := d) (an := an) (fn := Try.f72) (co n) (mk n) (mx n) (by kernel_rfl) (by kernel_rfl) (by kernel_rfl) (by kernel_rfl) (by kernel_rfl) (fun _ => T n) (fun v => units_of us (mem_cons (u0 n v) mem_nil)) (eqn n)
end laws_markTypeDeclS
/-! laws.markRelDeclS -/
namespace laws_markRelDeclS
def l0 (n : Nat) (K0 : Int → (List (ByteArray × (List ByteArray) × Int)) → Option (Int × List (ByteArray × (List ByteArray) × Int))) : Nat → Int → Int → (List (ByteArray × (List ByteArray) × Int)) → Option (Int × List (ByteArray × (List ByteArray) × Int))
  | 0, _, _, _ => none
  | k + 1, k3, i4, a5 =>
    if decide (i4 < (List.length a5 : Int)) = true then
      (laws_markText.F n k3).bind fun r6 =>
      if 0 ≤ i4 ∧ i4 < (List.length a5 : Int) then
        let w7 : List (ByteArray × (List ByteArray) × Int) := List.set a5 (Int.toNat i4) (r6, (List.getD a5 (Int.toNat i4) (ByteArray.empty, ([], 0))).2)
        if 0 ≤ i4 ∧ i4 < (List.length w7 : Int) then
          (laws_markStringS.F n (((List.getD w7 (Int.toNat i4) (ByteArray.empty, ([], 0))).2).1) (IntKind.i64.wrap (k3 + 1))).bind fun r8 =>
          let w9 : List (ByteArray × (List ByteArray) × Int) := List.set w7 (Int.toNat i4) ((List.getD w7 (Int.toNat i4) (ByteArray.empty, ([], 0))).1, (r8.2, ((List.getD w7 (Int.toNat i4) (ByteArray.empty, ([], 0))).2).2))
          if 0 ≤ i4 ∧ i4 < (List.length w9 : Int) then
            let w10 : List (ByteArray × (List ByteArray) × Int) := List.set w9 (Int.toNat i4) ((List.getD w9 (Int.toNat i4) (ByteArray.empty, ([], 0))).1, (((List.getD w9 (Int.toNat i4) (ByteArray.empty, ([], 0))).2).1, r8.1))
            l0 n K0 k (IntKind.i64.wrap (r8.1 + 1)) (IntKind.i64.wrap (i4 + 1)) w10
          else
            none
        else
          none
      else
        none
    else
      K0 k3 a5
def F (n : Nat) (a1 : List (ByteArray × (List ByteArray) × Int)) (k2 : Int) : Option (Int × List (ByteArray × (List ByteArray) × Int)) :=
  l0 n (fun k11 a12 =>
    some (k11, a12)) n k2 0 a1
noncomputable def code : Code := Try.f73.body.getD .skip
abbrev ash : List ASh := [.ms (.sl (.st (.pair (.str) (.pair (.sl (.str)) (.int .i64))))) (.own (.pr .ro (.pr (.own .ro) .ro))), .ro (.int .i64)]
abbrev rsh : List RSh := [.ro (.int .i64), .out (.sl (.st (.pair (.str) (.pair (.sl (.str)) (.int .i64)))))]
def ent (n : Nat) : FEnt := ⟨ash, rsh, fun v => F n v.1 v.2.1⟩
noncomputable def cx (n : Nat) : Ctx := mkCtx Try.prog TYS [(47, laws_markStringS.ent n), (90, laws_markText.ent n)]
noncomputable def d : FnD := ⟨code, 35, .nil, [(.tmp 4, .int .i64, .ro)]⟩
noncomputable def kr (n : Nat) (v : AVs ash) : Env → Option (RVs rsh) := endK (cx n) d (avEnc ash v) (rvDec rsh)
noncomputable def c0 : Code := (Code.l (Code.r (Code.l (Code.r code))))
noncomputable def b0 : Code := Code.l c0
def an : An := .seq .nil (.seq (.seq .nil (.block (some [0, 1]) (.cut 0 [0, 1, 5]))) (.seq .nil .nil))
def an0 : An := .seq (.seq .nil (.cond .nil .nil)) (.seq (.block (some [0, 1, 5]) (.seq .nil (.seq .nil (.seq .nil (.seq .nil .nil))))) .nil)
abbrev sh0 : ES := ⟨[(0, .al 0 []), (1, .v (.int .i64)), (5, .v (.int .i64))], [⟨0, .sl (.st (.pair (.str) (.pair (.sl (.str)) (.int .i64)))), .own (.pr .ro (.pr (.own .ro) .ro)), false, true⟩]⟩
abbrev sh0_0 : ES := ⟨[(0, .al 0 []), (1, .v (.int .i64))], [⟨0, .sl (.st (.pair (.str) (.pair (.sl (.str)) (.int .i64)))), .own (.pr .ro (.pr (.own .ro) .ro)), false, true⟩]⟩
def T0 (n m : Nat) (e : Env) (kn : Env → Option (RVs rsh)) (kx : Nat → Env → Option (RVs rsh)) : Option (RVs rsh) := ES.on sh0 e fun x => l0 n (fun y0 y1 => kx 0 (sh0_0.enc (((()), y0, ()), (y1, ())))) m x.1.2.1 x.1.2.2.1 x.2.1
def T (n : Nat) : Tab (RVs rsh) := fun j e kn kx => match j with
  | 0 => T0 n n e kn kx
  | _ => none
theorem co (n : Nat) : CtxOk (cx n) := mkCtx_cok TYS_ok
theorem mx (n : Nat) : (cx n).P.follows .mixedOrders = true := mkCtx_mix MIX
theorem mk (n : Nat) : MOk (cx n) := mkCtx_ok (mem_cons (laws_markStringS.ok n) (mem_cons (laws_markText.ok n) mem_nil))
theorem us0 : units b0 an0 = [] := by kernel_rfl
theorem e0 (n m : Nat) (v : AVs ash) (x : sh0.V) (kn : Env → Option (RVs rsh)) (kx : Nat → Env → Option (RVs rsh)) : aevT (cx n) 35 (T n) (kr n v) b0 an0 [(0, [0, 1])] (meet (some [0, 1, 5]) fun e => T0 n m e kn kx) kx (sh0.enc x) = l0 n (fun y0 y1 => kx 0 (sh0_0.enc (((()), y0, ()), (y1, ())))) (m + 1) x.1.2.1 x.1.2.2.1 x.2.1 := by kernel_rfl
theorem cl0 : c0 = .loop b0 := by kernel_rfl
theorem u0 (n : Nat) (v : AVs ash) : UnitOk (cx n) 35 (T n) (kr n v) 0 c0 := by
  rw [cl0]
  exact loop_unit (n := n) (co n) (mk n) (mx n) an0 [(0, [0, 1])] [0, 1, 5] (T0 n) (fun _ _ _ => rfl) (fun e kn kx out h => by obtain ⟨x, _, h⟩ := ES.on_inv h; cases h) (fun m e kn kx out h => by obtain ⟨x, rfl, h⟩ := ES.on_inv h; exact (e0 n m v x kn kx).trans h) (units_of us0 (mem_nil))
theorem us : units code an = [(0, c0)] := by kernel_rfl
theorem eqn (n : Nat) (v : AVs ash) : fnEvT (cx n) d an (T n) (avEnc ash v) (rvDec rsh) = F n v.1 v.2.1 := by kernel_rfl
theorem ok (n : Nat) : EntOk Try.prog 73 (ent n) :=
  ent_ok (c := cx n) (e := ent n) (d := d) (an := an) (fn := Try.f73) (co n) (mk n) (mx n) (by kernel_rfl) (by kernel_rfl) (by kernel_rfl) (by kernel_rfl) (by kernel_rfl) (fun _ => T n) (fun v => units_of us (mem_cons (u0 n v) mem_nil)) (eqn n)
end laws_markRelDeclS
/-! laws.markIntS -/
namespace laws_markIntS
def l0 (n : Nat) (K0 : Int → (List Int) → Option (Int × List Int)) : Nat → Int → Int → (List Int) → Option (Int × List Int)
  | 0, _, _, _ => none
  | k + 1, k3, i4, a5 =>
    if decide (i4 < (List.length a5 : Int)) = true then
      if 0 ≤ i4 ∧ i4 < (List.length a5 : Int) then
        l0 n K0 k (IntKind.i64.wrap (k3 + 1)) (IntKind.i64.wrap (i4 + 1)) (List.set a5 (Int.toNat i4) k3)
      else
        none
    else
      K0 k3 a5
def F (n : Nat) (a1 : List Int) (k2 : Int) : Option (Int × List Int) :=
  l0 n (fun k6 a7 =>
    some (k6, a7)) n k2 0 a1
noncomputable def code : Code := Try.f30.body.getD .skip
abbrev ash : List ASh := [.ms (.sl (.int .i64)) (.own .ro), .ro (.int .i64)]
abbrev rsh : List RSh := [.ro (.int .i64), .out (.sl (.int .i64))]
def ent (n : Nat) : FEnt := ⟨ash, rsh, fun v => F n v.1 v.2.1⟩
noncomputable def cx (n : Nat) : Ctx := mkCtx Try.prog TYS []
noncomputable def d : FnD := ⟨code, 19, .nil, [(.tmp 4, .int .i64, .ro)]⟩
noncomputable def kr (n : Nat) (v : AVs ash) : Env → Option (RVs rsh) := endK (cx n) d (avEnc ash v) (rvDec rsh)
noncomputable def c0 : Code := (Code.l (Code.r (Code.l (Code.r code))))
noncomputable def b0 : Code := Code.l c0
def an : An := .seq .nil (.seq (.seq .nil (.block (some [0, 1]) (.cut 0 [0, 1, 5]))) (.seq .nil .nil))
def an0 : An := .seq (.seq .nil (.cond .nil .nil)) (.seq (.block (some [0, 1, 5]) (.seq .nil .nil)) .nil)
abbrev sh0 : ES := ⟨[(0, .al 0 []), (1, .v (.int .i64)), (5, .v (.int .i64))], [⟨0, .sl (.int .i64), .own .ro, false, true⟩]⟩
abbrev sh0_0 : ES := ⟨[(0, .al 0 []), (1, .v (.int .i64))], [⟨0, .sl (.int .i64), .own .ro, false, true⟩]⟩
def T0 (n m : Nat) (e : Env) (kn : Env → Option (RVs rsh)) (kx : Nat → Env → Option (RVs rsh)) : Option (RVs rsh) := ES.on sh0 e fun x => l0 n (fun y0 y1 => kx 0 (sh0_0.enc (((()), y0, ()), (y1, ())))) m x.1.2.1 x.1.2.2.1 x.2.1
def T (n : Nat) : Tab (RVs rsh) := fun j e kn kx => match j with
  | 0 => T0 n n e kn kx
  | _ => none
theorem co (n : Nat) : CtxOk (cx n) := mkCtx_cok TYS_ok
theorem mx (n : Nat) : (cx n).P.follows .mixedOrders = true := mkCtx_mix MIX
theorem mk (n : Nat) : MOk (cx n) := mkCtx_ok (mem_nil)
theorem us0 : units b0 an0 = [] := by kernel_rfl
theorem e0 (n m : Nat) (v : AVs ash) (x : sh0.V) (kn : Env → Option (RVs rsh)) (kx : Nat → Env → Option (RVs rsh)) : aevT (cx n) 19 (T n) (kr n v) b0 an0 [(0, [0, 1])] (meet (some [0, 1, 5]) fun e => T0 n m e kn kx) kx (sh0.enc x) = l0 n (fun y0 y1 => kx 0 (sh0_0.enc (((()), y0, ()), (y1, ())))) (m + 1) x.1.2.1 x.1.2.2.1 x.2.1 := by kernel_rfl
theorem cl0 : c0 = .loop b0 := by kernel_rfl
theorem u0 (n : Nat) (v : AVs ash) : UnitOk (cx n) 19 (T n) (kr n v) 0 c0 := by
  rw [cl0]
  exact loop_unit (n := n) (co n) (mk n) (mx n) an0 [(0, [0, 1])] [0, 1, 5] (T0 n) (fun _ _ _ => rfl) (fun e kn kx out h => by obtain ⟨x, _, h⟩ := ES.on_inv h; cases h) (fun m e kn kx out h => by obtain ⟨x, rfl, h⟩ := ES.on_inv h; exact (e0 n m v x kn kx).trans h) (units_of us0 (mem_nil))
theorem us : units code an = [(0, c0)] := by kernel_rfl
theorem eqn (n : Nat) (v : AVs ash) : fnEvT (cx n) d an (T n) (avEnc ash v) (rvDec rsh) = F n v.1 v.2.1 := by kernel_rfl
theorem ok (n : Nat) : EntOk Try.prog 30 (ent n) :=
  ent_ok (c := cx n) (e := ent n) (d := d) (an := an) (fn := Try.f30) (co n) (mk n) (mx n) (by kernel_rfl) (by kernel_rfl) (by kernel_rfl) (by kernel_rfl) (by kernel_rfl) (fun _ => T n) (fun v => units_of us (mem_cons (u0 n v) mem_nil)) (eqn n)
end laws_markIntS
end Go.Abs
