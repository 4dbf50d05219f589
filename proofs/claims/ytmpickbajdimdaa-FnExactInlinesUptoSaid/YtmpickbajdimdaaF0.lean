/- The functions, and that a call of each comes to it. Conditions: none. -/
import Derived.Test.YtmpickbajdimdaaTy
namespace Go.Abs
open Go.Proofs
set_option linter.unusedVariables false
/-! laws.szStringS -/
namespace laws_szStringS
def l0 (n : Nat) (a3 : List ByteArray) (K0 : Int → Option Int) : Nat → Int → Int → Option Int
  | 0, _, _ => none
  | k + 1, left4, i5 =>
    if decide (i5 < (List.length a3 : Int)) = true then
      if 0 ≤ i5 ∧ i5 < (List.length a3 : Int) then
        if decide ((IntKind.i64.wrap (left4 - (ByteArray.size (List.getD a3 (Int.toNat i5) ByteArray.empty) : Int))) < 0) = true then
          some (-1)
        else
          l0 n a3 K0 k (IntKind.i64.wrap (left4 - (ByteArray.size (List.getD a3 (Int.toNat i5) ByteArray.empty) : Int))) (IntKind.i64.wrap (i5 + 1))
      else
        none
    else
      K0 left4
def F (n : Nat) (a1 : List ByteArray) (left2 : Int) : Option Int :=
  if decide ((IntKind.i64.wrap (left2 - (List.length a1 : Int))) < 0) = true then
    some (-1)
  else
    l0 n a1 (fun left6 =>
      some left6) n (IntKind.i64.wrap (left2 - (List.length a1 : Int))) 0
noncomputable def code : Code := Try.f120.body.getD .skip
abbrev ash : List ASh := [.ro (.sl (.str)), .ro (.int .i64)]
abbrev rsh : List RSh := [.ro (.int .i64)]
def ent (n : Nat) : FEnt := ⟨ash, rsh, fun v => F n v.1 v.2.1⟩
noncomputable def cx (n : Nat) : Ctx := mkCtx Try.prog TYS []
noncomputable def d : FnD := ⟨code, 28, .nil, [(.tmp 4, .int .i64, .ro)]⟩
noncomputable def kr (n : Nat) (v : AVs ash) : Env → Option (RVs rsh) := endK (cx n) d (avEnc ash v) (rvDec rsh)
noncomputable def c0 : Code := (Code.l (Code.r (Code.l (Code.r (Code.r (Code.r code))))))
noncomputable def b0 : Code := Code.l c0
def an : An := .seq .nil (.seq .nil (.seq (.seq .nil (.cond (.seq .nil .nil) .nil)) (.seq (.seq .nil (.block (some [1]) (.cut 0 [0, 1, 5]))) (.seq .nil .nil))))
def an0 : An := .seq (.seq .nil (.cond .nil .nil)) (.seq (.block (some [0, 1, 5]) (.seq .nil (.seq .nil (.cond (.seq .nil .nil) .nil)))) .nil)
abbrev sh0 : ES := ⟨[(0, .v (.sl (.str))), (1, .v (.int .i64)), (5, .v (.int .i64))], []⟩
abbrev sh0_0 : ES := ⟨[(1, .v (.int .i64))], []⟩
def T0 (n m : Nat) (e : Env) (kn : Env → Option (RVs rsh)) (kx : Nat → Env → Option (RVs rsh)) : Option (RVs rsh) := ES.on sh0 e fun x => l0 n x.1.1 (fun y0 => kx 0 (sh0_0.enc ((y0, ()), (())))) m x.1.2.1 x.1.2.2.1
def T (n : Nat) : Tab (RVs rsh) := fun j e kn kx => match j with
  | 0 => T0 n n e kn kx
  | _ => none
theorem co (n : Nat) : CtxOk (cx n) := mkCtx_cok TYS_ok
theorem mx (n : Nat) : (cx n).P.follows .mixedOrders = true := mkCtx_mix MIX
theorem mk (n : Nat) : MOk (cx n) := mkCtx_ok (mem_nil)
theorem us0 : units b0 an0 = [] := by kernel_rfl
theorem e0 (n m : Nat) (v : AVs ash) (x : sh0.V) (kn : Env → Option (RVs rsh)) (kx : Nat → Env → Option (RVs rsh)) : aevT (cx n) 28 (T n) (kr n v) b0 an0 [(0, [1])] (meet (some [0, 1, 5]) fun e => T0 n m e kn kx) kx (sh0.enc x) = l0 n x.1.1 (fun y0 => kx 0 (sh0_0.enc ((y0, ()), (())))) (m + 1) x.1.2.1 x.1.2.2.1 := by kernel_rfl
theorem cl0 : c0 = .loop b0 := by kernel_rfl
theorem u0 (n : Nat) (v : AVs ash) : UnitOk (cx n) 28 (T n) (kr n v) 0 c0 := by
  rw [cl0]
  exact loop_unit (n := n) (co n) (mk n) (mx n) an0 [(0, [1])] [0, 1, 5] (T0 n) (fun _ _ _ => rfl) (fun e kn kx out h => by obtain ⟨x, _, h⟩ := ES.on_inv h; cases h) (fun m e kn kx out h => by obtain ⟨x, rfl, h⟩ := ES.on_inv h; exact (e0 n m v x kn kx).trans h) (units_of us0 (mem_nil))
theorem us : units code an = [(0, c0)] := by kernel_rfl
theorem eqn (n : Nat) (v : AVs ash) : fnEvT (cx n) d an (T n) (avEnc ash v) (rvDec rsh) = F n v.1 v.2.1 := by kernel_rfl
theorem ok (n : Nat) : EntOk Try.prog 120 (ent n) :=
  ent_ok (c := cx n) (e := ent n) (d := d) (an := an) (fn := Try.f120) (co n) (mk n) (mx n) (by kernel_rfl) (by kernel_rfl) (by kernel_rfl) (by kernel_rfl) (by kernel_rfl) (fun _ => T n) (fun v => units_of us (mem_cons (u0 n v) mem_nil)) (eqn n)
end laws_szStringS
/-! laws.szCon -/
namespace laws_szCon
def F (n : Nat) (a1 : ByteArray × List ByteArray) (left2 : Int) : Option Int :=
  if decide ((IntKind.i64.wrap (left2 - (ByteArray.size a1.1 : Int))) < 0) = true then
    some (-1)
  else
    (laws_szStringS.F n a1.2 (IntKind.i64.wrap (left2 - (ByteArray.size a1.1 : Int)))).bind fun r3 =>
    if decide (r3 < 0) = true then
      some (-1)
    else
      some r3
noncomputable def code : Code := Try.f140.body.getD .skip
abbrev ash : List ASh := [.ro (.st (.pair (.str) (.sl (.str)))), .ro (.int .i64)]
abbrev rsh : List RSh := [.ro (.int .i64)]
def ent (n : Nat) : FEnt := ⟨ash, rsh, fun v => F n v.1 v.2.1⟩
noncomputable def cx (n : Nat) : Ctx := mkCtx Try.prog TYS [(120, laws_szStringS.ent n)]
noncomputable def d : FnD := ⟨code, 19, .nil, [(.tmp 4, .int .i64, .ro)]⟩
noncomputable def kr (n : Nat) (v : AVs ash) : Env → Option (RVs rsh) := endK (cx n) d (avEnc ash v) (rvDec rsh)
def an : An := .seq .nil (.seq .nil (.seq (.seq .nil (.cond (.seq .nil .nil) .nil)) (.seq .nil (.seq (.seq .nil (.cond (.seq .nil .nil) .nil)) (.seq .nil .nil)))))
def T (n : Nat) : Tab (RVs rsh) := fun j e kn kx => match j with
  | _ => none
theorem co (n : Nat) : CtxOk (cx n) := mkCtx_cok TYS_ok
theorem mx (n : Nat) : (cx n).P.follows .mixedOrders = true := mkCtx_mix MIX
theorem mk (n : Nat) : MOk (cx n) := mkCtx_ok (mem_cons (laws_szStringS.ok n) mem_nil)
theorem us : units code an = [] := by kernel_rfl
theorem eqn (n : Nat) (v : AVs ash) : fnEvT (cx n) d an (T n) (avEnc ash v) (rvDec rsh) = F n v.1 v.2.1 := by kernel_rfl
theorem ok (n : Nat) : EntOk Try.prog 140 (ent n) :=
  ent_ok (c := cx n) (e := ent n) (d := d) (an := an) (fn := Try.f140) (co n) (mk n) (mx n) (by kernel_rfl) (by kernel_rfl) (by kernel_rfl) (by kernel_rfl) (by kernel_rfl) (fun _ => T n) (fun v => units_of us (mem_nil)) (eqn n)
end laws_szCon
/-! laws.szConS -/
namespace laws_szConS
def l0 (n : Nat) (a3 : List (ByteArray × List ByteArray)) (K0 : Int → Option Int) : Nat → Int → Int → Option Int
  | 0, _, _ => none
  | k + 1, left4, i5 =>
    if decide (i5 < (List.length a3 : Int)) = true then
      if 0 ≤ i5 ∧ i5 < (List.length a3 : Int) then
        (laws_szCon.F n (List.getD a3 (Int.toNat i5) (ByteArray.empty, [])) left4).bind fun r6 =>
        if decide (r6 < 0) = true then
          some (-1)
        else
          l0 n a3 K0 k r6 (IntKind.i64.wrap (i5 + 1))
      else
        none
    else
      K0 left4
def F (n : Nat) (a1 : List (ByteArray × List ByteArray)) (left2 : Int) : Option Int :=
  if decide ((IntKind.i64.wrap (left2 - (List.length a1 : Int))) < 0) = true then
    some (-1)
  else
    l0 n a1 (fun left7 =>
      some left7) n (IntKind.i64.wrap (left2 - (List.length a1 : Int))) 0
noncomputable def code : Code := Try.f128.body.getD .skip
abbrev ash : List ASh := [.ro (.sl (.st (.pair (.str) (.sl (.str))))), .ro (.int .i64)]
abbrev rsh : List RSh := [.ro (.int .i64)]
def ent (n : Nat) : FEnt := ⟨ash, rsh, fun v => F n v.1 v.2.1⟩
noncomputable def cx (n : Nat) : Ctx := mkCtx Try.prog TYS [(140, laws_szCon.ent n)]
noncomputable def d : FnD := ⟨code, 27, .nil, [(.tmp 4, .int .i64, .ro)]⟩
noncomputable def kr (n : Nat) (v : AVs ash) : Env → Option (RVs rsh) := endK (cx n) d (avEnc ash v) (rvDec rsh)
noncomputable def c0 : Code := (Code.l (Code.r (Code.l (Code.r (Code.r (Code.r code))))))
noncomputable def b0 : Code := Code.l c0
def an : An := .seq .nil (.seq .nil (.seq (.seq .nil (.cond (.seq .nil .nil) .nil)) (.seq (.seq .nil (.block (some [1]) (.cut 0 [0, 1, 5]))) (.seq .nil .nil))))
def an0 : An := .seq (.seq .nil (.cond .nil .nil)) (.seq (.block (some [0, 1, 5]) (.seq .nil (.seq .nil (.cond (.seq .nil .nil) .nil)))) .nil)
abbrev sh0 : ES := ⟨[(0, .v (.sl (.st (.pair (.str) (.sl (.str)))))), (1, .v (.int .i64)), (5, .v (.int .i64))], []⟩
abbrev sh0_0 : ES := ⟨[(1, .v (.int .i64))], []⟩
def T0 (n m : Nat) (e : Env) (kn : Env → Option (RVs rsh)) (kx : Nat → Env → Option (RVs rsh)) : Option (RVs rsh) := ES.on sh0 e fun x => l0 n x.1.1 (fun y0 => kx 0 (sh0_0.enc ((y0, ()), (())))) m x.1.2.1 x.1.2.2.1
def T (n : Nat) : Tab (RVs rsh) := fun j e kn kx => match j with
  | 0 => T0 n n e kn kx
  | _ => none
theorem co (n : Nat) : CtxOk (cx n) := mkCtx_cok TYS_ok
theorem mx (n : Nat) : (cx n).P.follows .mixedOrders = true := mkCtx_mix MIX
theorem mk (n : Nat) : MOk (cx n) := mkCtx_ok (mem_cons (laws_szCon.ok n) mem_nil)
theorem us0 : units b0 an0 = [] := by kernel_rfl
theorem e0 (n m : Nat) (v : AVs ash) (x : sh0.V) (kn : Env → Option (RVs rsh)) (kx : Nat → Env → Option (RVs rsh)) : aevT (cx n) 27 (T n) (kr n v) b0 an0 [(0, [1])] (meet (some [0, 1, 5]) fun e => T0 n m e kn kx) kx (sh0.enc x) = l0 n x.1.1 (fun y0 => kx 0 (sh0_0.enc ((y0, ()), (())))) (m + 1) x.1.2.1 x.1.2.2.1 := by kernel_rfl
theorem cl0 : c0 = .loop b0 := by kernel_rfl
theorem u0 (n : Nat) (v : AVs ash) : UnitOk (cx n) 27 (T n) (kr n v) 0 c0 := by
  rw [cl0]
  exact loop_unit (n := n) (co n) (mk n) (mx n) an0 [(0, [1])] [0, 1, 5] (T0 n) (fun _ _ _ => rfl) (fun e kn kx out h => by obtain ⟨x, _, h⟩ := ES.on_inv h; cases h) (fun m e kn kx out h => by obtain ⟨x, rfl, h⟩ := ES.on_inv h; exact (e0 n m v x kn kx).trans h) (units_of us0 (mem_nil))
theorem us : units code an = [(0, c0)] := by kernel_rfl
theorem eqn (n : Nat) (v : AVs ash) : fnEvT (cx n) d an (T n) (avEnc ash v) (rvDec rsh) = F n v.1 v.2.1 := by kernel_rfl
theorem ok (n : Nat) : EntOk Try.prog 128 (ent n) :=
  ent_ok (c := cx n) (e := ent n) (d := d) (an := an) (fn := Try.f128) (co n) (mk n) (mx n) (by kernel_rfl) (by kernel_rfl) (by kernel_rfl) (by kernel_rfl) (by kernel_rfl) (fun _ => T n) (fun v => units_of us (mem_cons (u0 n v) mem_nil)) (eqn n)
end laws_szConS
/-! laws.szTypeDecl -/
namespace laws_szTypeDecl
def F (n : Nat) (a1 : ByteArray × List (ByteArray × List ByteArray)) (left2 : Int) : Option Int :=
  if decide ((IntKind.i64.wrap (left2 - (ByteArray.size a1.1 : Int))) < 0) = true then
    some (-1)
  else
    (laws_szConS.F n a1.2 (IntKind.i64.wrap (left2 - (ByteArray.size a1.1 : Int)))).bind fun r3 =>
    if decide (r3 < 0) = true then
      some (-1)
    else
      some r3
noncomputable def code : Code := Try.f105.body.getD .skip
abbrev ash : List ASh := [.ro (.st (.pair (.str) (.sl (.st (.pair (.str) (.sl (.str))))))), .ro (.int .i64)]
abbrev rsh : List RSh := [.ro (.int .i64)]
def ent (n : Nat) : FEnt := ⟨ash, rsh, fun v => F n v.1 v.2.1⟩
noncomputable def cx (n : Nat) : Ctx := mkCtx Try.prog TYS [(128, laws_szConS.ent n)]
noncomputable def d : FnD := ⟨code, 19, .nil, [(.tmp 4, .int .i64, .ro)]⟩
noncomputable def kr (n : Nat) (v : AVs ash) : Env → Option (RVs rsh) := endK (cx n) d (avEnc ash v) (rvDec rsh)
def an : An := .seq .nil (.seq .nil (.seq (.seq .nil (.cond (.seq .nil .nil) .nil)) (.seq .nil (.seq (.seq .nil (.cond (.seq .nil .nil) .nil)) (.seq .nil .nil)))))
def T (n : Nat) : Tab (RVs rsh) := fun j e kn kx => match j with
  | _ => none
theorem co (n : Nat) : CtxOk (cx n) := mkCtx_cok TYS_ok
theorem mx (n : Nat) : (cx n).P.follows .mixedOrders = true := mkCtx_mix MIX
theorem mk (n : Nat) : MOk (cx n) := mkCtx_ok (mem_cons (laws_szConS.ok n) mem_nil)
theorem us : units code an = [] := by kernel_rfl
theorem eqn (n : Nat) (v : AVs ash) : fnEvT (cx n) d an (T n) (avEnc ash v) (rvDec rsh) = F n v.1 v.2.1 := by kernel_rfl
theorem ok (n : Nat) : EntOk Try.prog 105 (ent n) :=
  ent_ok (c := cx n) (e := ent n) (d := d) (an := an) (fn := Try.f105) (co n) (mk n) (mx n) (by kernel_rfl) (by kernel_rfl) (by kernel_rfl) (by kernel_rfl) (by kernel_rfl) (fun _ => T n) (fun v => units_of us (mem_nil)) (eqn n)
end laws_szTypeDecl
/-! laws.szTypeDeclS -/
namespace laws_szTypeDeclS
def l0 (n : Nat) (a3 : List (ByteArray × List (ByteArray × List ByteArray))) (K0 : Int → Option Int) : Nat → Int → Int → Option Int
  | 0, _, _ => none
  | k + 1, left4, i5 =>
    if decide (i5 < (List.length a3 : Int)) = true then
      if 0 ≤ i5 ∧ i5 < (List.length a3 : Int) then
        (laws_szTypeDecl.F n (List.getD a3 (Int.toNat i5) (ByteArray.empty, [])) left4).bind fun r6 =>
        if decide (r6 < 0) = true then
          some (-1)
        else
          l0 n a3 K0 k r6 (IntKind.i64.wrap (i5 + 1))
      else
        none
    else
      K0 left4
def F (n : Nat) (a1 : List (ByteArray × List (ByteArray × List ByteArray))) (left2 : Int) : Option Int :=
  if decide ((IntKind.i64.wrap (left2 - (List.length a1 : Int))) < 0) = true then
    some (-1)
  else
    l0 n a1 (fun left7 =>
      some left7) n (IntKind.i64.wrap (left2 - (List.length a1 : Int))) 0
noncomputable def code : Code := Try.f62.body.getD .skip
abbrev ash : List ASh := [.ro (.sl (.st (.pair (.str) (.sl (.st (.pair (.str) (.sl (.str)))))))), .ro (.int .i64)]
abbrev rsh : List RSh := [.ro (.int .i64)]
def ent (n : Nat) : FEnt := ⟨ash, rsh, fun v => F n v.1 v.2.1⟩
noncomputable def cx (n : Nat) : Ctx := mkCtx Try.prog TYS [(105, laws_szTypeDecl.ent n)]
noncomputable def d : FnD := ⟨code, 27, .nil, [(.tmp 4, .int .i64, .ro)]⟩
noncomputable def kr (n : Nat) (v : AVs ash) : Env → Option (RVs rsh) := endK (cx n) d (avEnc ash v) (rvDec rsh)
noncomputable def c0 : Code := (Code.l (Code.r (Code.l (Code.r (Code.r (Code.r code))))))
noncomputable def b0 : Code := Code.l c0
def an : An := .seq .nil (.seq .nil (.seq (.seq .nil (.cond (.seq .nil .nil) .nil)) (.seq (.seq .nil (.block (some [1]) (.cut 0 [0, 1, 5]))) (.seq .nil .nil))))
def an0 : An := .seq (.seq .nil (.cond .nil .nil)) (.seq (.block (some [0, 1, 5]) (.seq .nil (.seq .nil (.cond (.seq .nil .nil) .nil)))) .nil)
abbrev sh0 : ES := ⟨[(0, .v (.sl (.st (.pair (.str) (.sl (.st (.pair (.str) (.sl (.str))))))))), (1, .v (.int .i64)), (5, .v (.int .i64))], []⟩
abbrev sh0_0 : ES := ⟨[(1, .v (.int .i64))], []⟩
def T0 (n m : Nat) (e : Env) (kn : Env → Option (RVs rsh)) (kx : Nat → Env → Option (RVs rsh)) : Option (RVs rsh) := ES.on sh0 e fun x => l0 n x.1.1 (fun y0 => kx 0 (sh0_0.enc ((y0, ()), (())))) m x.1.2.1 x.1.2.2.1
def T (n : Nat) : Tab (RVs rsh) := fun j e kn kx => match j with
  | 0 => T0 n n e kn kx
  | _ => none
theorem co (n : Nat) : CtxOk (cx n) := mkCtx_cok TYS_ok
theorem mx (n : Nat) : (cx n).P.follows .mixedOrders = true := mkCtx_mix MIX
theorem mk (n : Nat) : MOk (cx n) := mkCtx_ok (mem_cons (laws_szTypeDecl.ok n) mem_nil)
theorem us0 : units b0 an0 = [] := by kernel_rfl
theorem e0 (n m : Nat) (v : AVs ash) (x : sh0.V) (kn : Env → Option (RVs rsh)) (kx : Nat → Env → Option (RVs rsh)) : aevT (cx n) 27 (T n) (kr n v) b0 an0 [(0, [1])] (meet (some [0, 1, 5]) fun e => T0 n m e kn kx) kx (sh0.enc x) = l0 n x.1.1 (fun y0 => kx 0 (sh0_0.enc ((y0, ()), (())))) (m + 1) x.1.2.1 x.1.2.2.1 := by kernel_rfl
theorem cl0 : c0 = .loop b0 := by kernel_rfl
theorem u0 (n : Nat) (v : AVs ash) : UnitOk (cx n) 27 (T n) (kr n v) 0 c0 := by
  rw [cl0]
  exact loop_unit (n := n) (co n) (mk n) (mx n) an0 [(0, [1])] [0, 1, 5] (T0 n) (fun _ _ _ => rfl) (fun e kn kx out h => by obtain ⟨x, _, h⟩ := ES.on_inv h; cases h) (fun m e kn kx out h => by obtain ⟨x, rfl, h⟩ := ES.on_inv h; exact (e0 n m v x kn kx).trans h) (units_of us0 (mem_nil))
theorem us : units code an = [(0, c0)] := by kernel_rfl
theorem eqn (n : Nat) (v : AVs ash) : fnEvT (cx n) d an (T n) (avEnc ash v) (rvDec rsh) = F n v.1 v.2.1 := by kernel_rfl
theorem ok (n : Nat) : EntOk Try.prog 62 (ent n) :=
  ent_ok (c := cx n) (e := ent n) (d := d) (an := an) (fn := Try.f62) (co n) (mk n) (mx n) (by kernel_rfl) (by kernel_rfl) (by kernel_rfl) (by kernel_rfl) (by kernel_rfl) (fun _ => T n) (fun v => units_of us (mem_cons (u0 n v) mem_nil)) (eqn n)
end laws_szTypeDeclS
/-! laws.szRelDecl -/
namespace laws_szRelDecl
def F (n : Nat) (a1 : ByteArray × (List ByteArray) × Int) (left2 : Int) : Option Int :=
  if decide ((IntKind.i64.wrap (left2 - (ByteArray.size a1.1 : Int))) < 0) = true then
    some (-1)
  else
    (laws_szStringS.F n a1.2.1 (IntKind.i64.wrap (left2 - (ByteArray.size a1.1 : Int)))).bind fun r3 =>
    if decide (r3 < 0) = true then
      some (-1)
    else
      some r3
noncomputable def code : Code := Try.f106.body.getD .skip
abbrev ash : List ASh := [.ro (.st (.pair (.str) (.pair (.sl (.str)) (.int .i64)))), .ro (.int .i64)]
abbrev rsh : List RSh := [.ro (.int .i64)]
def ent (n : Nat) : FEnt := ⟨ash, rsh, fun v => F n v.1 v.2.1⟩
noncomputable def cx (n : Nat) : Ctx := mkCtx Try.prog TYS [(120, laws_szStringS.ent n)]
noncomputable def d : FnD := ⟨code, 19, .nil, [(.tmp 4, .int .i64, .ro)]⟩
noncomputable def kr (n : Nat) (v : AVs ash) : Env → Option (RVs rsh) := endK (cx n) d (avEnc ash v) (rvDec rsh)
def an : An := .seq .nil (.seq .nil (.seq (.seq .nil (.cond (.seq .nil .nil) .nil)) (.seq .nil (.seq (.seq .nil (.cond (.seq .nil .nil) .nil)) (.seq .nil .nil)))))
def T (n : Nat) : Tab (RVs rsh) := fun j e kn kx => match j with
  | _ => none
theorem co (n : Nat) : CtxOk (cx n) := mkCtx_cok TYS_ok
theorem mx (n : Nat) : (cx n).P.follows .mixedOrders = true := mkCtx_mix MIX
theorem mk (n : Nat) : MOk (cx n) := mkCtx_ok (mem_cons (laws_szStringS.ok n) mem_nil)
theorem us : units code an = [] := by kernel_rfl
theorem eqn (n : Nat) (v : AVs ash) : fnEvT (cx n) d an (T n) (avEnc ash v) (rvDec rsh) = F n v.1 v.2.1 := by kernel_rfl
theorem ok (n : Nat) : EntOk Try.prog 106 (ent n) :=
  ent_ok (c := cx n) (e := ent n) (d := d) (an := an) (fn := Try.f106) (co n) (mk n) (mx n) (by kernel_rfl) (by kernel_rfl) (by kernel_rfl) (by kernel_rfl) (by kernel_rfl) (fun _ => T n) (fun v => units_of us (mem_nil)) (eqn n)
end laws_szRelDecl
/-! laws.szRelDeclS -/
namespace laws_szRelDeclS
def l0 (n : Nat) (a3 : List (ByteArray × (List ByteArray) × Int)) (K0 : Int → Option Int) : Nat → Int → Int → Option Int
  | 0, _, _ => none
  | k + 1, left4, i5 =>
    if decide (i5 < (List.length a3 : Int)) = true then
      if 0 ≤ i5 ∧ i5 < (List.length a3 : Int) then
        (laws_szRelDecl.F n (List.getD a3 (Int.toNat i5) (ByteArray.empty, ([], 0))) left4).bind fun r6 =>
        if decide (r6 < 0) = true then
          some (-1)
        else
          l0 n a3 K0 k r6 (IntKind.i64.wrap (i5 + 1))
      else
        none
    else
      K0 left4
def F (n : Nat) (a1 : List (ByteArray × (List ByteArray) × Int)) (left2 : Int) : Option Int :=
  if decide ((IntKind.i64.wrap (left2 - (List.length a1 : Int))) < 0) = true then
    some (-1)
  else
    l0 n a1 (fun left7 =>
      some left7) n (IntKind.i64.wrap (left2 - (List.length a1 : Int))) 0
noncomputable def code : Code := Try.f63.body.getD .skip
abbrev ash : List ASh := [.ro (.sl (.st (.pair (.str) (.pair (.sl (.str)) (.int .i64))))), .ro (.int .i64)]
abbrev rsh : List RSh := [.ro (.int .i64)]
def ent (n : Nat) : FEnt := ⟨ash, rsh, fun v => F n v.1 v.2.1⟩
noncomputable def cx (n : Nat) : Ctx := mkCtx Try.prog TYS [(106, laws_szRelDecl.ent n)]
noncomputable def d : FnD := ⟨code, 27, .nil, [(.tmp 4, .int .i64, .ro)]⟩
noncomputable def kr (n : Nat) (v : AVs ash) : Env → Option (RVs rsh) := endK (cx n) d (avEnc ash v) (rvDec rsh)
noncomputable def c0 : Code := (Code.l (Code.r (Code.l (Code.r (Code.r (Code.r code))))))
noncomputable def b0 : Code := Code.l c0
def an : An := .seq .nil (.seq .nil (.seq (.seq .nil (.cond (.seq .nil .nil) .nil)) (.seq (.seq .nil (.block (some [1]) (.cut 0 [0, 1, 5]))) (.seq .nil .nil))))
def an0 : An := .seq (.seq .nil (.cond .nil .nil)) (.seq (.block (some [0, 1, 5]) (.seq .nil (.seq .nil (.cond (.seq .nil .nil) .nil)))) .nil)
abbrev sh0 : ES := ⟨[(0, .v (.sl (.st (.pair (.str) (.pair (.sl (.str)) (.int .i64)))))), (1, .v (.int .i64)), (5, .v (.int .i64))], []⟩
abbrev sh0_0 : ES := ⟨[(1, .v (.int .i64))], []⟩
def T0 (n m : Nat) (e : Env) (kn : Env → Option (RVs rsh)) (kx : Nat → Env → Option (RVs rsh)) : Option (RVs rsh) := ES.on sh0 e fun x => l0 n x.1.1 (fun y0 => kx 0 (sh0_0.enc ((y0, ()), (())))) m x.1.2.1 x.1.2.2.1
def T (n : Nat) : Tab (RVs rsh) := fun j e kn kx => match j with
  | 0 => T0 n n e kn kx
  | _ => none
theorem co (n : Nat) : CtxOk (cx n) := mkCtx_cok TYS_ok
theorem mx (n : Nat) : (cx n).P.follows .mixedOrders = true := mkCtx_mix MIX
theorem mk (n : Nat) : MOk (cx n) := mkCtx_ok (mem_cons (laws_szRelDecl.ok n) mem_nil)
theorem us0 : units b0 an0 = [] := by kernel_rfl
theorem e0 (n m : Nat) (v : AVs ash) (x : sh0.V) (kn : Env → Option (RVs rsh)) (kx : Nat → Env → Option (RVs rsh)) : aevT (cx n) 27 (T n) (kr n v) b0 an0 [(0, [1])] (meet (some [0, 1, 5]) fun e => T0 n m e kn kx) kx (sh0.enc x) = l0 n x.1.1 (fun y0 => kx 0 (sh0_0.enc ((y0, ()), (())))) (m + 1) x.1.2.1 x.1.2.2.1 := by kernel_rfl
theorem cl0 : c0 = .loop b0 := by kernel_rfl
theorem u0 (n : Nat) (v : AVs ash) : UnitOk (cx n) 27 (T n) (kr n v) 0 c0 := by
  rw [cl0]
  exact loop_unit (n := n) (co n) (mk n) (mx n) an0 [(0, [1])] [0, 1, 5] (T0 n) (fun _ _ _ => rfl) (fun e kn kx out h => by obtain ⟨x, _, h⟩ := ES.on_inv h; cases h) (fun m e kn kx out h => by obtain ⟨x, rfl, h⟩ := ES.on_inv h; exact (e0 n m v x kn kx).trans h) (units_of us0 (mem_nil))
theorem us : units code an = [(0, c0)] := by kernel_rfl
theorem eqn (n : Nat) (v : AVs ash) : fnEvT (cx n) d an (T n) (avEnc ash v) (rvDec rsh) = F n v.1 v.2.1 := by kernel_rfl
theorem ok (n : Nat) : EntOk Try.prog 63 (ent n) :=
  ent_ok (c := cx n) (e := ent n) (d := d) (an := an) (fn := Try.f63) (co n) (mk n) (mx n) (by kernel_rfl) (by kernel_rfl) (by kernel_rfl) (by kernel_rfl) (by kernel_rfl) (fun _ => T n) (fun v => units_of us (mem_cons (u0 n v) mem_nil)) (eqn n)
end laws_szRelDeclS
/-! laws.szIntS -/
namespace laws_szIntS
def F (n : Nat) (a1 : List Int) (left2 : Int) : Option Int :=
  if decide ((IntKind.i64.wrap (left2 - (List.length a1 : Int))) < 0) = true then
    some (-1)
  else
    some (IntKind.i64.wrap (left2 - (List.length a1 : Int)))
noncomputable def code : Code := Try.f92.body.getD .skip
abbrev ash : List ASh := [.ro (.sl (.int .i64)), .ro (.int .i64)]
abbrev rsh : List RSh := [.ro (.int .i64)]
def ent (n : Nat) : FEnt := ⟨ash, rsh, fun v => F n v.1 v.2.1⟩
noncomputable def cx (n : Nat) : Ctx := mkCtx Try.prog TYS []
noncomputable def d : FnD := ⟨code, 12, .nil, [(.tmp 4, .int .i64, .ro)]⟩
noncomputable def kr (n : Nat) (v : AVs ash) : Env → Option (RVs rsh) := endK (cx n) d (avEnc ash v) (rvDec rsh)
def an : An := .seq .nil (.seq .nil (.seq (.seq .nil (.cond (.seq .nil .nil) .nil)) (.seq .nil .nil)))
def T (n : Nat) : Tab (RVs rsh) := fun j e kn kx => match j with
  | _ => none
theorem co (n : Nat) : CtxOk (cx n) := mkCtx_cok TYS_ok
theorem mx (n : Nat) : (cx n).P.follows .mixedOrders = true := mkCtx_mix MIX
theorem mk (n : Nat) : MOk (cx n) := mkCtx_ok (mem_nil)
theorem us : units code an = [] := by kernel_rfl
theorem eqn (n : Nat) (v : AVs ash) : fnEvT (cx n) d an (T n) (avEnc ash v) (rvDec rsh) = F n v.1 v.2.1 := by kernel_rfl
theorem ok (n : Nat) : EntOk Try.prog 92 (ent n) :=
  ent_ok (c := cx n) (e := ent n) (d := d) (an := an) (fn := Try.f92) (co n) (mk n) (mx n) (by kernel_rfl) (by kernel_rfl) (by kernel_rfl) (by kernel_rfl) (by kernel_rfl) (fun _ => T n) (fun v => units_of us (mem_nil)) (eqn n)
end laws_szIntS
/-! laws.szExp -/
namespace laws_szExp
def F (n : Nat) (a1 : Int × ByteArray × List Int) (left2 : Int) : Option Int :=
  if decide ((IntKind.i64.wrap (left2 - (ByteArray.size a1.2.1 : Int))) < 0) = true then
    some (-1)
  else
    (laws_szIntS.F n a1.2.2 (IntKind.i64.wrap (left2 - (ByteArray.size a1.2.1 : Int)))).bind fun r3 =>
    if decide (r3 < 0) = true then
      some (-1)
    else
      some r3
noncomputable def code : Code := Try.f91.body.getD .skip
abbrev ash : List ASh := [.ro (.st (.pair (.int .i64) (.pair (.str) (.sl (.int .i64))))), .ro (.int .i64)]
abbrev rsh : List RSh := [.ro (.int .i64)]
def ent (n : Nat) : FEnt := ⟨ash, rsh, fun v => F n v.1 v.2.1⟩
noncomputable def cx (n : Nat) : Ctx := mkCtx Try.prog TYS [(92, laws_szIntS.ent n)]
noncomputable def d : FnD := ⟨code, 19, .nil, [(.tmp 4, .int .i64, .ro)]⟩
noncomputable def kr (n : Nat) (v : AVs ash) : Env → Option (RVs rsh) := endK (cx n) d (avEnc ash v) (rvDec rsh)
def an : An := .seq .nil (.seq .nil (.seq (.seq .nil (.cond (.seq .nil .nil) .nil)) (.seq .nil (.seq (.seq .nil (.cond (.seq .nil .nil) .nil)) (.seq .nil .nil)))))
def T (n : Nat) : Tab (RVs rsh) := fun j e kn kx => match j with
  | _ => none
theorem co (n : Nat) : CtxOk (cx n) := mkCtx_cok TYS_ok
theorem mx (n : Nat) : (cx n).P.follows .mixedOrders = true := mkCtx_mix MIX
theorem mk (n : Nat) : MOk (cx n) := mkCtx_ok (mem_cons (laws_szIntS.ok n) mem_nil)
theorem us : units code an = [] := by kernel_rfl
theorem eqn (n : Nat) (v : AVs ash) : fnEvT (cx n) d an (T n) (avEnc ash v) (rvDec rsh) = F n v.1 v.2.1 := by kernel_rfl
theorem ok (n : Nat) : EntOk Try.prog 91 (ent n) :=
  ent_ok (c := cx n) (e := ent n) (d := d) (an := an) (fn := Try.f91) (co n) (mk n) (mx n) (by kernel_rfl) (by kernel_rfl) (by kernel_rfl) (by kernel_rfl) (by kernel_rfl) (fun _ => T n) (fun v => units_of us (mem_nil)) (eqn n)
end laws_szExp
/-! laws.szExpS -/
namespace laws_szExpS
def l0 (n : Nat) (a3 : List (Int × ByteArray × List Int)) (K0 : Int → Option Int) : Nat → Int → Int → Option Int
  | 0, _, _ => none
  | k + 1, left4, i5 =>
    if decide (i5 < (List.length a3 : Int)) = true then
      if 0 ≤ i5 ∧ i5 < (List.length a3 : Int) then
        (laws_szExp.F n (List.getD a3 (Int.toNat i5) (0, (ByteArray.empty, []))) left4).bind fun r6 =>
        if decide (r6 < 0) = true then
          some (-1)
        else
          l0 n a3 K0 k r6 (IntKind.i64.wrap (i5 + 1))
      else
        none
    else
      K0 left4
def F (n : Nat) (a1 : List (Int × ByteArray × List Int)) (left2 : Int) : Option Int :=
  if decide ((IntKind.i64.wrap (left2 - (List.length a1 : Int))) < 0) = true then
    some (-1)
  else
    l0 n a1 (fun left7 =>
      some left7) n (IntKind.i64.wrap (left2 - (List.length a1 : Int))) 0
noncomputable def code : Code := Try.f49.body.getD .skip
abbrev ash : List ASh := [.ro (.sl (.st (.pair (.int .i64) (.pair (.str) (.sl (.int .i64)))))), .ro (.int .i64)]
abbrev rsh : List RSh := [.ro (.int .i64)]
def ent (n : Nat) : FEnt := ⟨ash, rsh, fun v => F n v.1 v.2.1⟩
noncomputable def cx (n : Nat) : Ctx := mkCtx Try.prog TYS [(91, laws_szExp.ent n)]
noncomputable def d : FnD := ⟨code, 27, .nil, [(.tmp 4, .int .i64, .ro)]⟩
noncomputable def kr (n : Nat) (v : AVs ash) : Env → Option (RVs rsh) := endK (cx n) d (avEnc ash v) (rvDec rsh)
noncomputable def c0 : Code := (Code.l (Code.r (Code.l (Code.r (Code.r (Code.r code))))))
noncomputable def b0 : Code := Code.l c0
def an : An := .seq .nil (.seq .nil (.seq (.seq .nil (.cond (.seq .nil .nil) .nil)) (.seq (.seq .nil (.block (some [1]) (.cut 0 [0, 1, 5]))) (.seq .nil .nil))))
def an0 : An := .seq (.seq .nil (.cond .nil .nil)) (.seq (.block (some [0, 1, 5]) (.seq .nil (.seq .nil (.cond (.seq .nil .nil) .nil)))) .nil)
abbrev sh0 : ES := ⟨[(0, .v (.sl (.st (.pair (.int .i64) (.pair (.str) (.sl (.int .i64))))))), (1, .v (.int .i64)), (5, .v (.int .i64))], []⟩
abbrev sh0_0 : ES := ⟨[(1, .v (.int .i64))], []⟩
def T0 (n m : Nat) (e : Env) (kn : Env → Option (RVs rsh)) (kx : Nat → Env → Option (RVs rsh)) : Option (RVs rsh) := ES.on sh0 e fun x => l0 n x.1.1 (fun y0 => kx 0 (sh0_0.enc ((y0, ()), (())))) m x.1.2.1 x.1.2.2.1
def T (n : Nat) : Tab (RVs rsh) := fun j e kn kx => match j with
  | 0 => T0 n n e kn kx
  | _ => none
theorem co (n : Nat) : CtxOk (cx n) := mkCtx_cok TYS_ok
theorem mx (n : Nat) : (cx n).P.follows .mixedOrders = true := mkCtx_mix MIX
theorem mk (n : Nat) : MOk (cx n) := mkCtx_ok (mem_cons (laws_szExp.ok n) mem_nil)
theorem us0 : units b0 an0 = [] := by kernel_rfl
theorem e0 (n m : Nat) (v : AVs ash) (x : sh0.V) (kn : Env → Option (RVs rsh)) (kx : Nat → Env → Option (RVs rsh)) : aevT (cx n) 27 (T n) (kr n v) b0 an0 [(0, [1])] (meet (some [0, 1, 5]) fun e => T0 n m e kn kx) kx (sh0.enc x) = l0 n x.1.1 (fun y0 => kx 0 (sh0_0.enc ((y0, ()), (())))) (m + 1) x.1.2.1 x.1.2.2.1 := by kernel_rfl
theorem cl0 : c0 = .loop b0 := by kernel_rfl
theorem u0 (n : Nat) (v : AVs ash) : UnitOk (cx n) 27 (T n) (kr n v) 0 c0 := by
  rw [cl0]
  exact loop_unit (n := n) (co n) (mk n) (mx n) an0 [(0, [1])] [0, 1, 5] (T0 n) (fun _ _ _ => rfl) (fun e kn kx out h => by obtain ⟨x, _, h⟩ := ES.on_inv h; cases h) (fun m e kn kx out h => by obtain ⟨x, rfl, h⟩ := ES.on_inv h; exact (e0 n m v x kn kx).trans h) (units_of us0 (mem_nil))
theorem us : units code an = [(0, c0)] := by kernel_rfl
theorem eqn (n : Nat) (v : AVs ash) : fnEvT (cx n) d an (T n) (avEnc ash v) (rvDec rsh) = F n v.1 v.2.1 := by kernel_rfl
theorem ok (n : Nat) : EntOk Try.prog 49 (ent n) :=
  ent_ok (c := cx n) (e := ent n) (d := d) (an := an) (fn := Try.f49) (co n) (mk n) (mx n) (by kernel_rfl) (by kernel_rfl) (by kernel_rfl) (by kernel_rfl) (by kernel_rfl) (fun _ => T n) (fun v => units_of us (mem_cons (u0 n v) mem_nil)) (eqn n)
end laws_szExpS
/-! laws.szLit -/
namespace laws_szLit
def F (n : Nat) (a1 : Int × ByteArray × List Int) (left2 : Int) : Option Int :=
  if decide ((IntKind.i64.wrap (left2 - (ByteArray.size a1.2.1 : Int))) < 0) = true then
    some (-1)
  else
    (laws_szIntS.F n a1.2.2 (IntKind.i64.wrap (left2 - (ByteArray.size a1.2.1 : Int)))).bind fun r3 =>
    if decide (r3 < 0) = true then
      some (-1)
    else
      some r3
noncomputable def code : Code := Try.f50.body.getD .skip
abbrev ash : List ASh := [.ro (.st (.pair (.int .i64) (.pair (.str) (.sl (.int .i64))))), .ro (.int .i64)]
abbrev rsh : List RSh := [.ro (.int .i64)]
def ent (n : Nat) : FEnt := ⟨ash, rsh, fun v => F n v.1 v.2.1⟩
noncomputable def cx (n : Nat) : Ctx := mkCtx Try.prog TYS [(92, laws_szIntS.ent n)]
noncomputable def d : FnD := ⟨code, 19, .nil, [(.tmp 4, .int .i64, .ro)]⟩
noncomputable def kr (n : Nat) (v : AVs ash) : Env → Option (RVs rsh) := endK (cx n) d (avEnc ash v) (rvDec rsh)
def an : An := .seq .nil (.seq .nil (.seq (.seq .nil (.cond (.seq .nil .nil) .nil)) (.seq .nil (.seq (.seq .nil (.cond (.seq .nil .nil) .nil)) (.seq .nil .nil)))))
def T (n : Nat) : Tab (RVs rsh) := fun j e kn kx => match j with
  | _ => none
theorem co (n : Nat) : CtxOk (cx n) := mkCtx_cok TYS_ok
theorem mx (n : Nat) : (cx n).P.follows .mixedOrders = true := mkCtx_mix MIX
theorem mk (n : Nat) : MOk (cx n) := mkCtx_ok (mem_cons (laws_szIntS.ok n) mem_nil)
theorem us : units code an = [] := by kernel_rfl
theorem eqn (n : Nat) (v : AVs ash) : fnEvT (cx n) d an (T n) (avEnc ash v) (rvDec rsh) = F n v.1 v.2.1 := by kernel_rfl
theorem ok (n : Nat) : EntOk Try.prog 50 (ent n) :=
  ent_ok (c := cx n) (e := ent n) (d := d) (an := an) (fn := Try.f50) (co n) (mk n) (mx n) (by kernel_rfl) (by kernel_rfl) (by kernel_rfl) (by kernel_rfl) (by kernel_rfl) (fun _ => T n) (fun v => units_of us (mem_nil)) (eqn n)
end laws_szLit
/-! laws.szLitS -/
namespace laws_szLitS
def l0 (n : Nat) (a3 : List (Int × ByteArray × List Int)) (K0 : Int → Option Int) : Nat → Int → Int → Option Int
  | 0, _, _ => none
  | k + 1, left4, i5 =>
    if decide (i5 < (List.length a3 : Int)) = true then
      if 0 ≤ i5 ∧ i5 < (List.length a3 : Int) then
        (laws_szLit.F n (List.getD a3 (Int.toNat i5) (0, (ByteArray.empty, []))) left4).bind fun r6 =>
        if decide (r6 < 0) = true then
          some (-1)
        else
          l0 n a3 K0 k r6 (IntKind.i64.wrap (i5 + 1))
      else
        none
    else
      K0 left4
def F (n : Nat) (a1 : List (Int × ByteArray × List Int)) (left2 : Int) : Option Int :=
  if decide ((IntKind.i64.wrap (left2 - (List.length a1 : Int))) < 0) = true then
    some (-1)
  else
    l0 n a1 (fun left7 =>
      some left7) n (IntKind.i64.wrap (left2 - (List.length a1 : Int))) 0
noncomputable def code : Code := Try.f51.body.getD .skip
abbrev ash : List ASh := [.ro (.sl (.st (.pair (.int .i64) (.pair (.str) (.sl (.int .i64)))))), .ro (.int .i64)]
abbrev rsh : List RSh := [.ro (.int .i64)]
def ent (n : Nat) : FEnt := ⟨ash, rsh, fun v => F n v.1 v.2.1⟩
noncomputable def cx (n : Nat) : Ctx := mkCtx Try.prog TYS [(50, laws_szLit.ent n)]
noncomputable def d : FnD := ⟨code, 27, .nil, [(.tmp 4, .int .i64, .ro)]⟩
noncomputable def kr (n : Nat) (v : AVs ash) : Env → Option (RVs rsh) := endK (cx n) d (avEnc ash v) (rvDec rsh)
noncomputable def c0 : Code := (Code.l (Code.r (Code.l (Code.r (Code.r (Code.r code))))))
noncomputable def b0 : Code := Code.l c0
def an : An := .seq .nil (.seq .nil (.seq (.seq .nil (.cond (.seq .nil .nil) .nil)) (.seq (.seq .nil (.block (some [1]) (.cut 0 [0, 1, 5]))) (.seq .nil .nil))))
def an0 : An := .seq (.seq .nil (.cond .nil .nil)) (.seq (.block (some [0, 1, 5]) (.seq .nil (.seq .nil (.cond (.seq .nil .nil) .nil)))) .nil)
abbrev sh0 : ES := ⟨[(0, .v (.sl (.st (.pair (.int .i64) (.pair (.str) (.sl (.int .i64))))))), (1, .v (.int .i64)), (5, .v (.int .i64))], []⟩
abbrev sh0_0 : ES := ⟨[(1, .v (.int .i64))], []⟩
def T0 (n m : Nat) (e : Env) (kn : Env → Option (RVs rsh)) (kx : Nat → Env → Option (RVs rsh)) : Option (RVs rsh) := ES.on sh0 e fun x => l0 n x.1.1 (fun y0 => kx 0 (sh0_0.enc ((y0, ()), (())))) m x.1.2.1 x.1.2.2.1
def T (n : Nat) : Tab (RVs rsh) := fun j e kn kx => match j with
  | 0 => T0 n n e kn kx
  | _ => none
theorem co (n : Nat) : CtxOk (cx n) := mkCtx_cok TYS_ok
theorem mx (n : Nat) : (cx n).P.follows .mixedOrders = true := mkCtx_mix MIX
theorem mk (n : Nat) : MOk (cx n) := mkCtx_ok (mem_cons (laws_szLit.ok n) mem_nil)
theorem us0 : units b0 an0 = [] := by kernel_rfl
theorem e0 (n m : Nat) (v : AVs ash) (x : sh0.V) (kn : Env → Option (RVs rsh)) (kx : Nat → Env → Option (RVs rsh)) : aevT (cx n) 27 (T n) (kr n v) b0 an0 [(0, [1])] (meet (some [0, 1, 5]) fun e => T0 n m e kn kx) kx (sh0.enc x) = l0 n x.1.1 (fun y0 => kx 0 (sh0_0.enc ((y0, ()), (())))) (m + 1) x.1.2.1 x.1.2.2.1 := by kernel_rfl
theorem cl0 : c0 = .loop b0 := by kernel_rfl
theorem u0 (n : Nat) (v : AVs ash) : UnitOk (cx n) 27 (T n) (kr n v) 0 c0 := by
  rw [cl0]
  exact loop_unit (n := n) (co n) (mk n) (mx n) an0 [(0, [1])] [0, 1, 5] (T0 n) (fun _ _ _ => rfl) (fun e kn kx out h => by obtain ⟨x, _, h⟩ := ES.on_inv h; cases h) (fun m e kn kx out h => by obtain ⟨x, rfl, h⟩ := ES.on_inv h; exact (e0 n m v x kn kx).trans h) (units_of us0 (mem_nil))
theorem us : units code an = [(0, c0)] := by kernel_rfl
theorem eqn (n : Nat) (v : AVs ash) : fnEvT (cx n) d an (T n) (avEnc ash v) (rvDec rsh) = F n v.1 v.2.1 := by kernel_rfl
theorem ok (n : Nat) : EntOk Try.prog 51 (ent n) :=
  ent_ok (c := cx n) (e := ent n) (d := d) (an := an) (fn := Try.f51) (co n) (mk n) (mx n) (by kernel_rfl) (by kernel_rfl) (by kernel_rfl) (by kernel_rfl) (by kernel_rfl) (fun _ => T n) (fun v => units_of us (mem_cons (u0 n v) mem_nil)) (eqn n)
end laws_szLitS
/-! laws.szRule -/
namespace laws_szRule
def F (n : Nat) (a1 : (List (Int × ByteArray × List Int)) × (Int × ByteArray × List Int) × List (Int × ByteArray × List Int)) (left2 : Int) : Option Int :=
  (laws_szExpS.F n a1.1 left2).bind fun r3 =>
  if decide (r3 < 0) = true then
    some (-1)
  else
    (laws_szLit.F n a1.2.1 r3).bind fun r4 =>
    if decide (r4 < 0) = true then
      some (-1)
    else
      (laws_szLitS.F n a1.2.2 r4).bind fun r5 =>
      if decide (r5 < 0) = true then
        some (-1)
      else
        some r5
noncomputable def code : Code := Try.f18.body.getD .skip
abbrev ash : List ASh := [.ro (.st (.pair (.sl (.st (.pair (.int .i64) (.pair (.str) (.sl (.int .i64)))))) (.pair (.st (.pair (.int .i64) (.pair (.str) (.sl (.int .i64))))) (.sl (.st (.pair (.int .i64) (.pair (.str) (.sl (.int .i64))))))))), .ro (.int .i64)]
abbrev rsh : List RSh := [.ro (.int .i64)]
def ent (n : Nat) : FEnt := ⟨ash, rsh, fun v => F n v.1 v.2.1⟩
noncomputable def cx (n : Nat) : Ctx := mkCtx Try.prog TYS [(49, laws_szExpS.ent n), (50, laws_szLit.ent n), (51, laws_szLitS.ent n)]
noncomputable def d : FnD := ⟨code, 24, .nil, [(.tmp 4, .int .i64, .ro)]⟩
noncomputable def kr (n : Nat) (v : AVs ash) : Env → Option (RVs rsh) := endK (cx n) d (avEnc ash v) (rvDec rsh)
def an : An := .seq .nil (.seq .nil (.seq (.seq .nil (.cond (.seq .nil .nil) .nil)) (.seq .nil (.seq (.seq .nil (.cond (.seq .nil .nil) .nil)) (.seq .nil (.seq (.seq .nil (.cond (.seq .nil .nil) .nil)) (.seq .nil .nil)))))))
def T (n : Nat) : Tab (RVs rsh) := fun j e kn kx => match j with
  | _ => none
theorem co (n : Nat) : CtxOk (cx n) := mkCtx_cok TYS_ok
theorem mx (n : Nat) : (cx n).P.follows .mixedOrders = true := mkCtx_mix MIX
theorem mk (n : Nat) : MOk (cx n) := mkCtx_ok (mem_cons (laws_szExpS.ok n) (mem_cons (laws_szLit.ok n) (mem_cons (laws_szLitS.ok n) mem_nil)))
theorem us : units code an = [] := by kernel_rfl
theorem eqn (n : Nat) (v : AVs ash) : fnEvT (cx n) d an (T n) (avEnc ash v) (rvDec rsh) = F n v.1 v.2.1 := by kernel_rfl
theorem ok (n : Nat) : EntOk Try.prog 18 (ent n) :=
  ent_ok (c := cx n) (e := ent n) (d := d) (an := an) (fn := Try.f18) (co n) (mk n) (mx n) (by kernel_rfl) (by kernel_rfl) (by kernel_rfl) (by kernel_rfl) (by kernel_rfl) (fun _ => T n) (fun v => units_of us (mem_nil)) (eqn n)
end laws_szRule
/-! laws.szRuleS -/
namespace laws_szRuleS
def l0 (n : Nat) (a3 : List ((List (Int × ByteArray × List Int)) × (Int × ByteArray × List Int) × List (Int × ByteArray × List Int))) (K0 : Int → Option Int) : Nat → Int → Int → Option Int
  | 0, _, _ => none
  | k + 1, left4, i5 =>
    if decide (i5 < (List.length a3 : Int)) = true then
      if 0 ≤ i5 ∧ i5 < (List.length a3 : Int) then
        (laws_szRule.F n (List.getD a3 (Int.toNat i5) ([], ((0, (ByteArray.empty, [])), []))) left4).bind fun r6 =>
        if decide (r6 < 0) = true then
          some (-1)
        else
          l0 n a3 K0 k r6 (IntKind.i64.wrap (i5 + 1))
      else
        none
    else
      K0 left4
def F (n : Nat) (a1 : List ((List (Int × ByteArray × List Int)) × (Int × ByteArray × List Int) × List (Int × ByteArray × List Int))) (left2 : Int) : Option Int :=
  if decide ((IntKind.i64.wrap (left2 - (List.length a1 : Int))) < 0) = true then
    some (-1)
  else
    l0 n a1 (fun left7 =>
      some left7) n (IntKind.i64.wrap (left2 - (List.length a1 : Int))) 0
noncomputable def code : Code := Try.f64.body.getD .skip
abbrev ash : List ASh := [.ro (.sl (.st (.pair (.sl (.st (.pair (.int .i64) (.pair (.str) (.sl (.int .i64)))))) (.pair (.st (.pair (.int .i64) (.pair (.str) (.sl (.int .i64))))) (.sl (.st (.pair (.int .i64) (.pair (.str) (.sl (.int .i64)))))))))), .ro (.int .i64)]
abbrev rsh : List RSh := [.ro (.int .i64)]
def ent (n : Nat) : FEnt := ⟨ash, rsh, fun v => F n v.1 v.2.1⟩
noncomputable def cx (n : Nat) : Ctx := mkCtx Try.prog TYS [(18, laws_szRule.ent n)]
noncomputable def d : FnD := ⟨code, 27, .nil, [(.tmp 4, .int .i64, .ro)]⟩
noncomputable def kr (n : Nat) (v : AVs ash) : Env → Option (RVs rsh) := endK (cx n) d (avEnc ash v) (rvDec rsh)
noncomputable def c0 : Code := (Code.l (Code.r (Code.l (Code.r (Code.r (Code.r code))))))
noncomputable def b0 : Code := Code.l c0
def an : An := .seq .nil (.seq .nil (.seq (.seq .nil (.cond (.seq .nil .nil) .nil)) (.seq (.seq .nil (.block (some [1]) (.cut 0 [0, 1, 5]))) (.seq .nil .nil))))
def an0 : An := .seq (.seq .nil (.cond .nil .nil)) (.seq (.block (some [0, 1, 5]) (.seq .nil (.seq .nil (.cond (.seq .nil .nil) .nil)))) .nil)
abbrev sh0 : ES := ⟨[(0, .v (.sl (.st (.pair (.sl (.st (.pair (.int .i64) (.pair (.str) (.sl (.int .i64)))))) (.pair (.st (.pair (.int .i64) (.pair (.str) (.sl (.int .i64))))) (.sl (.st (.pair (.int .i64) (.pair (.str) (.sl (.int .i64))))))))))), (1, .v (.int .i64)), (5, .v (.int .i64))], []⟩
abbrev sh0_0 : ES := ⟨[(1, .v (.int .i64))], []⟩
def T0 (n m : Nat) (e : Env) (kn : Env → Option (RVs rsh)) (kx : Nat → Env → Option (RVs rsh)) : Option (RVs rsh) := ES.on sh0 e fun x => l0 n x.1.1 (fun y0 => kx 0 (sh0_0.enc ((y0, ()), (())))) m x.1.2.1 x.1.2.2.1
def T (n : Nat) : Tab (RVs rsh) := fun j e kn kx => match j with
  | 0 => T0 n n e kn kx
  | _ => none
theorem co (n : Nat) : CtxOk (cx n) := mkCtx_cok TYS_ok
theorem mx (n : Nat) : (cx n).P.follows .mixedOrders = true := mkCtx_mix MIX
theorem mk (n : Nat) : MOk (cx n) := mkCtx_ok (mem_cons (laws_szRule.ok n) mem_nil)
theorem us0 : units b0 an0 = [] := by kernel_rfl
theorem e0 (n m : Nat) (v : AVs ash) (x : sh0.V) (kn : Env → Option (RVs rsh)) (kx : Nat → Env → Option (RVs rsh)) : aevT (cx n) 27 (T n) (kr n v) b0 an0 [(0, [1])] (meet (some [0, 1, 5]) fun e => T0 n m e kn kx) kx (sh0.enc x) = l0 n x.1.1 (fun y0 => kx 0 (sh0_0.enc ((y0, ()), (())))) (m + 1) x.1.2.1 x.1.2.2.1 := by kernel_rfl
theorem cl0 : c0 = .loop b0 := by kernel_rfl
theorem u0 (n : Nat) (v : AVs ash) : UnitOk (cx n) 27 (T n) (kr n v) 0 c0 := by
  rw [cl0]
  exact loop_unit (n := n) (co n) (mk n) (mx n) an0 [(0, [1])] [0, 1, 5] (T0 n) (fun _ _ _ => rfl) (fun e kn kx out h => by obtain ⟨x, _, h⟩ := ES.on_inv h; cases h) (fun m e kn kx out h => by obtain ⟨x, rfl, h⟩ := ES.on_inv h; exact (e0 n m v x kn kx).trans h) (units_of us0 (mem_nil))
theorem us : units code an = [(0, c0)] := by kernel_rfl
theorem eqn (n : Nat) (v : AVs ash) : fnEvT (cx n) d an (T n) (avEnc ash v) (rvDec rsh) = F n v.1 v.2.1 := by kernel_rfl
theorem ok (n : Nat) : EntOk Try.prog 64 (ent n) :=
  ent_ok (c := cx n) (e := ent n) (d := d) (an := an) (fn := Try.f64) (co n) (mk n) (mx n) (by kernel_rfl) (by kernel_rfl) (by kernel_rfl) (by kernel_rfl) (by kernel_rfl) (fun _ => T n) (fun v => units_of us (mem_cons (u0 n v) mem_nil)) (eqn n)
end laws_szRuleS
/-! laws.szProg -/
namespace laws_szProg
def F (n : Nat) (a1 : (List (ByteArray × List (ByteArray × List ByteArray))) × (List (ByteArray × (List ByteArray) × Int)) × List ((List (Int × ByteArray × List Int)) × (Int × ByteArray × List Int) × List (Int × ByteArray × List Int))) (left2 : Int) : Option Int :=
  (laws_szTypeDeclS.F n a1.1 left2).bind fun r3 =>
  if decide (r3 < 0) = true then
    some (-1)
  else
    (laws_szRelDeclS.F n a1.2.1 r3).bind fun r4 =>
    if decide (r4 < 0) = true then
      some (-1)
    else
      (laws_szRuleS.F n a1.2.2 r4).bind fun r5 =>
      if decide (r5 < 0) = true then
        some (-1)
      else
        some r5
noncomputable def code : Code := Try.f23.body.getD .skip
abbrev ash : List ASh := [.ro (.st (.pair (.sl (.st (.pair (.str) (.sl (.st (.pair (.str) (.sl (.str)))))))) (.pair (.sl (.st (.pair (.str) (.pair (.sl (.str)) (.int .i64))))) (.sl (.st (.pair (.sl (.st (.pair (.int .i64) (.pair (.str) (.sl (.int .i64)))))) (.pair (.st (.pair (.int .i64) (.pair (.str) (.sl (.int .i64))))) (.sl (.st (.pair (.int .i64) (.pair (.str) (.sl (.int .i64))))))))))))), .ro (.int .i64)]
abbrev rsh : List RSh := [.ro (.int .i64)]
def ent (n : Nat) : FEnt := ⟨ash, rsh, fun v => F n v.1 v.2.1⟩
noncomputable def cx (n : Nat) : Ctx := mkCtx Try.prog TYS [(62, laws_szTypeDeclS.ent n), (63, laws_szRelDeclS.ent n), (64, laws_szRuleS.ent n)]
noncomputable def d : FnD := ⟨code, 24, .nil, [(.tmp 4, .int .i64, .ro)]⟩
noncomputable def kr (n : Nat) (v : AVs ash) : Env → Option (RVs rsh) := endK (cx n) d (avEnc ash v) (rvDec rsh)
def an : An := .seq .nil (.seq .nil (.seq (.seq .nil (.cond (.seq .nil .nil) .nil)) (.seq .nil (.seq (.seq .nil (.cond (.seq .nil .nil) .nil)) (.seq .nil (.seq (.seq .nil (.cond (.seq .nil .nil) .nil)) (.seq .nil .nil)))))))
def T (n : Nat) : Tab (RVs rsh) := fun j e kn kx => match j with
  | _ => none
theorem co (n : Nat) : CtxOk (cx n) := mkCtx_cok TYS_ok
theorem mx (n : Nat) : (cx n).P.follows .mixedOrders = true := mkCtx_mix MIX
theorem mk (n : Nat) : MOk (cx n) := mkCtx_ok (mem_cons (laws_szTypeDeclS.ok n) (mem_cons (laws_szRelDeclS.ok n) (mem_cons (laws_szRuleS.ok n) mem_nil)))
theorem us : units code an = [] := by kernel_rfl
theorem eqn (n : Nat) (v : AVs ash) : fnEvT (cx n) d an (T n) (avEnc ash v) (rvDec rsh) = F n v.1 v.2.1 := by kernel_rfl
theorem ok (n : Nat) : EntOk Try.prog 23 (ent n) :=
  ent_ok (c := cx n) (e := ent n) (d := d) (an := an) (fn := Try.f23) (co n) (mk n) (mx n) (by kernel_rfl) (by kernel_rfl) (by kernel_rfl) (by kernel_rfl) (by kernel_rfl) (fun _ => T n) (fun v => units_of us (mem_nil)) (eqn n)
end laws_szProg
/-! laws.toStringS -/
namespace laws_toStringS
def l0 (n : Nat) (a2 : List ByteArray) (K0 : (List ByteArray) → Option (List ByteArray)) : Nat → Int → (List ByteArray) → Option (List ByteArray)
  | 0, _, _ => none
  | k + 1, i3, out4 =>
    if decide (i3 < (List.length a2 : Int)) = true then
      if 0 ≤ i3 ∧ i3 < (List.length a2 : Int) then
        if 0 ≤ i3 ∧ i3 < (List.length out4 : Int) then
          let w5 : List ByteArray := List.set out4 (Int.toNat i3) (List.getD a2 (Int.toNat i3) ByteArray.empty)
          l0 n a2 K0 k (IntKind.i64.wrap (i3 + 1)) w5
        else
          none
      else
        none
    else
      K0 out4
def F (n : Nat) (a1 : List ByteArray) : Option (List ByteArray) :=
  if 0 ≤ (List.length a1 : Int) ∧ (List.length a1 : Int) ≤ (List.length a1 : Int) ∧ (List.length a1 : Int) ≤ (lim : Int) then
    l0 n a1 (fun out6 =>
      some out6) n 0 (List.replicate (Int.toNat (List.length a1 : Int)) ByteArray.empty)
  else
    none
noncomputable def code : Code := Try.f121.body.getD .skip
abbrev ash : List ASh := [.ro (.sl (.str))]
abbrev rsh : List RSh := [.own (.sl (.str)) (.own .ro)]
def ent (n : Nat) : FEnt := ⟨ash, rsh, fun v => F n v.1⟩
noncomputable def cx (n : Nat) : Ctx := mkCtx Try.prog TYS []
noncomputable def d : FnD := ⟨code, 22, .nil, [(.tmp 2, .sl (.str), .own .ro)]⟩
noncomputable def kr (n : Nat) (v : AVs ash) : Env → Option (RVs rsh) := endK (cx n) d (avEnc ash v) (rvDec rsh)
noncomputable def c0 : Code := (Code.l (Code.r (Code.l (Code.r (Code.r code)))))
noncomputable def b0 : Code := Code.l c0
def an : An := .seq .nil (.seq (.reg [(7, .own .ro)]) (.seq (.seq .nil (.block (some [3]) (.cut 0 [0, 3, 4]))) (.seq .nil .nil)))
def an0 : An := .seq (.seq .nil (.cond .nil .nil)) (.seq (.block (some [0, 3, 4]) .nil) .nil)
abbrev sh0 : ES := ⟨[(0, .v (.sl (.str))), (3, .al 3 []), (4, .v (.int .i64))], [⟨3, .sl (.str), .own .ro, false, false⟩]⟩
abbrev sh0_0 : ES := ⟨[(3, .al 3 [])], [⟨3, .sl (.str), .own .ro, false, false⟩]⟩
def T0 (n m : Nat) (e : Env) (kn : Env → Option (RVs rsh)) (kx : Nat → Env → Option (RVs rsh)) : Option (RVs rsh) := ES.on sh0 e fun x => l0 n x.1.1 (fun y0 => kx 0 (sh0_0.enc (((()), ()), (y0, ())))) m x.1.2.2.1 x.2.1
def T (n : Nat) : Tab (RVs rsh) := fun j e kn kx => match j with
  | 0 => T0 n n e kn kx
  | _ => none
theorem co (n : Nat) : CtxOk (cx n) := mkCtx_cok TYS_ok
theorem mx (n : Nat) : (cx n).P.follows .mixedOrders = true := mkCtx_mix MIX
theorem mk (n : Nat) : MOk (cx n) := mkCtx_ok (mem_nil)
theorem us0 : units b0 an0 = [] := by kernel_rfl
theorem e0 (n m : Nat) (v : AVs ash) (x : sh0.V) (kn : Env → Option (RVs rsh)) (kx : Nat → Env → Option (RVs rsh)) : aevT (cx n) 22 (T n) (kr n v) b0 an0 [(0, [3])] (meet (some [0, 3, 4]) fun e => T0 n m e kn kx) kx (sh0.enc x) = l0 n x.1.1 (fun y0 => kx 0 (sh0_0.enc (((()), ()), (y0, ())))) (m + 1) x.1.2.2.1 x.2.1 := by kernel_rfl
theorem cl0 : c0 = .loop b0 := by kernel_rfl
theorem u0 (n : Nat) (v : AVs ash) : UnitOk (cx n) 22 (T n) (kr n v) 0 c0 := by
  rw [cl0]
  exact loop_unit (n := n) (co n) (mk n) (mx n) an0 [(0, [3])] [0, 3, 4] (T0 n) (fun _ _ _ => rfl) (fun e kn kx out h => by obtain ⟨x, _, h⟩ := ES.on_inv h; cases h) (fun m e kn kx out h => by obtain ⟨x, rfl, h⟩ := ES.on_inv h; exact (e0 n m v x kn kx).trans h) (units_of us0 (mem_nil))
theorem us : units code an = [(0, c0)] := by kernel_rfl
theorem eqn (n : Nat) (v : AVs ash) : fnEvT (cx n) d an (T n) (avEnc ash v) (rvDec rsh) = F n v.1 := by kernel_rfl
theorem ok (n : Nat) : EntOk Try.prog 121 (ent n) :=
  ent_ok (c := cx n) (e := ent n) (d := d) (an := an) (fn := Try.f121) (co n) (mk n) (mx n) (by kernel_rfl) (by kernel_rfl) (by kernel_rfl) (by kernel_rfl) (by kernel_rfl) (fun _ => T n) (fun v => units_of us (mem_cons (u0 n v) mem_nil)) (eqn n)
end laws_toStringS
/-! laws.toCon -/
namespace laws_toCon
def F (n : Nat) (a1 : ByteArray × List ByteArray) : Option (ByteArray × List ByteArray) :=
  (laws_toStringS.F n a1.2).bind fun r2 =>
  some (a1.1, r2)
noncomputable def code : Code := Try.f141.body.getD .skip
abbrev ash : List ASh := [.ro (.st (.pair (.str) (.sl (.str))))]
abbrev rsh : List RSh := [.own (.st (.pair (.str) (.sl (.str)))) (.pr .ro (.own .ro))]
def ent (n : Nat) : FEnt := ⟨ash, rsh, fun v => F n v.1⟩
noncomputable def cx (n : Nat) : Ctx := mkCtx Try.prog TYS [(121, laws_toStringS.ent n)]
noncomputable def d : FnD := ⟨code, 12, .nil, [(.cell 2 188, .st (.pair (.str) (.sl (.str))), .pr .ro (.own .ro))]⟩
noncomputable def kr (n : Nat) (v : AVs ash) : Env → Option (RVs rsh) := endK (cx n) d (avEnc ash v) (rvDec rsh)
def an : An := .seq (.reg [(2, .pr .ro (.own .ro))]) (.seq (.reg [(3, .pr .ro (.own .ro))]) (.seq .nil (.seq (.reg [(9, .own .ro)]) (.seq .nil .nil))))
def T (n : Nat) : Tab (RVs rsh) := fun j e kn kx => match j with
  | _ => none
theorem co (n : Nat) : CtxOk (cx n) := mkCtx_cok TYS_ok
theorem mx (n : Nat) : (cx n).P.follows .mixedOrders = true := mkCtx_mix MIX
theorem mk (n : Nat) : MOk (cx n) := mkCtx_ok (mem_cons (laws_toStringS.ok n) mem_nil)
theorem us : units code an = [] := by kernel_rfl
theorem eqn (n : Nat) (v : AVs ash) : fnEvT (cx n) d an (T n) (avEnc ash v) (rvDec rsh) = F n v.1 := by kernel_rfl
theorem ok (n : Nat) : EntOk Try.prog 141 (ent n) :=
  ent_ok (c := cx n) (e := ent n) (d := d) (an := an) (fn := Try.f141) (co n) (mk n) (mx n) (by kernel_rfl) (by kernel_rfl) (by kernel_rfl) (by kernel_rfl) (by kernel_rfl) (fun _ => T n) (fun v => units_of us (mem_nil)) (eqn n)
end laws_toCon
/-! laws.toConS -/
namespace laws_toConS
def l0 (n : Nat) (a2 : List (ByteArray × List ByteArray)) (K0 : (List (ByteArray × List ByteArray)) → Option (List (ByteArray × List ByteArray))) : Nat → Int → (List (ByteArray × List ByteArray)) → Option (List (ByteArray × List ByteArray))
  | 0, _, _ => none
  | k + 1, i3, out4 =>
    if decide (i3 < (List.length a2 : Int)) = true then
      if 0 ≤ i3 ∧ i3 < (List.length a2 : Int) then
        (laws_toCon.F n (List.getD a2 (Int.toNat i3) (ByteArray.empty, []))).bind fun r5 =>
        if 0 ≤ i3 ∧ i3 < (List.length out4 : Int) then
          l0 n a2 K0 k (IntKind.i64.wrap (i3 + 1)) (List.set out4 (Int.toNat i3) r5)
        else
          none
      else
        none
    else
      K0 out4
def F (n : Nat) (a1 : List (ByteArray × List ByteArray)) : Option (List (ByteArray × List ByteArray)) :=
  if 0 ≤ (List.length a1 : Int) ∧ (List.length a1 : Int) ≤ (List.length a1 : Int) ∧ (List.length a1 : Int) ≤ (lim : Int) then
    l0 n a1 (fun out6 =>
      some out6) n 0 (List.replicate (Int.toNat (List.length a1 : Int)) (ByteArray.empty, []))
  else
    none
noncomputable def code : Code := Try.f129.body.getD .skip
abbrev ash : List ASh := [.ro (.sl (.st (.pair (.str) (.sl (.str)))))]
abbrev rsh : List RSh := [.own (.sl (.st (.pair (.str) (.sl (.str))))) (.own (.pr .ro (.own .ro)))]
def ent (n : Nat) : FEnt := ⟨ash, rsh, fun v => F n v.1⟩
noncomputable def cx (n : Nat) : Ctx := mkCtx Try.prog TYS [(141, laws_toCon.ent n)]
noncomputable def d : FnD := ⟨code, 23, .nil, [(.tmp 2, .sl (.st (.pair (.str) (.sl (.str)))), .own (.pr .ro (.own .ro)))]⟩
noncomputable def kr (n : Nat) (v : AVs ash) : Env → Option (RVs rsh) := endK (cx n) d (avEnc ash v) (rvDec rsh)
noncomputable def c0 : Code := (Code.l (Code.r (Code.l (Code.r (Code.r code)))))
noncomputable def b0 : Code := Code.l c0
def an : An := .seq .nil (.seq (.reg [(7, .own (.pr .ro (.own .ro)))]) (.seq (.seq .nil (.block (some [3]) (.cut 0 [0, 3, 4]))) (.seq .nil .nil)))
def an0 : An := .seq (.seq .nil (.cond .nil .nil)) (.seq (.block (some [0, 3, 4]) (.reg [(20, .pr .ro (.own .ro))])) .nil)
abbrev sh0 : ES := ⟨[(0, .v (.sl (.st (.pair (.str) (.sl (.str)))))), (3, .al 3 []), (4, .v (.int .i64))], [⟨3, .sl (.st (.pair (.str) (.sl (.str)))), .own (.pr .ro (.own .ro)), false, false⟩]⟩
abbrev sh0_0 : ES := ⟨[(3, .al 3 [])], [⟨3, .sl (.st (.pair (.str) (.sl (.str)))), .own (.pr .ro (.own .ro)), false, false⟩]⟩
def T0 (n m : Nat) (e : Env) (kn : Env → Option (RVs rsh)) (kx : Nat → Env → Option (RVs rsh)) : Option (RVs rsh) := ES.on sh0 e fun x => l0 n x.1.1 (fun y0 => kx 0 (sh0_0.enc (((()), ()), (y0, ())))) m x.1.2.2.1 x.2.1
def T (n : Nat) : Tab (RVs rsh) := fun j e kn kx => match j with
  | 0 => T0 n n e kn kx
  | _ => none
theorem co (n : Nat) : CtxOk (cx n) := mkCtx_cok TYS_ok
theorem mx (n : Nat) : (cx n).P.follows .mixedOrders = true := mkCtx_mix MIX
theorem mk (n : Nat) : MOk (cx n) := mkCtx_ok (mem_cons (laws_toCon.ok n) mem_nil)
theorem us0 : units b0 an0 = [] := by kernel_rfl
theorem e0 (n m : Nat) (v : AVs ash) (x : sh0.V) (kn : Env → Option (RVs rsh)) (kx : Nat → Env → Option (RVs rsh)) : aevT (cx n) 23 (T n) (kr n v) b0 an0 [(0, [3])] (meet (some [0, 3, 4]) fun e => T0 n m e kn kx) kx (sh0.enc x) = l0 n x.1.1 (fun y0 => kx 0 (sh0_0.enc (((()), ()), (y0, ())))) (m + 1) x.1.2.2.1 x.2.1 := by kernel_rfl
theorem cl0 : c0 = .loop b0 := by kernel_rfl
theorem u0 (n : Nat) (v : AVs ash) : UnitOk (cx n) 23 (T n) (kr n v) 0 c0 := by
  rw [cl0]
  exact loop_unit (n := n) (co n) (mk n) (mx n) an0 [(0, [3])] [0, 3, 4] (T0 n) (fun _ _ _ => rfl) (fun e kn kx out h => by obtain ⟨x, _, h⟩ := ES.on_inv h; cases h) (fun m e kn kx out h => by obtain ⟨x, rfl, h⟩ := ES.on_inv h; exact (e0 n m v x kn kx).trans h) (units_of us0 (mem_nil))
theorem us : units code an = [(0, c0)] := by kernel_rfl
theorem eqn (n : Nat) (v : AVs ash) : fnEvT (cx n) d an (T n) (avEnc ash v) (rvDec rsh) = F n v.1 := by kernel_rfl
theorem ok (n : Nat) : EntOk Try.prog 129 (ent n) :=
  ent_ok (c := cx n) (e := ent n) (d := d) (an := an) (fn := Try.f129) (co n) (mk n) (mx n) (by kernel_rfl) (by kernel_rfl) (by kernel_rfl) (by kernel_rfl) (by kernel_rfl) (fun _ => T n) (fun v => units_of us (mem_cons (u0 n v) mem_nil)) (eqn n)
end laws_toConS
/-! laws.toTypeDecl -/
namespace laws_toTypeDecl
def F (n : Nat) (a1 : ByteArray × List (ByteArray × List ByteArray)) : Option (ByteArray × List (ByteArray × List ByteArray)) :=
  (laws_toConS.F n a1.2).bind fun r2 =>
  some (a1.1, r2)
noncomputable def code : Code := Try.f107.body.getD .skip
abbrev ash : List ASh := [.ro (.st (.pair (.str) (.sl (.st (.pair (.str) (.sl (.str)))))))]
abbrev rsh : List RSh := [.own (.st (.pair (.str) (.sl (.st (.pair (.str) (.sl (.str))))))) (.pr .ro (.own (.pr .ro (.own .ro))))]
def ent (n : Nat) : FEnt := ⟨ash, rsh, fun v => F n v.1⟩
noncomputable def cx (n : Nat) : Ctx := mkCtx Try.prog TYS [(129, laws_toConS.ent n)]
noncomputable def d : FnD := ⟨code, 12, .nil, [(.cell 2 164, .st (.pair (.str) (.sl (.st (.pair (.str) (.sl (.str)))))), .pr .ro (.own (.pr .ro (.own .ro))))]⟩
noncomputable def kr (n : Nat) (v : AVs ash) : Env → Option (RVs rsh) := endK (cx n) d (avEnc ash v) (rvDec rsh)
def an : An := .seq (.reg [(2, .pr .ro (.own (.pr .ro (.own .ro))))]) (.seq (.reg [(3, .pr .ro (.own (.pr .ro (.own .ro))))]) (.seq .nil (.seq (.reg [(9, .own (.pr .ro (.own .ro)))]) (.seq .nil .nil))))
def T (n : Nat) : Tab (RVs rsh) := fun j e kn kx => match j with
  | _ => none
theorem co (n : Nat) : CtxOk (cx n) := mkCtx_cok TYS_ok
theorem mx (n : Nat) : (cx n).P.follows .mixedOrders = true := mkCtx_mix MIX
theorem mk (n : Nat) : MOk (cx n) := mkCtx_ok (mem_cons (laws_toConS.ok n) mem_nil)
theorem us : units code an = [] := by kernel_rfl
theorem eqn (n : Nat) (v : AVs ash) : fnEvT (cx n) d an (T n) (avEnc ash v) (rvDec rsh) = F n v.1 := by kernel_rfl
theorem ok (n : Nat) : EntOk Try.prog 107 (ent n) :=
  ent_ok (c := cx n) (e := ent n) (d := d) (an := an) (fn := Try.f107) (co n) (mk n) (mx n) (by kernel_rfl) (by kernel_rfl) (by kernel_rfl) (by kernel_rfl) (by kernel_rfl) (fun _ => T n) (fun v => units_of us (mem_nil)) (eqn n)
end laws_toTypeDecl
/-! laws.toTypeDeclS -/
namespace laws_toTypeDeclS
def l0 (n : Nat) (a2 : List (ByteArray × List (ByteArray × List ByteArray))) (K0 : (List (ByteArray × List (ByteArray × List ByteArray))) → Option (List (ByteArray × List (ByteArray × List ByteArray)))) : Nat → Int → (List (ByteArray × List (ByteArray × List ByteArray))) → Option (List (ByteArray × List (ByteArray × List ByteArray)))
  | 0, _, _ => none
  | k + 1, i3, out4 =>
    if decide (i3 < (List.length a2 : Int)) = true then
      if 0 ≤ i3 ∧ i3 < (List.length a2 : Int) then
        (laws_toTypeDecl.F n (List.getD a2 (Int.toNat i3) (ByteArray.empty, []))).bind fun r5 =>
        if 0 ≤ i3 ∧ i3 < (List.length out4 : Int) then
          l0 n a2 K0 k (IntKind.i64.wrap (i3 + 1)) (List.set out4 (Int.toNat i3) r5)
        else
          none
      else
        none
    else
      K0 out4
def F (n : Nat) (a1 : List (ByteArray × List (ByteArray × List ByteArray))) : Option (List (ByteArray × List (ByteArray × List ByteArray))) :=
  if 0 ≤ (List.length a1 : Int) ∧ (List.length a1 : Int) ≤ (List.length a1 : Int) ∧ (List.length a1 : Int) ≤ (lim : Int) then
    l0 n a1 (fun out6 =>
      some out6) n 0 (List.replicate (Int.toNat (List.length a1 : Int)) (ByteArray.empty, []))
  else
    none
noncomputable def code : Code := Try.f65.body.getD .skip
abbrev ash : List ASh := [.ro (.sl (.st (.pair (.str) (.sl (.st (.pair (.str) (.sl (.str))))))))]
abbrev rsh : List RSh := [.own (.sl (.st (.pair (.str) (.sl (.st (.pair (.str) (.sl (.str)))))))) (.own (.pr .ro (.own (.pr .ro (.own .ro)))))]
def ent (n : Nat) : FEnt := ⟨ash, rsh, fun v => F n v.1⟩
noncomputable def cx (n : Nat) : Ctx := mkCtx Try.prog TYS [(107, laws_toTypeDecl.ent n)]
noncomputable def d : FnD := ⟨code, 23, .nil, [(.tmp 2, .sl (.st (.pair (.str) (.sl (.st (.pair (.str) (.sl (.str))))))), .own (.pr .ro (.own (.pr .ro (.own .ro)))))]⟩
noncomputable def kr (n : Nat) (v : AVs ash) : Env → Option (RVs rsh) := endK (cx n) d (avEnc ash v) (rvDec rsh)
noncomputable def c0 : Code := (Code.l (Code.r (Code.l (Code.r (Code.r code)))))
noncomputable def b0 : Code := Code.l c0
def an : An := .seq .nil (.seq (.reg [(7, .own (.pr .ro (.own (.pr .ro (.own .ro)))))]) (.seq (.seq .nil (.block (some [3]) (.cut 0 [0, 3, 4]))) (.seq .nil .nil)))
def an0 : An := .seq (.seq .nil (.cond .nil .nil)) (.seq (.block (some [0, 3, 4]) (.reg [(20, .pr .ro (.own (.pr .ro (.own .ro))))])) .nil)
abbrev sh0 : ES := ⟨[(0, .v (.sl (.st (.pair (.str) (.sl (.st (.pair (.str) (.sl (.str))))))))), (3, .al 3 []), (4, .v (.int .i64))], [⟨3, .sl (.st (.pair (.str) (.sl (.st (.pair (.str) (.sl (.str))))))), .own (.pr .ro (.own (.pr .ro (.own .ro)))), false, false⟩]⟩
abbrev sh0_0 : ES := ⟨[(3, .al 3 [])], [⟨3, .sl (.st (.pair (.str) (.sl (.st (.pair (.str) (.sl (.str))))))), .own (.pr .ro (.own (.pr .ro (.own .ro)))), false, false⟩]⟩
def T0 (n m : Nat) (e : Env) (kn : Env → Option (RVs rsh)) (kx : Nat → Env → Option (RVs rsh)) : Option (RVs rsh) := ES.on sh0 e fun x => l0 n x.1.1 (fun y0 => kx 0 (sh0_0.enc (((()), ()), (y0, ())))) m x.1.2.2.1 x.2.1
def T (n : Nat) : Tab (RVs rsh) := fun j e kn kx => match j with
  | 0 => T0 n n e kn kx
  | _ => none
theorem co (n : Nat) : CtxOk (cx n) := mkCtx_cok TYS_ok
theorem mx (n : Nat) : (cx n).P.follows .mixedOrders = true := mkCtx_mix MIX
theorem mk (n : Nat) : MOk (cx n) := mkCtx_ok (mem_cons (laws_toTypeDecl.ok n) mem_nil)
theorem us0 : units b0 an0 = [] := by kernel_rfl
theorem e0 (n m : Nat) (v : AVs ash) (x : sh0.V) (kn : Env → Option (RVs rsh)) (kx : Nat → Env → Option (RVs rsh)) : aevT (cx n) 23 (T n) (kr n v) b0 an0 [(0, [3])] (meet (some [0, 3, 4]) fun e => T0 n m e kn kx) kx (sh0.enc x) = l0 n x.1.1 (fun y0 => kx 0 (sh0_0.enc (((()), ()), (y0, ())))) (m + 1) x.1.2.2.1 x.2.1 := by kernel_rfl
theorem cl0 : c0 = .loop b0 := by kernel_rfl
theorem u0 (n : Nat) (v : AVs ash) : UnitOk (cx n) 23 (T n) (kr n v) 0 c0 := by
  rw [cl0]
  exact loop_unit (n := n) (co n) (mk n) (mx n) an0 [(0, [3])] [0, 3, 4] (T0 n) (fun _ _ _ => rfl) (fun e kn kx out h => by obtain ⟨x, _, h⟩ := ES.on_inv h; cases h) (fun m e kn kx out h => by obtain ⟨x, rfl, h⟩ := ES.on_inv h; exact (e0 n m v x kn kx).trans h) (units_of us0 (mem_nil))
theorem us : units code an = [(0, c0)] := by kernel_rfl
theorem eqn (n : Nat) (v : AVs ash) : fnEvT (cx n) d an (T n) (avEnc ash v) (rvDec rsh) = F n v.1 := by kernel_rfl
theorem ok (n : Nat) : EntOk Try.prog 65 (ent n) :=
  ent_ok (c := cx n) (e := ent n) (d := d) (an := an) (fn := Try.f65) (co n) (mk n) (mx n) (by kernel_rfl) (by kernel_rfl) (by kernel_rfl) (by kernel_rfl) (by kernel_rfl) (fun _ => T n) (fun v => units_of us (mem_cons (u0 n v) mem_nil)) (eqn n)
end laws_toTypeDeclS
end Go.Abs
