/- The functions, and that a call of each comes to it. Conditions: none. -/
import Derived.Test.YtmpickbajdimdaaTy
namespace Go.Abs
open Go.Proofs
set_option linter.unusedVariables false
/-! laws.szStringS -/
namespace laws_szStringS
def l0 (n : Nat) (a3 : List ByteArray) (K0 : Int → Option Int) : Nat → Int → Int → Option Int
  | 0, _, _ => none
  | k + 1, left4, i5 =>
    if decide (i5 < (List.length a3 : Int)) = true then
      if 0 ≤ i5 ∧ i5 < (List.length a3 : Int) then
        if decide ((IntKind.i64.wrap (left4 - (ByteArray.size (List.getD a3 (Int.toNat i5) ByteArray.empty) : Int))) < 0) = true then
          some (-1)
        else
          l0 n a3 K0 k (IntKind.i64.wrap (left4 - (ByteArray.size (List.getD a3 (Int.toNat i5) ByteArray.empty) : Int))) (IntKind.i64.wrap (i5 + 1))
      else
        none
    else
      K0 left4
def F (n : Nat) (a1 : List ByteArray) (left2 : Int) : Option Int :=
  if decide ((IntKind.i64.wrap (left2 - (List.length a1 : Int))) < 0) = true then
    some (-1)
  else
    l0 n a1 (fun left6 =>
      some left6) n (IntKind.i64.wrap (left2 - (List.length a1 : Int))) 0
noncomputable def code : Code := Try.f120.body.getD .skip
abbrev ash : List ASh := [.ro (.sl (.str)), .ro (.int .i64)]
abbrev rsh : List RSh := [.ro (.int .i64)]
def ent (n : Nat) : FEnt := ⟨ash, rsh, fun v => F n v.1 v.2.1⟩
noncomputable def cx (n : Nat) : Ctx := mkCtx Try.prog TYS []
noncomputable def d : FnD := ⟨code, 28, .nil, [(.tmp 4, .int .i64, .ro)]⟩
noncomputable def kr (n : Nat) (v : AVs ash) : Env → Option (RVs rsh) := endK (cx n) d (avEnc ash v) (rvDec rsh)
noncomputable def c0 : Code := (Code.l (Code.r (Code.l (Code.r (Code.r (Code.r code))))))
noncomputable def b0 : Code := Code.l c0
def an : An := .seq .nil (.seq .nil (.seq (.seq .nil (.cond (.seq .nil .nil) .nil)) (.seq (.seq .nil (.block (some [1]) (.cut 0 [0, 1, 5]))) (.seq .nil .nil))))
def an0 : An := .seq (.seq .nil (.cond .nil .nil)) (.seq (.block (some [0, 1, 5]) (.seq .nil (.seq .nil (.cond (.seq .nil .nil) .nil)))) .nil)
abbrev sh0 : ES := ⟨[(0, .v (.sl (.str))), (1, .v (.int .i64)), (5, .v (.int .i64))], []⟩
abbrev sh0_0 : ES := ⟨[(1, .v (.int .i64))], []⟩
def T0 (n m : Nat) (e : Env) (kn : Env → Option (RVs rsh)) (kx : Nat → Env → Option (RVs rsh)) : Option (RVs rsh) := ES.on sh0 e fun x => l0 n x.1.1 (fun y0 => kx 0 (sh0_0.enc ((y0, ()), (())))) m x.1.2.1 x.1.2.2.1
def T (n : Nat) : Tab (RVs rsh) := fun j e kn kx => match j with
  | 0 => T0 n n e kn kx
  | _ => none
theorem co (n : Nat) : CtxOk (cx n) := mkCtx_cok TYS_ok
theorem mx (n : Nat) : (cx n).P.follows .mixedOrders = true := mkCtx_mix MIX
theorem mk (n : Nat) : MOk (cx n) := mkCtx_ok (mem_nil)
theorem us0 : units b0 an0 = [] := by kernel_rfl
theorem e0 (n m : Nat) (v : AVs ash) (x : sh0.V) (kn : Env → Option (RVs rsh)) (kx : Nat → Env → Option (RVs rsh)) : aevT (cx n) 28 (T n) (kr n v) b0 an0 [(0, [1])] (meet (some [0, 1, 5]) fun e => T0 n m e kn kx) kx (sh0.enc x) = l0 n x.1.1 (fun y0 => kx 0 (sh0_0.enc ((y0, ()), (())))) (m + 1) x.1.2.1 x.1.2.2.1 := by kernel_rfl
theorem cl0 : c0 = .loop b0 := by kernel_rfl
theorem u0 (n : Nat) (v : AVs ash) : UnitOk (cx n) 28 (T n) (kr n v) 0 c0 := by
  rw [cl0]
  exact loop_unit (n := n) (co n) (mk n) (mx n) an0 [(0, [1])] [0, 1, 5] (T0 n) (fun _ _ _ => rfl) (fun e kn kx out h => by obtain ⟨x, _, h⟩ := ES.on_inv h; cases h) (fun m e kn kx out h => by obtain ⟨x, rfl, h⟩ := ES.on_inv h; exact (e0 n m v x kn kx).trans h) (units_of us0 (mem_nil))
theorem us : units code an = [(0, c0)] := by kernel_rfl
theorem eqn (n : Nat) (v : AVs ash) : fnEvT (cx n) d an (T n) (avEnc ash v) (rvDec rsh) = F n v.1 v.2.1 := by kernel_rfl
theorem ok (n : Nat) : EntOk Try.prog 120 (ent n) :=
  ent_ok (c := cx n) (e := ent n) (d := d) (an := an) (fn := Try.f120) (co n) (mk n) (mx n) (by kernel_rfl) (by kernel_rfl) (by kernel_rfl) (by kernel_rfl) (by kernel_rfl) (fun _ => T n) (fun v => units_of us (mem_cons (u0 n v) mem_nil)) (eqn n)
end laws_szStringS
/-! laws.szCon -/
namespace laws_szCon
def F (n : Nat) (a1 : ByteArray × List ByteArray) (left2 : Int) : Option Int :=
  if decide ((IntKind.i64.wrap (left2 - (ByteArray.size a1.1 : Int))) < 0) = true then
    some (-1)
  else
    (laws_szStringS.F n a1.2 (IntKind.i64.wrap (left2 - (ByteArray.size a1.1 : Int)))).bind fun r3 =>
    if decide (r3 < 0) = true then
      some (-1)
    else
      some r3
noncomputable def code : Code := Try.f140.body.getD .skip
abbrev ash : List ASh := [.ro (.st (.pair (.str) (.sl (.str)))), .ro (.int .i64)]
abbrev rsh : List RSh := [.ro (.int .i64)]
def ent (n : Nat) : FEnt := ⟨ash, rsh, fun v => F n v.1 v.2.1⟩
noncomputable def cx (n : Nat) : Ctx := mkCtx Try.prog TYS [(120, laws_szStringS.ent n)]
noncomputable def d : FnD := ⟨code, 19, .nil, [(.tmp 4, .int .i64, .ro)]⟩
noncomputable def kr (n : Nat) (v : AVs ash) : Env → Option (RVs rsh) := endK (cx n) d (avEnc ash v) (rvDec rsh)
def an : An := .seq .nil (.seq .nil (.seq (.seq .nil (.cond (.seq .nil .nil) .nil)) (.seq .nil (.seq (.seq .nil (.cond (.seq .nil .nil) .nil)) (.seq .nil .nil)))))
def T (n : Nat) : Tab (RVs rsh) := fun j e kn kx => match j with
  | _ => none
theorem co (n : Nat) : CtxOk (cx n) := mkCtx_cok TYS_ok
theorem mx (n : Nat) : (cx n).P.follows .mixedOrders = true := mkCtx_mix MIX
theorem mk (n : Nat) : MOk (cx n) := mkCtx_ok (mem_cons (laws_szStringS.ok n) mem_nil)
theorem us : units code an = [] := by kernel_rfl
theorem eqn (n : Nat) (v : AVs ash) : fnEvT (cx n) d an (T n) (avEnc ash v) (rvDec rsh) = F n v.1 v.2.1 := by kernel_rfl
theorem ok (n : Nat) : EntOk Try.prog 140 (ent n) :=
  ent_ok (c := cx n) (e := ent n) (d := d) (an := an) (fn := Try.f140) (co n) (mk n) (mx n) (by kernel_rfl) (by kernel_rfl) (by kernel_rfl) (by kernel_rfl) (by kernel_rfl) (fun _ => T n) (fun v => units_of us (mem_nil)) (eqn n)
end laws_szCon
/-! laws.szConS -/
namespace laws_szConS
def l0 (n : Nat) (a3 : List (ByteArray × List ByteArray)) (K0 : Int → Option Int) : Nat → Int → Int → Option Int
  | 0, _, _ => none
  | k + 1, left4, i5 =>
    if decide (i5 < (List.length a3 : Int)) = true then
      if 0 ≤ i5 ∧ i5 < (List.length a3 : Int) then
        (laws_szCon.F n (List.getD a3 (Int.toNat i5) (ByteArray.empty, [])) left4).bind fun r6 =>
        if decide (r6 < 0) = true then
          some (-1)
        else
          l0 n a3 K0 k r6 (IntKind.i64.wrap (i5 + 1))
      else
        none
    else
      K0 left4
def F (n : Nat) (a1 : List (ByteArray × List ByteArray)) (left2 : Int) : Option Int :=
  if decide ((IntKind.i64.wrap (left2 - (List.length a1 : Int))) < 0) = true then
    some (-1)
  else
    l0 n a1 (fun left7 =>
      some left7) n (IntKind.i64.wrap (left2 - (List.length a1 : Int))) 0
noncomputable def code : Code := Try.f128.body.getD .skip
abbrev ash : List ASh := [.ro (.sl (.st (.pair (.str) (.sl (.str))))), .ro (.int .i64)]
abbrev rsh : List RSh := [.ro (.int .i64)]
def ent (n : Nat) : FEnt := ⟨ash, rsh, fun v => F n v.1 v.2.1⟩
noncomputable def cx (n : Nat) : Ctx := mkCtx Try.prog TYS [(140, laws_szCon.ent n)]
noncomputable def d : FnD := ⟨code, 27, .nil, [(.tmp 4, .int .i64, .ro)]⟩
noncomputable def kr (n : Nat) (v : AVs ash) : Env → Option (RVs rsh) := endK (cx n) d (avEnc ash v) (rvDec rsh)
noncomputable def c0 : Code := (Code.l (Code.r (Code.l (Code.r (Code.r (Code.r code))))))
noncomputable def b0 : Code := Code.l c0
def an : An := .seq .nil (.seq .nil (.seq (.seq .nil (.cond (.seq .nil .nil) .nil)) (.seq (.seq .nil (.block (some [1]) (.cut 0 [0, 1, 5]))) (.seq .nil .nil))))
def an0 : An := .seq (.seq .nil (.cond .nil .nil)) (.seq (.block (some [0, 1, 5]) (.seq .nil (.seq .nil (.cond (.seq .nil .nil) .nil)))) .nil)
abbrev sh0 : ES := ⟨[(0, .v (.sl (.st (.pair (.str) (.sl (.str)))))), (1, .v (.int .i64)), (5, .v (.int .i64))], []⟩
abbrev sh0_0 : ES := ⟨[(1, .v (.int .i64))], []⟩
def T0 (n m : Nat) (e : Env) (kn : Env → Option (RVs rsh)) (kx : Nat → Env → Option (RVs rsh)) : Option (RVs rsh) := ES.on sh0 e fun x => l0 n x.1.1 (fun y0 => kx 0 (sh0_0.enc ((y0, ()), (())))) m x.1.2.1 x.1.2.2.1
def T (n : Nat) : Tab (RVs rsh) := fun j e kn kx => match j with
  | 0 => T0 n n e kn kx
  | _ => none
theorem co (n : Nat) : CtxOk (cx n) := mkCtx_cok TYS_ok
theorem mx (n : Nat) : (cx n).P.follows .mixedOrders = true := mkCtx_mix MIX
theorem mk (n : Nat) : MOk (cx n) := mkCtx_ok (mem_cons (laws_szCon.ok n) mem_nil)
theorem us0 : units b0 an0 = [] := by kernel_rfl
theorem e0 (n m : Nat) (v : AVs ash) (x : sh0.V) (kn : Env → Option (RVs rsh)) (kx : Nat → Env → Option (RVs rsh)) : aevT (cx n) 27 (T n) (kr n v) b0 an0 [(0, [1])] (meet (some [0, 1, 5]) fun e => T0 n m e kn kx) kx (sh0.enc x) = l0 n x.1.1 (fun y0 => kx 0 (sh0_0.enc ((y0, ()), (())))) (m + 1) x.1.2.1 x.1.2.2.1 := by kernel_rfl
theorem cl0 : c0 = .loop b0 := by kernel_rfl
theorem u0 (n : Nat) (v : AVs ash) : UnitOk (cx n) 27 (T n) (kr n v) 0 c0 := by
  rw [cl0]
  exact loop_unit (n := n) (co n) (mk n) (mx n) an0 [(0, [1])] [0, 1, 5] (T0 n) (fun _ _ _ => rfl) (fun e kn kx out h => by obtain ⟨x, _, h⟩ := ES.on_inv h; cases h) (fun m e kn kx out h => by obtain ⟨x, rfl, h⟩ := ES.on_inv h; exact (e0 n m v x kn kx).trans h) (units_of us0 (mem_nil))
theorem us : units code an = [(0, c0)] := by kernel_rfl
theorem eqn (n : Nat) (v : AVs ash) : fnEvT (cx n) d an (T n) (avEnc ash v) (rvDec rsh) = F n v.1 v.2.1 := by kernel_rfl
theorem ok (n : Nat) : EntOk Try.prog 128 (ent n) :=
  ent_ok (c := cx n) (e := ent n) (d := d) (an := an) (fn := Try.f128) (co n) (mk n) (mx n) (by kernel_rfl) (by kernel_rfl) (by kernel_rfl) (by kernel_rfl) (by kernel_rfl) (fun _ => T n) (fun v => units_of us (mem_cons (u0 n v) mem_nil)) (eqn n)
end laws_szConS
/-! laws.szTypeDecl -/
namespace laws_szTypeDecl
def F (n : Nat) (a1 : ByteArray × List (ByteArray × List ByteArray)) (left2 : Int) : Option Int :=
  if decide ((IntKind.i64.wrap (left2 - (ByteArray.size a1.1 : Int))) < 0) = true then
    some (-1)
  else
    (laws_szConS.F n a1.2 (IntKind.i64.wrap (left2 - (ByteArray.size a1.1 : Int)))).bind fun r3 =>
    if decide (r3 < 0) = true then
      some (-1)
    else
      some r3
noncomputable def code : Code := Try.f105.body.getD .skip
abbrev ash : List ASh := [.ro (.st (.pair (.str) (.sl (.st (.pair (.str) (.sl (.str))))))), .ro (.int .i64)]
abbrev rsh : List RSh := [.ro (.int .i64)]
def ent (n : Nat) : FEnt := ⟨ash, rsh, fun v => F n v.1 v.2.1⟩
noncomputable def cx (n : Nat) : Ctx := mkCtx Try.prog TYS [(128, laws_szConS.ent n)]
noncomputable def d : FnD := ⟨code, 19, .nil, [(.tmp 4, .int .i64, .ro)]⟩
noncomputable def kr (n : Nat) (v : AVs ash) : Env → Option (RVs rsh) := endK (cx n) d (avEnc ash v) (rvDec rsh)
def an : An := .seq .nil (.seq .nil (.seq (.seq .nil (.cond (.seq .nil .nil) .nil)) (.seq .nil (.seq (.seq .nil (.cond (.seq .nil .nil) .nil)) (.seq .nil .nil)))))
def T (n : Nat) : Tab (RVs rsh) := fun j e kn kx => match j with
  | _ => none
theorem co (n : Nat) : CtxOk (cx n) := mkCtx_cok TYS_ok
theorem mx (n : Nat) : (cx n).P.follows .mixedOrders = true := mkCtx_mix MIX
theorem mk (n : Nat) : MOk (cx n) := mkCtx_ok (mem_cons (laws_szConS.ok n) mem_nil)
theorem us : units code an = [] := by kernel_rfl
theorem eqn (n : Nat) (v : AVs ash) : fnEvT (cx n) d an (T n) (avEnc ash v) (rvDec rsh) = F n v.1 v.2.1 := by kernel_rfl
theorem ok (n : Nat) : EntOk Try.prog 105 (ent n) :=
  ent_ok (c := cx n) (e := ent n) (d := d) (an := an) (fn := Try.f105) (co n) (mk n) (mx n) (by kernel_rfl) (by kernel_rfl) (by kernel_rfl) (by kernel_rfl) (by kernel_rfl) (fun _ => T n) (fun v => units_of us (mem_nil)) (eqn n)
end laws_szTypeDecl
/-! laws.szTypeDeclS -/
namespace laws_szTypeDeclS
def l0 (n : Nat) (a3 : List (ByteArray × List (ByteArray × List ByteArray))) (K0 : Int → Option Int) : Nat → Int → Int → Option Int
  | 0, _, _ => none
  | k + 1, left4, i5 =>
    if decide (i5 < (List.length a3 : Int)) = true then
      if 0 ≤ i5 ∧ i5 < (List.length a3 : Int) then
        (laws_szTypeDecl.F n (List.getD a3 (Int.toNat i5) (ByteArray.empty, [])) left4).bind fun r6 =>
        if decide (r6 < 0) = true then
          some (-1)
        else
          l0 n a3 K0 k r6 (IntKind.i64.wrap (i5 + 1))
      else
        none
    else
      K0 left4
def F (n : Nat) (a1 : List (ByteArray × List (ByteArray × List ByteArray))) (left2 : Int) : Option Int :=
  if decide ((IntKind.i64.wrap (left2 - (List.length a1 : Int))) < 0) = true then
    some (-1)
  else
    l0 n a1 (fun left7 =>
      some left7) n (IntKind.i64.wrap (left2 - (List.length a1 : Int))) 0
noncomputable def code : Code := Try.f62.body.getD .skip
abbrev ash : List ASh := [.ro (.sl (.st (.pair (.str) (.sl (.st (.pair (.str) (.sl (.str)))))))), .ro (.int .i64)]
abbrev rsh : List RSh := [.ro (.int .i64)]
def ent (n : Nat) : FEnt := ⟨ash, rsh, fun v => F n v.1 v.2.1⟩
noncomputable def cx (n : Nat) : Ctx := mkCtx Try.prog TYS [(105, laws_szTypeDecl.ent n)]
noncomputable def d : FnD := ⟨code, 27, .nil, [(.tmp 4, .int .i64, .ro)]⟩
noncomputable def kr (n : Nat) (v : AVs ash) : Env → Option (RVs rsh) := endK (cx n) d (avEnc ash v) (rvDec rsh)
noncomputable def c0 : Code := (Code.l (Code.r (Code.l (Code.r (Code.r (Code.r code))))))
noncomputable def b0 : Code := Code.l c0
def an : An := .seq .nil (.seq .nil (.seq (.seq .nil (.cond (.seq .nil .nil) .nil)) (.seq (.seq .nil (.block (some [1]) (.cut 0 [0, 1, 5]))) (.seq .nil .nil))))
def an0 : An := .seq (.seq .nil (.cond .nil .nil)) (.seq (.block (some [0, 1, 5]) (.seq .nil (.seq .nil (.cond (.seq .nil .nil) .nil)))) .nil)
abbrev sh0 : ES := ⟨[(0, .v (.sl (.st (.pair (.str) (.sl (.st (.pair (.str) (.sl (.str))))))))), (1, .v (.int .i64)), (5, .v (.int .i64))], []⟩
abbrev sh0_0 : ES := ⟨[(1, .v (.int .i64))], []⟩
def T0 (n m : Nat) (e : Env) (kn : Env → Option (RVs rsh)) (kx : Nat → Env → Option (RVs rsh)) : Option (RVs rsh) := ES.on sh0 e fun x => l0 n x.1.1 (fun y0 => kx 0 (sh0_0.enc ((y0, ()), (())))) m x.1.2.1 x.1.2.2.1
def T (n : Nat) : Tab (RVs rsh) := fun j e kn kx => match j with
  | 0 => T0 n n e kn kx
  | _ => none
theorem co (n : Nat) : CtxOk (cx n) := mkCtx_cok TYS_ok
theorem mx (n : Nat) : (cx n).P.follows .mixedOrders = true := mkCtx_mix MIX
theorem mk (n : Nat) : MOk (cx n) := mkCtx_ok (mem_cons (laws_szTypeDecl.ok n) mem_nil)
theorem us0 : units b0 an0 = [] := by kernel_rfl
theorem e0 (n m : Nat) (v : AVs ash) (x : sh0.V) (kn : Env → Option (RVs rsh)) (kx : Nat → Env → Option (RVs rsh)) : aevT (cx n) 27 (T n) (kr n v) b0 an0 [(0, [1])] (meet (some [0, 1, 5]) fun e => T0 n m e kn kx) kx (sh0.enc x) = l0 n x.1.1 (fun y0 => kx 0 (sh0_0.enc ((y0, ()), (())))) (m + 1) x.1.2.1 x.1.2.2.1 := by kernel_rfl
theorem cl0 : c0 = .loop b0 := by kernel_rfl
theorem u0 (n : Nat) (v : AVs ash) : UnitOk (cx n) 27 (T n) (kr n v) 0 c0 := by
  rw [cl0]
  exact loop_unit (n := n) (co n) (mk n) (mx n) an0 [(0, [1])] [0, 1, 5] (T0 n) (fun _ _ _ => rfl) (fun e kn kx out h => by obtain ⟨x, _, h⟩ := ES.on_inv h; cases h) (fun m e kn kx out h => by obtain ⟨x, rfl, h⟩ := ES.on_inv h; exact (e0 n m v x kn kx).trans h) (units_of us0 (mem_nil))
theorem us : units code an = [(0, c0)] := by kernel_rfl
theorem eqn (n : Nat) (v : AVs ash) : fnEvT (cx n) d an (T n) (avEnc ash v) (rvDec rsh) = F n v.1 v.2.1 := by kernel_rfl
theorem ok (n : Nat) : EntOk Try.prog 62 (ent n) :=
  ent_ok (c := cx n) (e := ent n) (d := d) (an := an) (fn := Try.f62) (co n) (mk n) (mx n) (by kernel_rfl) (by kernel_rfl) (by kernel_rfl) (by kernel_rfl) (by kernel_rfl) (fun _ => T n) (fun v => units_of us (mem_cons (u0 n v) mem_nil)) (eqn n)
end laws_szTypeDeclS
/-! laws.szRelDecl -/
namespace laws_szRelDecl
def F (n : Nat) (a1 : ByteArray × (List ByteArray) × Int) (left2 : Int) : Option Int :=
  if decide ((IntKind.i64.wrap (left2 - (ByteArray.size a1.1 : Int))) < 0) = true then
    some (-1)
  else
    (laws_szStringS.F n a1.2.1 (IntKind.i64.wrap (left2 - (ByteArray.size a1.1 : Int)))).bind fun r3 =>
    if decide (r3 < 0) = true then
      some (-1)
    else
      some r3
noncomputable def code : Code := Try.f106.body.getD .skip
abbrev ash : List ASh := [.ro (.st (.pair (.str) (.pair (.sl (.str)) (.int .i64)))), .ro (.int .i64)]
abbrev rsh : List RSh := [.ro (.int .i64)]
def ent (n : Nat) : FEnt := ⟨ash, rsh, fun v => F n v.1 v.2.1⟩
noncomputable def cx (n : Nat) : Ctx := mkCtx Try.prog TYS [(120, laws_szStringS.ent n)]
noncomputable def d : FnD := ⟨code, 19, .nil, [(.tmp 4, .int .i64, .ro)]⟩
noncomputable def kr (n : Nat) (v : AVs ash) : Env → Option (RVs rsh) := endK (cx n) d (avEnc ash v) (rvDec rsh)
def an : An := .seq .nil (.seq .nil (.seq (.seq .nil (.cond (.seq .nil .nil) .nil)) (.seq .nil (.seq (.seq .nil (.cond (.seq .nil .nil) .nil)) (.seq .nil .nil)))))
def T (n : Nat) : Tab (RVs rsh) := fun j e kn kx => match j with
  | _ => none
theorem co (n : Nat) : CtxOk (cx n) := mkCtx_cok TYS_ok
theorem mx (n : Nat) : (cx n).P.follows .mixedOrders = true := mkCtx_mix MIX
theorem mk (n : Nat) : MOk (cx n) := mkCtx_ok (mem_cons (laws_szStringS.ok n) mem_nil)
theorem us : units code an = [] := by kernel_rfl
theorem eqn (n : Nat) (v : AVs ash) : fnEvT (cx n) d an (T n) (avEnc ash v) (rvDec rsh) = F n v.1 v.2.1 := by kernel_rfl
theorem ok (n : Nat) : EntOk Try.prog 106 (ent n) :=
  ent_ok (c := cx n) (e := ent n) (d := d) (an := an) (fn := Try.f106) (co n) (mk n) (mx n) (by kernel_rfl) (by kernel_rfl) (by kernel_rfl) (by kernel_rfl) (by kernel_rfl) (fun _ => T n) (fun v => units_of us (mem_nil)) (eqn n)
end laws_szRelDecl
/-! laws.szRelDeclS -/
namespace laws_szRelDeclS
def l0 (n : Nat) (a3 : List (ByteArray × (List ByteArray) × Int)) (K0 : Int → Option Int) : Nat → Int → Int → Option Int
  | 0, _, _ => none
  | k + 1, left4, i5 =>
    if decide (i5 < (List.length a3 : Int)) = true then
      if 0 ≤ i5 ∧ i5 < (List.length a3 : Int) then
        (laws_szRelDecl.F n (List.getD a3 (Int.toNat i5) (ByteArray.empty, ([], 0))) left4).bind fun r6 =>
        if decide (r6 < 0) = true then
          some (-1)
        else
          l0 n a3 K0 k r6 (IntKind.i64.wrap (i5 + 1))
      else
        none
    else
      K0 left4
def F (n : Nat) (a1 : List (ByteArray × (List ByteArray) × Int)) (left2 : Int) : Option Int :=
  if decide ((IntKind.i64.wrap (left2 - (List.length a1 : Int))) < 0) = true then
    some (-1)
  else
    l0 n a1 (fun left7 =>
      some left7) n (IntKind.i64.wrap (left2 - (List.length a1 : Int))) 0
noncomputable def code : Code := Try.f63.body.getD .skip
abbrev ash : List ASh := [.ro (.sl (.st (.pair (.str) (.pair (.sl (.str)) (.int .i64))))), .ro (.int .i64)]
abbrev rsh : List RSh := [.ro (.int .i64)]
def ent (n : Nat) : FEnt := ⟨ash, rsh, fun v => F n v.1 v.2.1⟩
noncomputable def cx (n : Nat) : Ctx := mkCtx Try.prog TYS [(106, laws_szRelDecl.ent n)]
noncomputable def d : FnD := ⟨code, 27, .nil, [(.tmp 4, .int .i64, .ro)]⟩
noncomputable def kr (n : Nat) (v : AVs ash) : Env → Option (RVs rsh) := endK (cx n) d (avEnc ash v) (rvDec rsh)
noncomputable def c0 : Code := (Code.l (Code.r (Code.l (Code.r (Code.r (Code.r code))))))
noncomputable def b0 : Code := Code.l c0
def an : An := .seq .nil (.seq .nil (.seq (.seq .nil (.cond (.seq .nil .nil) .nil)) (.seq (.seq .nil (.block (some [1]) (.cut 0 [0, 1, 5]))) (.seq .nil .nil))))
def an0 : An := .seq (.seq .nil (.cond .nil .nil)) (.seq (.block (some [0, 1, 5]) (.seq .nil (.seq .nil (.cond (.seq .nil .nil) .nil)))) .nil)
abbrev sh0 : ES := ⟨[(0, .v (.sl (.st (.pair (.str) (.pair (.sl (.str)) (.int .i64)))))), (1, .v (.int .i64)), (5, .v (.int .i64))], []⟩
abbrev sh0_0 : ES := ⟨[(1, .v (.int .i64))], []⟩
def T0 (n m : Nat) (e : Env) (kn : Env → Option (RVs rsh)) (kx : Nat → Env → Option (RVs rsh)) : Option (RVs rsh) := ES.on sh0 e fun x => l0 n x.1.1 (fun y0 => kx 0 (sh0_0.enc ((y0, ()), (())))) m x.1.2.1 x.1.2.2.1
def T (n : Nat) : Tab (RVs rsh) := fun j e kn kx => match j with
  | 0 => T0 n n e kn kx
  | _ => none
theorem co (n : Nat) : CtxOk (cx n) := mkCtx_cok TYS_ok
theorem mx (n : Nat) : (cx n).P.follows .mixedOrders = true := mkCtx_mix MIX
theorem mk (n : Nat) : MOk (cx n) := mkCtx_ok (mem_cons (laws_szRelDecl.ok n) mem_nil)
theorem us0 : units b0 an0 = [] := by kernel_rfl
theorem e0 (n m : Nat) (v : AVs ash) (x : sh0.V) (kn : Env → Option (RVs rsh)) (kx : Nat → Env → Option (RVs rsh)) : aevT (cx n) 27 (T n) (kr n v) b0 an0 [(0, [1])] (meet (some [0, 1, 5]) fun e => T0 n m e kn kx) kx (sh0.enc x) = l0 n x.1.1 (fun y0 => kx 0 (sh0_0.enc ((y0, ()), (())))) (m + 1) x.1.2.1 x.1.2.2.1 := by kernel_rfl
theorem cl0 : c0 = .loop b0 := by kernel_rfl
theorem u0 (n : Nat) (v : AVs ash) : UnitOk (cx n) 27 (T n) (kr n v) 0 c0 := by
  rw [cl0]
  exact loop_unit (n := n) (co n) (mk n) (mx n) an0 [(0, [1])] [0, 1, 5] (T0 n) (fun _ _ _ => rfl) (fun e kn kx out h => by obtain ⟨x, _, h⟩ := ES.on_inv h; cases h) (fun m e kn kx out h => by obtain ⟨x, rfl, h⟩ := ES.on_inv h; exact (e0 n m v x kn kx).trans h) (units_of us0 (mem_nil))
theorem us : units code an = [(0, c0)] := by kernel_rfl
theorem eqn (n : Nat) (v : AVs ash) : fnEvT (cx n) d an (T n) (avEnc ash v) (rvDec rsh) = F n v.1 v.2.1 := by kernel_rfl
theorem ok (n : Nat) : EntOk Try.prog 63 (ent n) :=
  ent_ok (c := cx n) (e := ent n) (d := d) (an := an) (fn := Try.f63) (co n) (mk n) (mx n) (by kernel_rfl) (by kernel_rfl) (by kernel_rfl) (by kernel_rfl) (by kernel_rfl) (fun _ => T n) (fun v => units_of us (mem_cons (u0 n v) mem_nil)) (eqn n)
end laws_szRelDeclS
/-! laws.szIntS -/
namespace laws_szIntS
def F (n : Nat) (a1 : List Int) (left2 : Int) : Option Int :=
  if decide ((IntKind.i64.wrap (left2 - (List.length a1 : Int))) < 0) = true then
    some (-1)
  else
    some (IntKind.i64.wrap (left2 - (List.length a1 : Int)))
noncomputable def code : Code := Try.f92.body.getD .skip
abbrev ash : List ASh := [.ro (.sl (.int .i64)), .ro (.int .i64)]
abbrev rsh : List RSh := [.ro (.int .i64)]
def ent (n : Nat) : FEnt := ⟨ash, rsh, fun v => F n v.1 v.2.1⟩
noncomputable def cx (n : Nat) : Ctx := mkCtx Try.prog TYS []
noncomputable def d : FnD := ⟨code, 12, .nil, [(.tmp 4, .int .i64, .ro)]⟩
noncomputable def kr (n : Nat) (v : AVs ash) : Env → Option (RVs rsh) := endK (cx n) d (avEnc ash v) (rvDec rsh)
def an : An := .seq .nil (.seq .nil (.seq (.seq .nil (.cond (.seq .nil .nil) .nil)) (.seq .nil .nil)))
def T (n : Nat) : Tab (RVs rsh) := fun j e kn kx => match j with
  | _ => none
theorem co (n : Nat) : CtxOk (cx n) := mkCtx_cok TYS_ok
theorem mx (n : Nat) : (cx n).P.follows .mixedOrders = true := mkCtx_mix MIX
theorem mk (n : Nat) : MOk (cx n) := mkCtx_ok (mem_nil)
theorem us : units code an = [] := by kernel_rfl
theorem eqn (n : Nat) (v : AVs ash) : fnEvT (cx n) d an (T n) (avEnc ash v) (rvDec rsh) = F n v.1 v.2.1 := by kernel_rfl
theorem ok (n : Nat) : EntOk Try.prog 92 (ent n) :=
  ent_ok (c := cx n) (e := ent n) (d := d) (an := an) (fn := Try.f92) (co n) (mk n) (mx n) (by kernel_rfl) (by kernel_rfl) (by kernel_rfl) (by kernel_rfl) (by kernel_rfl) (fun _ => T n) (fun v => units_of us (mem_nil)) (eqn n)
end laws_szIntS
/-! laws.szExp -/
namespace laws_szExp
def F (n : Nat) (a1 : Int × ByteArray × List Int) (left2 : Int) : Option Int :=
  if decide ((IntKind.i64.wrap (left2 - (ByteArray.size a1.2.1 : Int))) < 0) = true then
    some (-1)
  else
    (laws_szIntS.F n a1.2.2 (IntKind.i64.wrap (left2 - (ByteArray.size a1.2.1 : Int)))).bind fun r3 =>
    if decide (r3 < 0) = true then
      some (-1)
    else
      some r3
noncomputable def code : Code := Try.f91.body.getD .skip
abbrev ash : List ASh := [.ro (.st (.pair (.int .i64) (.pair (.str) (.sl (.int .i64))))), .ro (.int .i64)]
abbrev rsh : List RSh := [.ro (.int .i64)]
def ent (n : Nat) : FEnt := ⟨ash, rsh, fun v => F n v.1 v.2.1⟩
noncomputable def cx (n : Nat) : Ctx := mkCtx Try.prog TYS [(92, laws_szIntS.ent n)]
noncomputable def d : FnD := ⟨code, 19, .nil, [(.tmp 4, .int .i64, .ro)]⟩
noncomputable def kr (n : Nat) (v : AVs ash) : Env → Option (RVs rsh) := endK (cx n) d (avEnc ash v) (rvDec rsh)
def an : An := .seq .nil (.seq .nil (.seq (.seq .nil (.cond (.seq .nil .nil) .nil)) (.seq .nil (.seq (.seq .nil (.cond (.seq .nil .nil) .nil)) (.seq .nil .nil)))))
def T (n : Nat) : Tab (RVs rsh) := fun j e kn kx => match j with
  | _ => none
theorem co (n : Nat) : CtxOk (cx n) := mkCtx_cok TYS_ok
theorem mx (n : Nat) : (cx n).P.follows .mixedOrders = true := mkCtx_mix MIX
theorem mk (n : Nat) : MOk (cx n) := mkCtx_ok (mem_cons (laws_szIntS.ok n) mem_nil)
theorem us : units code an = [] := by kernel_rfl
theorem eqn (n : Nat) (v : AVs ash) : fnEvT (cx n) d an (T n) (avEnc ash v) (rvDec rsh) = F n v.1 v.2.1 := by kernel_rfl
theorem ok (n : Nat) : EntOk Try.prog 91 (ent n) :=
  ent_ok (c := cx n) (e := ent n) (d := d) (an := an) (fn := Try.f91) (co n) (mk n) (mx n) (by kernel_rfl) (by kernel_rfl) (by kernel_rfl) (by kernel_rfl) (by kernel_rfl) (fun _ => T n) (fun v => units_of us (mem_nil)) (eqn n)
end laws_szExp
/-! laws.szExpS -/
namespace laws_szExpS
def l0 (n : Nat) (a3 : List (Int × ByteArray × List Int)) (K0 : Int → Option Int) : Nat → Int → Int → Option Int
  | 0, _, _ => none
  | k + 1, left4, i5 =>
    if decide (i5 < (List.length a3 : Int)) = true then
      if 0 ≤ i5 ∧ i5 < (List.length a3 : Int) then
        (laws_szExp.F n (List.getD a3 (Int.toNat i5) (0, (ByteArray.empty, []))) left4).bind fun r6 =>
        if decide (r6 < 0) = true then
          some (-1)
        else
          l0 n a3 K0 k r6 (IntKind.i64.wrap (i5 + 1))
      else
        none
    else
      K0 left4
def F (n : Nat) (a1 : List (Int × ByteArray × List Int)) (left2 : Int) : Option Int :=
  if decide ((IntKind.i64.wrap (left2 - (List.length a1 : Int))) < 0) = true then
    some (-1)
  else
    l0 n a1 (fun left7 =>
      some left7) n (IntKind.i64.wrap (left2 - (List.length a1 : Int))) 0
noncomputable def code : Code := Try.f49.body.getD .skip
abbrev ash : List ASh := [.ro (.sl (.st (.pair (.int .i64) (.pair (.str) (.sl (.int .i64)))))), .ro (.int .i64)]
abbrev rsh : List RSh := [.ro (.int .i64)]
def ent (n : Nat) : FEnt := ⟨ash, rsh, fun v => F n v.1 v.2.1⟩
noncomputable def cx (n : Nat) : Ctx := mkCtx Try.prog TYS [(91, laws_szExp.ent n)]
noncomputable def d : FnD := ⟨code, 27, .nil, [(.tmp 4, .int .i64, .ro)]⟩
noncomputable def kr (n : Nat) (v : AVs ash) : Env → Option (RVs rsh) := endK (cx n) d (avEnc ash v) (rvDec rsh)
noncomputable def c0 : Code := (Code.l (Code.r (Code.l (Code.r (Code.r (Code.r code))))))
noncomputable def b0 : Code := Code.l c0
def an : An := .seq .nil (.seq .nil (.seq (.seq .nil (.cond (.seq .nil .nil) .nil)) (.seq (.seq .nil (.block (some [1]) (.cut 0 [0, 1, 5]))) (.seq .nil .nil))))
def an0 : An := .seq (.seq .nil (.cond .nil .nil)) (.seq (.block (some [0, 1, 5]) (.seq .nil (.seq .nil (.cond (.seq .nil .nil) .nil)))) .nil)
abbrev sh0 : ES := ⟨[(0, .v (.sl (.st (.pair (.int .i64) (.pair (.str) (.sl (.int .i64))))))), (1, .v (.int .i64)), (5, .v (.int .i64))], []⟩
abbrev sh0_0 : ES := ⟨[(1, .v (.int .i64))], []⟩
def T0 (n m : Nat) (e : Env) (kn : Env → Option (RVs rsh)) (kx : Nat → Env → Option (RVs rsh)) : Option (RVs rsh) := ES.on sh0 e fun x => l0 n x.1.1 (fun y0 => kx 0 (sh0_0.enc ((y0, ()), (())))) m x.1.2.1 x.1.2.2.1
def T (n : Nat) : Tab (RVs rsh) := fun j e kn kx => match j with
  | 0 => T0 n n e kn kx
  | _ => none
theorem co (n : Nat) : CtxOk (cx n) := mkCtx_cok TYS_ok
theorem mx (n : Nat) : (cx n).P.follows .mixedOrders = true := mkCtx_mix MIX
theorem mk (n : Nat) : MOk (cx n) := mkCtx_ok (mem_cons (laws_szExp.ok n) mem_nil)
theorem us0 : units b0 an0 = [] := by kernel_rfl
theorem e0 (n m : Nat) (v : AVs ash) (x : sh0.V) (kn : Env → Option (RVs rsh)) (kx : Nat → Env → Option (RVs rsh)) : aevT (cx n) 27 (T n) (kr n v) b0 an0 [(0, [1])] (meet (some [0, 1, 5]) fun e => T0 n m e kn kx) kx (sh0.enc x) = l0 n x.1.1 (fun y0 => kx 0 (sh0_0.enc ((y0, ()), (())))) (m + 1) x.1.2.1 x.1.2.2.1 := by kernel_rfl
theorem cl0 : c0 = .loop b0 := by kernel_rfl
theorem u0 (n : Nat) (v : AVs ash) : UnitOk (cx n) 27 (T n) (kr n v) 0 c0 := by
  rw [cl0]
  exact loop_unit (n := n) (co n) (mk n) (mx n) an0 [(0, [1])] [0, 1, 5] (T0 n) (fun _ _ _ => rfl) (fun e kn kx out h => by obtain ⟨x, _, h⟩ := ES.on_inv h; cases h) (fun m e kn kx out h => by obtain ⟨x, rfl, h⟩ := ES.on_inv h; exact (e0 n m v x kn kx).trans h) (units_of us0 (mem_nil))
theorem us : units code an = [(0, c0)] := by kernel_rfl
theorem eqn (n : Nat) (v : AVs ash) : fnEvT (cx n) d an (T n) (avEnc ash v) (rvDec rsh) = F n v.1 v.2.1 := by kernel_rfl
theorem ok (n : Nat) : EntOk Try.prog 49 (ent n) :=
  ent_ok (c := cx n) (e := ent n) (d := d) (an := an) (fn := Try.f49) (co n) (mk n) (mx n) (by kernel_rfl) (by kernel_rfl) (by kernel_rfl) (by kernel_rfl) (by kernel_rfl) (fun _ => T n) (fun v => units_of us (mem_cons (u0 n v) mem_nil)) (eqn n)
end laws_szExpS
/-! laws.szLit -/
namespace laws_szLit
def F (n : Nat) (a1 : Int × ByteArray × List Int) (left2 : Int) : Option Int :=
  if decide ((IntKind.i64.wrap (left2 - (ByteArray.size a1.2.1 : Int))) < 0) = true then
    some (-1)
  else
    (laws_szIntS.F n a1.2.2 (IntKind.i64.wrap (left2 - (ByteArray.size a1.2.1 : Int)))).bind fun r3 =>
    if decide (r3 < 0) = true then
      some (-1)
    else
      some r3
noncomputable def code : Code := Try.f50.body.getD .skip
abbrev ash : List ASh := [.ro (.st (.pair (.int .i64) (.pair (.str) (.sl (.int .i64))))), .ro (.int .i64)]
abbrev rsh : List RSh := [.ro (.int .i64)]
def ent (n : Nat) : FEnt := ⟨ash, rsh, fun v => F n v.1 v.2.1⟩
noncomputable def cx (n : Nat) : Ctx := mkCtx Try.prog TYS [(92, laws_szIntS.ent n)]
noncomputable def d : FnD := ⟨code, 19, .nil, [(.tmp 4, .int .i64, .ro)]⟩
noncomputable def kr (n : Nat) (v : AVs ash) : Env → Option (RVs rsh) := endK (cx n) d (avEnc ash v) (rvDec rsh)
def an : An := .seq .nil (.seq .nil (.seq (.seq .nil (.cond (.seq .nil .nil) .nil)) (.seq .nil (.seq (.seq .nil (.cond (.seq .nil .nil) .nil)) (.seq .nil .nil)))))
def T (n : Nat) : Tab (RVs rsh) := fun j e kn kx => match j with
  | _ => none
theorem co (n : Nat) : CtxOk (cx n) := mkCtx_cok TYS_ok
theorem mx (n : Nat) : (cx n).P.follows .mixedOrders = true := mkCtx_mix MIX
theorem mk (n : Nat) : MOk (cx n) := mkCtx_ok (mem_cons (laws_szIntS.ok n) mem_nil)
theorem us : units code an = [] := by kernel_rfl
theorem eqn (n : Nat) (v : AVs ash) : fnEvT (cx n) d an (T n) (avEnc ash v) (rvDec rsh) = F n v.1 v.2.1 := by kernel_rfl
theorem ok (n : Nat) : EntOk Try.prog 50 (ent n) :=
  ent_ok (c := cx n) (e := ent n) (d := d) (an := an) (fn := Try.f50) (co n) (mk n) (mx n) (by kernel_rfl) (by kernel_rfl) (by kernel_rfl) (by kernel_rfl) (by kernel_rfl) (fun _ => T n) (fun v => units_of us (mem_nil)) (eqn n)
end laws_szLit
/-! laws.szLitS -/
namespace laws_szLitS
def l0 (n : Nat) (a3 : List (Int × ByteArray × List Int)) (K0 : Int → Option Int) : Nat → Int → Int → Option Int
  | 0, _, _ => none
  | k + 1, left4, i5 =>
    if decide (i5 < (List.length a3 : Int)) = true then
      if 0 ≤ i5 ∧ i5 < (List.length a3 : Int) then
        (laws_szLit.F n (List.getD a3 (Int.toNat i5) (0, (ByteArray.empty, []))) left4).bind fun r6 =>
        if decide (r6 < 0) = true then
          some (-1)
        else
          l0 n a3 K0 k r6 (IntKind.i64.wrap (i5 + 1))
      else
        none
    else
      K0 left4
def F (n : Nat) (a1 : List (Int × ByteArray × List Int)) (left2 : Int) : Option Int :=
  if decide ((IntKind.i64.wrap (left2 - (List.length a1 : Int))) < 0) = true then
    some (-1)
  else
    l0 n a1 (fun left7 =>
      some left7) n (IntKind.i64.wrap (left2 - (List.length a1 : Int))) 0
noncomputable def code : Code := Try.f51.body.getD .skip
abbrev ash : List ASh := [.ro (.sl (.st (.pair (.int .i64) (.pair (.str) (.sl (.int .i64)))))), .ro (.int .i64)]
abbrev rsh : List RSh := [.ro (.int .i64)]
def ent (n : Nat) : FEnt := ⟨ash, rsh, fun v => F n v.1 v.2.1⟩
noncomputable def cx (n : Nat) : Ctx := mkCtx Try.prog TYS [(50, laws_szLit.ent n)]
noncomputable def d : FnD := ⟨code, 27, .nil, [(.tmp 4, .int .i64, .ro)]⟩
noncomputable def kr (n : Nat) (v : AVs ash) : Env → Option (RVs rsh) := endK (cx n) d (avEnc ash v) (rvDec rsh)
noncomputable def c0 : Code := (Code.l (Code.r (Code.l (Code.r (Code.r (Code.r code))))))
noncomputable def b0 : Code := Code.l c0
def an : An := .seq .nil (.seq .nil (.seq (.seq .nil (.cond (.seq .nil .nil) .nil)) (.seq (.seq .nil (.block (some [1]) (.cut 0 [0, 1, 5]))) (.seq .nil .nil))))
def an0 : An := .seq (.seq .nil (.cond .nil .nil)) (.seq (.block (some [0, 1, 5]) (.seq .nil (.seq .nil (.cond (.seq .nil .nil) .nil)))) .nil)
abbrev sh0 : ES := ⟨[(0, .v (.sl (.st (.pair (.int .i64) (.pair (.str) (.sl (.int .i64))))))), (1, .v (.int .i64)), (5, .v (.int .i64))], []⟩
abbrev sh0_0 : ES := ⟨[(1, .v (.int .i64))], []⟩
def T0 (n m : Nat) (e : Env) (kn : Env → Option (RVs rsh)) (kx : Nat → Env → Option (RVs rsh)) : Option (RVs rsh) := ES.on sh0 e fun x => l0 n x.1.1 (fun y0 => kx 0 (sh0_0.enc ((y0, ()), (())))) m x.1.2.1 x.1.2.2.1
def T (n : Nat) : Tab (RVs rsh) := fun j e kn kx => match j with
  | 0 => T0 n n e kn kx
  | _ => none
theorem co (n : Nat) : CtxOk (cx n) := mkCtx_cok TYS_ok
theorem mx (n : Nat) : (cx n).P.follows .mixedOrders = true := mkCtx_mix MIX
theorem mk (n : Nat) : MOk (cx n) := mkCtx_ok (mem_cons (laws_szLit.ok n) mem_nil)
theorem us0 : units b0 an0 = [] := by kernel_rfl
theorem e0 (n m : Nat) (v : AVs ash) (x : sh0.V) (kn : Env → Option (RVs rsh)) (kx : Nat → Env → Option (RVs rsh)) : aevT (cx n) 27 (T n) (kr n v) b0 an0 [(0, [1])] (meet (some [0, 1, 5]) fun e => T0 n m e kn kx) kx (sh0.enc x) = l0 n x.1.1 (fun y0 => kx 0 (sh0_0.enc ((y0, ()), (())))) (m + 1) x.1.2.1 x.1.2.2.1 := by kernel_rfl
theorem cl0 : c0 = .loop b0 := by kernel_rfl
theorem u0 (n : Nat) (v : AVs ash) : UnitOk (cx n) 27 (T n) (kr n v) 0 c0 := by
  rw [cl0]
  exact loop_unit (n := n) (co n) (mk n) (mx n) an0 [(0, [1])] [0, 1, 5] (T0 n) (fun _ _ _ => rfl) (fun e kn kx out h => by obtain ⟨x, _, h⟩ := ES.on_inv h; cases h) (fun m e kn kx out h => by obtain ⟨x, rfl, h⟩ := ES.on_inv h; exact (e0 n m v x kn kx).trans h) (units_of us0 (mem_nil))
theorem us : units code an = [(0, c0)] := by kernel_rfl
theorem eqn (n : Nat) (v : AVs ash) : fnEvT (cx n) d an (T n) (avEnc ash v) (rvDec rsh) = F n v.1 v.2.1 := by kernel_rfl
theorem ok (n : Nat) : EntOk Try.prog 51 (ent n) :=
  ent_ok (c := cx n) (e := ent n) (d := d) (an := an) (fn := Try.f51) (co n) (mk n) (mx n) (by kernel_rfl) (by kernel_rfl) (by kernel_rfl) (by kernel_rfl) (by kernel_rfl) (fun _ => T n) (fun v => units_of us (mem_cons (u0 n v) mem_nil)) (eqn n)
end laws_szLitS
/-! laws.szRule -/
namespace laws_szRule
def F (n : Nat) (a1 : (List (Int × ByteArray × List Int)) × (Int × ByteArray × List Int) × List (Int × ByteArray × List Int)) (left2 : Int) : Option Int :=
  (laws_szExpS.F n a1.1 left2).bind fun r3 =>
  if decide (r3 < 0) = true then
    some (-1)
  else
    (laws_szLit.F n a1.2.1 r3).bind fun r4 =>
    if decide (r4 < 0) = true then
      some (-1)
    else
      (laws_szLitS.F n a1.2.2 r4).bind fun r5 =>
      if decide (r5 < 0) = true then
        some (-1)
      else
        some r5
noncomputable def code : Code := Try.f18.body.getD .skip
abbrev ash : List ASh := [.ro (.st (.pair (.sl (.st (.pair (.int .i64) (.pair (.str) (.sl (.int .i64)))))) (.pair (.st (.pair (.int .i64) (.pair (.str) (.sl (.int .i64))))) (.sl (.st (.pair (.int .i64) (.pair (.str) (.sl (.int .i64))))))))), .ro (.int .i64)]
abbrev rsh : List RSh := [.ro (.int .i64)]
def ent (n : Nat) : FEnt := ⟨ash, rsh, fun v => F n v.1 v.2.1⟩
noncomputable def cx (n : Nat) : Ctx := mkCtx Try.prog TYS [(49, laws_szExpS.ent n), (50, laws_szLit.ent n), (51, laws_szLitS.ent n)]
noncomputable def d : FnD := ⟨code, 24, .nil, [(.tmp 4, .int .i64, .ro)]⟩
noncomputable def kr (n : Nat) (v : AVs ash) : Env → Option (RVs rsh) := endK (cx n) d (avEnc ash v) (rvDec rsh)
def an : An := .seq .nil (.seq .nil (.seq (.seq .nil (.cond (.seq .nil .nil) .nil)) (.seq .nil (.seq (.seq .nil (.cond (.seq .nil .nil) .nil)) (.seq .nil (.seq (.seq .nil (.cond (.seq .nil .nil) .nil)) (.seq .nil .nil)))))))
def T (n : Nat) : Tab (RVs rsh) := fun j e kn kx => match j with
  | _ => none
theorem co (n : Nat) : CtxOk (cx n) := mkCtx_cok TYS_ok
theorem mx (n : Nat) : (cx n).P.follows .mixedOrders = true := mkCtx_mix MIX
theorem mk (n : Nat) : MOk (cx n) := mkCtx_ok (mem_cons (laws_szExpS.ok n) (mem_cons (laws_szLit.ok n) (mem_cons (laws_szLitS.ok n) mem_nil)))
theorem us : units code an = [] := by kernel_rfl
theorem eqn (n : Nat) (v : AVs ash) : fnEvT (cx n) d an (T n) (avEnc ash v) (rvDec rsh) = F n v.1 v.2.1 := by kernel_rfl
theorem ok (n : Nat) : EntOk Try.prog 18 (ent n) :=
  ent_ok (c := cx n) (e := ent n) (d := d) (an := an) (fn := Try.f18) (co n) (mk n) (mx n) (by kernel_rfl) (by kernel_rfl) (by kernel_rfl) (by kernel_rfl) (by kernel_rfl) (fun _ => T n) (fun v => units_of us (mem_nil)) (eqn n)
end laws_szRule
/-! laws.szRuleS -/
namespace laws_szRuleS
def l0 (n : Nat) (a3 : List ((List (Int × ByteArray × List Int)) × (Int × ByteArray × List Int) × List (Int × ByteArray × List Int))) (K0 : Int → Option Int) : Nat → Int → Int → Option Int
  | 0, _, _ => none
  | k + 1, left4, i5 =>
    if decide (i5 < (List.length a3 : Int)) = true then
      if 0 ≤ i5 ∧ i5 < (List.length a3 : Int) then
        (laws_szRule.F n (List.getD a3 (Int.toNat i5) ([], ((0, (ByteArray.empty, [])), []))) left4).bind fun r6 =>
        if decide (r6 < 0) = true then
          some (-1)
        else
          l0 n a3 K0 k r6 (IntKind.i64.wrap (i5 + 1))
      else
        none
    else
      K0 left4
def F (n : Nat) (a1 : List ((List (Int × ByteArray × List Int)) × (Int × ByteArray × List Int) × List (Int × ByteArray × List Int))) (left2 : Int) : Option Int :=
  if decide ((IntKind.i64.wrap (left2 - (List.length a1 : Int))) < 0) = true then
    some (-1)
  else
    l0 n a1 (fun left7 =>
      some left7) n (IntKind.i64.wrap (left2 - (List.length a1 : Int))) 0
noncomputable def code : Code := Try.f64.body.getD .skip
abbrev ash : List ASh := [.ro (.sl (.st (.pair (.sl (.st (.pair (.int .i64) (.pair (.str) (.sl (.int .i64)))))) (.pair (.st (.pair (.int .i64) (.pair (.str) (.sl (.int .i64))))) (.sl (.st (.pair (.int .i64) (.pair (.str) (.sl (.int .i64)))))))))), .ro (.int .i64)]
abbrev rsh : List RSh := [.ro (.int .i64)]
def ent (n : Nat) : FEnt := ⟨ash, rsh, fun v => F n v.1 v.2.1⟩
noncomputable def cx (n : Nat) : Ctx := mkCtx Try.prog TYS [(18, laws_szRule.ent n)]
noncomputable def d : FnD := ⟨code, 27, .nil, [(.tmp 4, .int .i64, .ro)]⟩
noncomputable def kr (n : Nat) (v : AVs ash) : Env → Option (RVs rsh) := endK (cx n) d (avEnc ash v) (rvDec rsh)
noncomputable def c0 : Code := (Code.l (Code.r (Code.l (Code.r (Code.r (Code.r code))))))
noncomputable def b0 : Code := Code.l c0
def an : An := .seq .nil (.seq .nil (.seq (.seq .nil (.cond (.seq .nil .nil) .nil)) (.seq (.seq .nil (.block (some [1]) (.cut 0 [0, 1, 5]))) (.seq .nil .nil))))
def an0 : An := .seq (.seq .nil (.cond .nil .nil)) (.seq (.block (some [0, 1, 5]) (.seq .nil (.seq .nil (.cond (.seq .nil .nil) .nil)))) .nil)
abbrev sh0 : ES := ⟨[(0, .v (.sl (.st (.pair (.sl (.st (.pair (.int .i64) (.pair (.str) (.sl (.int .i64)))))) (.pair (.st (.pair (.int .i64) (.pair (.str) (.sl (.int .i64))))) (.sl (.st (.pair (.int .i64) (.pair (.str) (.sl (.int .i64))))))))))), (1, .v (.int .i64)), (5, .v (.int .i64))], []⟩
abbrev sh0_0 : ES := ⟨[(1, .v (.int .i64))], []⟩
def T0 (n m : Nat) (e : Env) (kn : Env → Option (RVs rsh)) (kx : Nat → Env → Option (RVs rsh)) : Option (RVs rsh) := ES.on sh0 e fun x => l0 n x.1.1 (fun y0 => kx 0 (sh0_0.enc ((y0, ()), (())))) m x.1.2.1 x.1.2.2.1
def T (n : Nat) : Tab (RVs rsh) := fun j e kn kx => match j with
  | 0 => T0 n n e kn kx
  | _ => none
theorem co (n : Nat) : CtxOk (cx n) := mkCtx_cok TYS_ok
theorem mx (n : Nat) : (cx n).P.follows .mixedOrders = true := mkCtx_mix MIX
theorem mk (n : Nat) : MOk (cx n) := mkCtx_ok (mem_cons (laws_szRule.ok n) mem_nil)
theorem us0 : units b0 an0 = [] := by kernel_rfl
theorem e0 (n m : Nat) (v : AVs ash) (x : sh0.V) (kn : Env → Option (RVs rsh)) (kx : Nat → Env → Option (RVs rsh)) : aevT (cx n) 27 (T n) (kr n v) b0 an0 [(0, [1])] (meet (some [0, 1, 5]) fun e => T0 n m e kn kx) kx (sh0.enc x) = l0 n x.1.1 (fun y0 => kx 0 (sh0_0.enc ((y0, ()), (())))) (m + 1) x.1.2.1 x.1.2.2.1 := by kernel_rfl
theorem cl0 : c0 = .loop b0 := by kernel_rfl
theorem u0 (n : Nat) (v : AVs ash) : UnitOk (cx n) 27 (T n) (kr n v) 0 c0 := by
  rw [cl0]
  exact loop_unit (n := n) (co n) (mk n) (mx n) an0 [(0, [1])] [0, 1, 5] (T0 n) (fun _ _ _ => rfl) (fun e kn kx out h => by obtain ⟨x, _, h⟩ := ES.on_inv h; cases h) (fun m e kn kx out h => by obtain ⟨x, rfl, h⟩ := ES.on_inv h; exact (e0 n m v x kn kx).trans h) (units_of us0 (mem_nil))
theorem us : units code an = [(0, c0)] := by kernel_rfl
theorem eqn (n : Nat) (v : AVs ash) : fnEvT (cx n) d an (T n) (avEnc ash v) (rvDec rsh) = F n v.1 v.2.1 := by kernel_rfl
theorem ok (n : Nat) : EntOk Try.prog 64 (ent n) :=
  ent_ok (c := cx n) (e := ent n) (d := d) (an := an) (fn := Try.f64) (co n) (mk n) (mx n) (by kernel_rfl) (by kernel_rfl) (by kernel_rfl) (by kernel_rfl) (by kernel_rfl) (fun _ => T n) (fun v => units_of us (mem_cons (u0 n v) mem_nil)) (eqn n)
end laws_szRuleS
/-! laws.szProg -/
namespace laws_szProg
def F (n : Nat) (a1 : (List (ByteArray × List (ByteArray × List ByteArray))) × (List (ByteArray × (List ByteArray) × Int)) × List ((List (Int × ByteArray × List Int)) × (Int × ByteArray × List Int) × List (Int × ByteArray × List Int))) (left2 : Int) : Option Int :=
  (laws_szTypeDeclS.F n a1.1 left2).bind fun r3 =>
  if decide (r3 < 0) = true then
    some (-1)
  else
    (laws_szRelDeclS.F n a1.2.1 r3).bind fun r4 =>
    if decide (r4 < 0) = true then
      some (-1)
    else
      (laws_szRuleS.F n a1.2.2 r4).bind fun r5 =>
      if decide (r5 < 0) = true then
        some (-1)
      else
        some r5
noncomputable def code : Code := Try.f23.body.getD .skip
abbrev ash : List ASh := [.ro (.st (.pair (.sl (.st (.pair (.str) (.sl (.st (.pair (.str) (.sl (.str)))))))) (.pair (.sl (.st (.pair (.str) (.pair (.sl (.str)) (.int .i64))))) (.sl (.st (.pair (.sl (.st (.pair (.int .i64) (.pair (.str) (.sl (.int .i64)))))) (.pair (.st (.pair (.int .i64) (.pair (.str) (.sl (.int .i64))))) (.sl (.st (.pair (.int .i64) (.pair (.str) (.sl (.int .i64))))))))))))), .ro (.int .i64)]
abbrev rsh : List RSh := [.ro (.int .i64)]
def ent (n : Nat) : FEnt := ⟨ash, rsh, fun v => F n v.1 v.2.1⟩
noncomputable def cx (n : Nat) : Ctx := mkCtx Try.prog TYS [(62, laws_szTypeDeclS.ent n), (63, laws_szRelDeclS.ent n), (64, laws_szRuleS.ent n)]
noncomputable def d : FnD := ⟨code, 24, .nil, [(.tmp 4, .int .i64, .ro)]⟩
noncomputable def kr (n : Nat) (v : AVs ash) : Env → Option (RVs rsh) := endK (cx n) d (avEnc ash v) (rvDec rsh)
def an : An := .seq .nil (.seq .nil (.seq (.seq .nil (.cond (.seq .nil .nil) .nil)) (.seq .nil (.seq (.seq .nil (.cond (.seq .nil .nil) .nil)) (.seq .nil (.seq (.seq .nil (.cond (.seq .nil .nil) .nil)) (.seq .nil .nil)))))))
def T (n : Nat) : Tab (RVs rsh) := fun j e kn kx => match j with
  | _ => none
theorem co (n : Nat) : CtxOk (cx n) := mkCtx_cok TYS_ok
theorem mx (n : Nat) : (cx n).P.follows .mixedOrders = true := mkCtx_mix MIX
theorem mk (n : Nat) : MOk (cx n) := mkCtx_ok (mem_cons (laws_szTypeDeclS.ok n) (mem_cons (laws_szRelDeclS.ok n) (mem_cons (laws_szRuleS.ok n) mem_nil)))
theorem us : units code an = [] := by kernel_rfl
theorem eqn (n : Nat) (v : AVs ash) : fnEvT (cx n) d an (T n) (avEnc ash v) (rvDec rsh) = F n v.1 v.2.1 := by kernel_rfl
theorem ok (n : Nat) : EntOk Try.prog 23 (ent n) :=
  ent_ok (c := cx n) (e := ent n) (d := d) (an := an) (fn := Try.f23) (co n) (mk n) (mx n) (by kernel_rfl) (by kernel_rfl) (by kernel_rfl) (by kernel_rfl) (by kernel_rfl) (fun _ => T n) (fun v => units_of us (mem_nil)) (eqn n)
end laws_szProg
/-! laws.toStringS -/
namespace laws_toStringS
def l0 (n : Nat) (a2 : List ByteArray) (K0 : (List ByteArray) → Option (List ByteArray)) : Nat → Int → (List ByteArray) → Option (List ByteArray)
  | 0, _, _ => none
  | k + 1, i3, out4 =>
    if decide (i3 < (List.length a2 : Int)) = true then
      if 0 ≤ i3 ∧ i3 < (List.length a2 : Int) then
        if 0 ≤ i3 ∧ i3 < (List.length out4 : Int) then
          let w5 : List ByteArray := List.set out4 (Int.toNat i3) (List.getD a2 (Int.toNat i3) ByteArray.empty)
          l0 n a2 K0 k (IntKind.i64.wrap (i3 + 1)) w5
        else
          none
      else
        none
    else
      K0 out4
def F (n : Nat) (a1 : List ByteArray) : Option (List ByteArray) :=
  if 0 ≤ (List.length a1 : Int) ∧ (List.length a1 : Int) ≤ (List.length a1 : Int) ∧ (List.length a1 : Int) ≤ (lim : Int) then
    l0 n a1 (fun out6 =>
      some out6) n 0 (List.replicate (Int.toNat (List.length a1 : Int)) ByteArray.empty)
  else
    none
noncomputable def code : Code := Try.f121.body.getD .skip
abbrev ash : List ASh := [.ro (.sl (.str))]
abbrev rsh : List RSh := [.own (.sl (.str)) (.own .ro)]
def ent (n : Nat) : FEnt := ⟨ash, rsh, fun v => F n v.1⟩
noncomputable def cx (n : Nat) : Ctx := mkCtx Try.prog TYS []
noncomputable def d : FnD := ⟨code, 22, .nil, [(.tmp 2, .sl (.str), .own .ro)]⟩
noncomputable def kr (n : Nat) (v : AVs ash) : Env → Option (RVs rsh) := endK (cx n) d (avEnc ash v) (rvDec rsh)
noncomputable def c0 : Code := (Code.l (Code.r (Code.l (Code.r (Code.r code)))))
noncomputable def b0 : Code := Code.l c0
def an : An := .seq .nil (.seq (.reg [(7, .own .ro)]) (.seq (.seq .nil (.block (some [3]) (.cut 0 [0, 3, 4]))) (.seq .nil .nil)))
def an0 : An := .seq (.seq .nil (.cond .nil .nil)) (.seq (.block (some [0, 3, 4]) .nil) .nil)
abbrev sh0 : ES := ⟨[(0, .v (.sl (.str))), (3, .al 3 []), (4, .v (.int .i64))], [⟨3, .sl (.str), .own .ro, false, false⟩]⟩
abbrev sh0_0 : ES := ⟨[(3, .al 3 [])], [⟨3, .sl (.str), .own .ro, false, false⟩]⟩
def T0 (n m : Nat) (e : Env) (kn : Env → Option (RVs rsh)) (kx : Nat → Env → Option (RVs rsh)) : Option (RVs rsh) := ES.on sh0 e fun x => l0 n x.1.1 (fun y0 => kx 0 (sh0_0.enc (((()), ()), (y0, ())))) m x.1.2.2.1 x.2.1
def T (n : Nat) : Tab (RVs rsh) := fun j e kn kx => match j with
  | 0 => T0 n n e kn kx
  | _ => none
theorem co (n : Nat) : CtxOk (cx n) := mkCtx_cok TYS_ok
theorem mx (n : Nat) : (cx n).P.follows .mixedOrders = true := mkCtx_mix MIX
theorem mk (n : Nat) : MOk (cx n) := mkCtx_ok (mem_nil)
theorem us0 : units b0 an0 = [] := by kernel_rfl
theorem e0 (n m : Nat) (v : AVs ash) (x : sh0.V) (kn : Env → Option (RVs rsh)) (kx : Nat → Env → Option (RVs rsh)) : aevT (cx n) 22 (T n) (kr n v) b0 an0 [(0, [3])] (meet (some [0, 3, 4]) fun e => T0 n m e kn kx) kx (sh0.enc x) = l0 n x.1.1 (fun y0 => kx 0 (sh0_0.enc (((()), ()), (y0, ())))) (m + 1) x.1.2.2.1 x.2.1 := by kernel_rfl
theorem cl0 : c0 = .loop b0 := by kernel_rfl
theorem u0 (n : Nat) (v : AVs ash) : UnitOk (cx n) 22 (T n) (kr n v) 0 c0 := by
  rw [cl0]
  exact loop_unit (n := n) (co n) (mk n) (mx n) an0 [(0, [3])] [0, 3, 4] (T0 n) (fun _ _ _ => rfl) (fun e kn kx out h => by obtain ⟨x, _, h⟩ := ES.on_inv h; cases h) (fun m e kn kx out h => by obtain ⟨x, rfl, h⟩ := ES.on_inv h; exact (e0 n m v x kn kx).trans h) (units_of us0 (mem_nil))
theorem us : units code an = [(0, c0)] := by kernel_rfl
theorem eqn (n : Nat) (v : AVs ash) : fnEvT (cx n) d an (T n) (avEnc ash v) (rvDec rsh) = F n v.1 := by kernel_rfl
theorem ok (n : Nat) : EntOk Try.prog 121 (ent n) :=
  ent_ok (c := cx n) (e := ent n) (d := d) (an := an) (fn := Try.f121) (co n) (mk n) (mx n) (by kernel_rfl) (by kernel_rfl) (by kernel_rfl) (by kernel_rfl) (by kernel_rfl) (fun _ => T n) (fun v => units_of us (mem_cons (u0 n v) mem_nil)) (eqn n)
end laws_toStringS
/-! laws.toCon -/
namespace laws_toCon
def F (n : Nat) (a1 : ByteArray × List ByteArray) : Option (ByteArray × List ByteArray) :=
  (laws_toStringS.F n a1.2).bind fun r2 =>
  some (a1.1, r2)
noncomputable def code : Code := Try.f141.body.getD .skip
abbrev ash : List ASh := [.ro (.st (.pair (.str) (.sl (.str))))]
abbrev rsh : List RSh := [.own (.st (.pair (.str) (.sl (.str)))) (.pr .ro (.own .ro))]
def ent (n : Nat) : FEnt := ⟨ash, rsh, fun v => F n v.1⟩
noncomputable def cx (n : Nat) : Ctx := mkCtx Try.prog TYS [(121, laws_toStringS.ent n)]
noncomputable def d : FnD := ⟨code, 12, .nil, [(.cell 2 188, .st (.pair (.str) (.sl (.str))), .pr .ro (.own .ro))]⟩
noncomputable def kr (n : Nat) (v : AVs ash) : Env → Option (RVs rsh) := endK (cx n) d (avEnc ash v) (rvDec rsh)
def an : An := .seq (.reg [(2, .pr .ro (.own .ro))]) (.seq (.reg [(3, .pr .ro (.own .ro))]) (.seq .nil (.seq (.reg [(9, .own .ro)]) (.seq .nil .nil))))
def T (n : Nat) : Tab (RVs rsh) := fun j e kn kx => match j with
  | _ => none
theorem co (n : Nat) : CtxOk (cx n) := mkCtx_cok TYS_ok
theorem mx (n : Nat) : (cx n).P.follows .mixedOrders = true := mkCtx_mix MIX
theorem mk (n : Nat) : MOk (cx n) := mkCtx_ok (mem_cons (laws_toStringS.ok n) mem_nil)
theorem us : units code an = [] := by kernel_rfl
theorem eqn (n : Nat) (v : AVs ash) : fnEvT (cx n) d an (T n) (avEnc ash v) (rvDec rsh) = F n v.1 := by kernel_rfl
theorem ok (n : Nat) : EntOk Try.prog 141 (ent n) :=
  ent_ok (c := cx n) (e := ent n) (d := d) (an := an) (fn := Try.f141) (co n) (mk n) (mx n) (by kernel_rfl) (by kernel_rfl) (by kernel_rfl) (by kernel_rfl) (by kernel_rfl) (fun _ => T n) (fun v => units_of us (mem_nil)) (eqn n)
end laws_toCon
/-! laws.toConS -/
namespace laws_toConS
def l0 (n : Nat) (a2 : List (ByteArray × List ByteArray)) (K0 : (List (ByteArray × List ByteArray)) → Option (List (ByteArray × List ByteArray))) : Nat → Int → (List (ByteArray × List ByteArray)) → Option (List (ByteArray × List ByteArray))
  | 0, _, _ => none
  | k + 1, i3, out4 =>
    if decide (i3 < (List.length a2 : Int)) = true then
      if 0 ≤ i3 ∧ i3 < (List.length a2 : Int) then
        (laws_toCon.F n (List.getD a2 (Int.toNat i3) (ByteArray.empty, []))).bind fun r5 =>
        if 0 ≤ i3 ∧ i3 < (List.length out4 : Int) then
          l0 n a2 K0 k (IntKind.i64.wrap (i3 + 1)) (List.set out4 (Int.toNat i3) r5)
        else
          none
      else
        none
    else
      K0 out4
def F (n : Nat) (a1 : List (ByteArray × List ByteArray)) : Option (List (ByteArray × List ByteArray)) :=
  if 0 ≤ (List.length a1 : Int) ∧ (List.length a1 : Int) ≤ (List.length a1 : Int) ∧ (List.length a1 : Int) ≤ (lim : Int) then
    l0 n a1 (fun out6 =>
      some out6) n 0 (List.replicate (Int.toNat (List.length a1 : Int)) (ByteArray.empty, []))
  else
    none
noncomputable def code : Code := Try.f129.body.getD .skip
abbrev ash : List ASh := [.ro (.sl (.st (.pair (.str) (.sl (.str)))))]
abbrev rsh : List RSh := [.own (.sl (.st (.pair (.str) (.sl (.str))))) (.own (.pr .ro (.own .ro)))]
def ent (n : Nat) : FEnt := ⟨ash, rsh, fun v => F n v.1⟩
noncomputable def cx (n : Nat) : Ctx := mkCtx Try.prog TYS [(141, laws_toCon.ent n)]
noncomputable def d : FnD := ⟨code, 23, .nil, [(.tmp 2, .sl (.st (.pair (.str) (.sl (.str)))), .own (.pr .ro (.own .ro)))]⟩
noncomputable def kr (n : Nat) (v : AVs ash) : Env → Option (RVs rsh) := endK (cx n) d (avEnc ash v) (rvDec rsh)
noncomputable def c0 : Code := (Code.l (Code.r (Code.l (Code.r (Code.r code)))))
noncomputable def b0 : Code := Code.l c0
def an : An := .seq .nil (.seq (.reg [(7, .own (.pr .ro (.own .ro)))]) (.seq (.seq .nil (.block (some [3]) (.cut 0 [0, 3, 4]))) (.seq .nil .nil)))
def an0 : An := .seq (.seq .nil (.cond .nil .nil)) (.seq (.block (some [0, 3, 4]) (.reg [(20, .pr .ro (.own .ro))])) .nil)
abbrev sh0 : ES := ⟨[(0, .v (.sl (.st (.pair (.str) (.sl (.str)))))), (3, .al 3 []), (4, .v (.int .i64))], [⟨3, .sl (.st (.pair (.str) (.sl (.str)))), .own (.pr .ro (.own .ro)), false, false⟩]⟩
abbrev sh0_0 : ES := ⟨[(3, .al 3 [])], [⟨3, .sl (.st (.pair (.str) (.sl (.str)))), .own (.pr .ro (.own .ro)), false, false⟩]⟩
def T0 (n m : Nat) (e : Env) (kn : Env → Option (RVs rsh)) (kx : Nat → Env → Option (RVs rsh)) : Option (RVs rsh) := ES.on sh0 e fun x => l0 n x.1.1 (fun y0 => kx 0 (sh0_0.enc (((()), ()), (y0, ())))) m x.1.2.2.1 x.2.1
def T (n : Nat) : Tab (RVs rsh) := fun j e kn kx => match j with
  | 0 => T0 n n e kn kx
  | _ => none
theorem co (n : Nat) : CtxOk (cx n) := mkCtx_cok TYS_ok
theorem mx (n : Nat) : (cx n).P.follows .mixedOrders = true := mkCtx_mix MIX
theorem mk (n : Nat) : MOk (cx n) := mkCtx_ok (mem_cons (laws_toCon.ok n) mem_nil)
theorem us0 : units b0 an0 = [] := by kernel_rfl
theorem e0 (n m : Nat) (v : AVs ash) (x : sh0.V) (kn : Env → Option (RVs rsh)) (kx : Nat → Env → Option (RVs rsh)) : aevT (cx n) 23 (T n) (kr n v) b0 an0 [(0, [3])] (meet (some [0, 3, 4]) fun e => T0 n m e kn kx) kx (sh0.enc x) = l0 n x.1.1 (fun y0 => kx 0 (sh0_0.enc (((()), ()), (y0, ())))) (m + 1) x.1.2.2.1 x.2.1 := by kernel_rfl
theorem cl0 : c0 = .loop b0 := by kernel_rfl
theorem u0 (n : Nat) (v : AVs ash) : UnitOk (cx n) 23 (T n) (kr n v) 0 c0 := by
  rw [cl0]
  exact loop_unit (n := n) (co n) (mk n) (mx n) an0 [(0, [3])] [0, 3, 4] (T0 n) (fun _ _ _ => rfl) (fun e kn kx out h => by obtain ⟨x, _, h⟩ := ES.on_inv h; cases h) (fun m e kn kx out h => by obtain ⟨x, rfl, h⟩ := ES.on_inv h; exact (e0 n m v x kn kx).trans h) (units_of us0 (mem_nil))
theorem us : units code an = [(0, c0)] := by kernel_rfl
theorem eqn (n : Nat) (v : AVs ash) : fnEvT (cx n) d an (T n) (avEnc ash v) (rvDec rsh) = F n v.1 := by kernel_rfl
theorem ok (n : Nat) : EntOk Try.prog 129 (ent n) :=
  ent_ok (c := cx n) (e := ent n) (d := d) (an := an) (fn := Try.f129) (co n) (mk n) (mx n) (by kernel_rfl) (by kernel_rfl) (by kernel_rfl) (by kernel_rfl) (by kernel_rfl) (fun _ => T n) (fun v => units_of us (mem_cons (u0 n v) mem_nil)) (eqn n)
end laws_toConS
/-! laws.toTypeDecl -/
namespace laws_toTypeDecl
def F (n : Nat) (a1 : ByteArray × List (ByteArray × List ByteArray)) : Option (ByteArray × List (ByteArray × List ByteArray)) :=
  (laws_toConS.F n a1.2).bind fun r2 =>
  some (a1.1, r2)
noncomputable def code : Code := Try.f107.body.getD .skip
abbrev ash : List ASh := [.ro (.st (.pair (.str) (.sl (.st (.pair (.str) (.sl (.str)))))))]
abbrev rsh : List RSh := [.own (.st (.pair (.str) (.sl (.st (.pair (.str) (.sl (.str))))))) (.pr .ro (.own (.pr .ro (.own .ro))))]
def ent (n : Nat) : FEnt := ⟨ash, rsh, fun v => F n v.1⟩
noncomputable def cx (n : Nat) : Ctx := mkCtx Try.prog TYS [(129, laws_toConS.ent n)]
noncomputable def d : FnD := ⟨code, 12, .nil, [(.cell 2 164, .st (.pair (.str) (.sl (.st (.pair (.str) (.sl (.str)))))), .pr .ro (.own (.pr .ro (.own .ro))))]⟩
noncomputable def kr (n : Nat) (v : AVs ash) : Env → Option (RVs rsh) := endK (cx n) d (avEnc ash v) (rvDec rsh)
def an : An := .seq (.reg [(2, .pr .ro (.own (.pr .ro (.own .ro))))]) (.seq (.reg [(3, .pr .ro (.own (.pr .ro (.own .ro))))]) (.seq .nil (.seq (.reg [(9, .own (.pr .ro (.own .ro)))]) (.seq .nil .nil))))
def T (n : Nat) : Tab (RVs rsh) := fun j e kn kx => match j with
  | _ => none
theorem co (n : Nat) : CtxOk (cx n) := mkCtx_cok TYS_ok
theorem mx (n : Nat) : (cx n).P.follows .mixedOrders = true := mkCtx_mix MIX
theorem mk (n : Nat) : MOk (cx n) := mkCtx_ok (mem_cons (laws_toConS.ok n) mem_nil)
theorem us : units code an = [] := by kernel_rfl
theorem eqn (n : Nat) (v : AVs ash) : fnEvT (cx n) d an (T n) (avEnc ash v) (rvDec rsh) = F n v.1 := by kernel_rfl
theorem ok (n : Nat) : EntOk Try.prog 107 (ent n) :=
  ent_ok (c := cx n) (e := ent n) (d := d) (an := an) (fn := Try.f107) (co n) (mk n) (mx n) (by kernel_rfl) (by kernel_rfl) (by kernel_rfl) (by kernel_rfl) (by kernel_rfl) (fun _ => T n) (fun v => units_of us (mem_nil)) (eqn n)
end laws_toTypeDecl
/-! laws.toTypeDeclS -/
namespace laws_toTypeDeclS
def l0 (n : Nat) (a2 : List (ByteArray × List (ByteArray × List ByteArray))) (K0 : (List (ByteArray × List (ByteArray × List ByteArray))) → Option (List (ByteArray × List (ByteArray × List ByteArray)))) : Nat → Int → (List (ByteArray × List (ByteArray × List ByteArray))) → Option (List (ByteArray × List (ByteArray × List ByteArray)))
  | 0, _, _ => none
  | k + 1, i3, out4 =>
    if decide (i3 < (List.length a2 : Int)) = true then
      if 0 ≤ i3 ∧ i3 < (List.length a2 : Int) then
        (laws_toTypeDecl.F n (List.getD a2 (Int.toNat i3) (ByteArray.empty, []))).bind fun r5 =>
        if 0 ≤ i3 ∧ i3 < (List.length out4 : Int) then
          l0 n a2 K0 k (IntKind.i64.wrap (i3 + 1)) (List.set out4 (Int.toNat i3) r5)
        else
          none
      else
        none
    else
      K0 out4
def F (n : Nat) (a1 : List (ByteArray × List (ByteArray × List ByteArray))) : Option (List (ByteArray × List (ByteArray × List ByteArray))) :=
  if 0 ≤ (List.length a1 : Int) ∧ (List.length a1 : Int) ≤ (List.length a1 : Int) ∧ (List.length a1 : Int) ≤ (lim : Int) then
    l0 n a1 (fun out6 =>
      some out6) n 0 (List.replicate (Int.toNat (List.length a1 : Int)) (ByteArray.empty, []))
  else
    none
noncomputable def code : Code := Try.f65.body.getD .skip
abbrev ash : List ASh := [.ro (.sl (.st (.pair (.str) (.sl (.st (.pair (.str) (.sl (.str))))))))]
abbrev rsh : List RSh := [.own (.sl (.st (.pair (.str) (.sl (.st (.pair (.str) (.sl (.str)))))))) (.own (.pr .ro (.own (.pr .ro (.own .ro)))))]
def ent (n : Nat) : FEnt := ⟨ash, rsh, fun v => F n v.1⟩
noncomputable def cx (n : Nat) : Ctx := mkCtx Try.prog TYS [(107, laws_toTypeDecl.ent n)]
noncomputable def d : FnD := ⟨code, 23, .nil, [(.tmp 2, .sl (.st (.pair (.str) (.sl (.st (.pair (.str) (.sl (.str))))))), .own (.pr .ro (.own (.pr .ro (.own .ro)))))]⟩
noncomputable def kr (n : Nat) (v : AVs ash) : Env → Option (RVs rsh) := endK (cx n) d (avEnc ash v) (rvDec rsh)
noncomputable def c0 : Code := (Code.l (Code.r (Code.l (Code.r (Code.r code)))))
noncomputable def b0 : Code := Code.l c0
def an : An := .seq .nil (.seq (.reg [(7, .own (.pr .ro (.own (.pr .ro (.own .ro)))))]) (.seq (.seq .nil (.block (some [3]) (.cut 0 [0, 3, 4]))) (.seq .nil .nil)))
def an0 : An := .seq (.seq .nil (.cond .nil .nil)) (.seq (.block (some [0, 3, 4]) (.reg [(20, .pr .ro (.own (.pr .ro (.own .ro))))])) .nil)
abbrev sh0 : ES := ⟨[(0, .v (.sl (.st (.pair (.str) (.sl (.st (.pair (.str) (.sl (.str))))))))), (3, .al 3 []), (4, .v (.int .i64))], [⟨3, .sl (.st (.pair (.str) (.sl (.st (.pair (.str) (.sl (.str))))))), .own (.pr .ro (.own (.pr .ro (.own .ro)))), false, false⟩]⟩
abbrev sh0_0 : ES := ⟨[(3, .al 3 [])], [⟨3, .sl (.st (.pair (.str) (.sl (.st (.pair (.str) (.sl (.str))))))), .own (.pr .ro (.own (.pr .ro (.own .ro)))), false, false⟩]⟩
def T0 (n m : Nat) (e : Env) (kn : Env → Option (RVs rsh)) (kx : Nat → Env → Option (RVs rsh)) : Option (RVs rsh) := ES.on sh0 e fun x => l0 n x.1.1 (fun y0 => kx 0 (sh0_0.enc (((()), ()), (y0, ())))) m x.1.2.2.1 x.2.1
def T (n : Nat) : Tab (RVs rsh) := fun j e kn kx => match j with
  | 0 => T0 n n e kn kx
  | _ => none
theorem co (n : Nat) : CtxOk (cx n) := mkCtx_cok TYS_ok
theorem mx (n : Nat) : (cx n).P.follows .mixedOrders = true := mkCtx_mix MIX
theorem mk (n : Nat) : MOk (cx n) := mkCtx_ok (mem_cons (laws_toTypeDecl.ok n) mem_nil)
theorem us0 : units b0 an0 = [] := by kernel_rfl
theorem e0 (n m : Nat) (v : AVs ash) (x : sh0.V) (kn : Env → Option (RVs rsh)) (kx : Nat → Env → Option (RVs rsh)) : aevT (cx n) 23 (T n) (kr n v) b0 an0 [(0, [3])] (meet (some [0, 3, 4]) fun e => T0 n m e kn kx) kx (sh0.enc x) = l0 n x.1.1 (fun y0 => kx 0 (sh0_0.enc (((()), ()), (y0, ())))) (m + 1) x.1.2.2.1 x.2.1 := by kernel_rfl
theorem cl0 : c0 = .loop b0 := by kernel_rfl
theorem u0 (n : Nat) (v : AVs ash) : UnitOk (cx n) 23 (T n) (kr n v) 0 c0 := by
  rw [cl0]
  exact loop_unit (n := n) (co n) (mk n) (mx n) an0 [(0, [3])] [0, 3, 4] (T0 n) (fun _ _ _ => rfl) (fun e kn kx out h => by obtain ⟨x, _, h⟩ := ES.on_inv h; cases h) (fun m e kn kx out h => by obtain ⟨x, rfl, h⟩ := ES.on_inv h; exact (e0 n m v x kn kx).trans h) (units_of us0 (mem_nil))
theorem us : units code an = [(0, c0)] := by kernel_rfl
theorem eqn (n : Nat) (v : AVs ash) : fnEvT (cx n) d an (T n) (avEnc ash v) (rvDec rsh) = F n v.1 := by kernel_rfl
theorem ok (n : Nat) : EntOk Try.prog 65 (ent n) :=
  ent_ok (c := cx n) (e := ent n) (d := d) (an := an) (fn := Try.f65) (co n) (mk n) (mx n) (by kernel_rfl) (by kernel_rfl) (by kernel_rfl) (by kernel_rfl) (by kernel_rfl) (fun _ => T n) (fun v => units_of us (mem_cons (u0 n v) mem_nil)) (eqn n)
end laws_toTypeDeclS
/-! laws.toRelDecl -/
namespace laws_toRelDecl
def F (n : Nat) (a1 : ByteArray × (List ByteArray) × Int) : Option (ByteArray × (List ByteArray) × Int) :=
  (laws_toStringS.F n a1.2.1).bind fun r2 =>
  some (a1.1, (r2, a1.2.2))
noncomputable def code : Code := Try.f108.body.getD .skip
abbrev ash : List ASh := [.ro (.st (.pair (.str) (.pair (.sl (.str)) (.int .i64))))]
abbrev rsh : List RSh := [.own (.st (.pair (.str) (.pair (.sl (.str)) (.int .i64)))) (.pr .ro (.pr (.own .ro) .ro))]
def ent (n : Nat) : FEnt := ⟨ash, rsh, fun v => F n v.1⟩
noncomputable def cx (n : Nat) : Ctx := mkCtx Try.prog TYS [(121, laws_toStringS.ent n)]
noncomputable def d : FnD := ⟨code, 15, .nil, [(.cell 2 110, .st (.pair (.str) (.pair (.sl (.str)) (.int .i64))), .pr .ro (.pr (.own .ro) .ro))]⟩
noncomputable def kr (n : Nat) (v : AVs ash) : Env → Option (RVs rsh) := endK (cx n) d (avEnc ash v) (rvDec rsh)
def an : An := .seq (.reg [(2, .pr .ro (.pr (.own .ro) .ro))]) (.seq (.reg [(3, .pr .ro (.pr (.own .ro) .ro))]) (.seq .nil (.seq (.reg [(9, .own .ro)]) (.seq .nil (.seq .nil .nil)))))
def T (n : Nat) : Tab (RVs rsh) := fun j e kn kx => match j with
  | _ => none
theorem co (n : Nat) : CtxOk (cx n) := mkCtx_cok TYS_ok
theorem mx (n : Nat) : (cx n).P.follows .mixedOrders = true := mkCtx_mix MIX
theorem mk (n : Nat) : MOk (cx n) := mkCtx_ok (mem_cons (laws_toStringS.ok n) mem_nil)
theorem us : units code an = [] := by kernel_rfl
theorem eqn (n : Nat) (v : AVs ash) : fnEvT (cx n) d an (T n) (avEnc ash v) (rvDec rsh) = F n v.1 := by kernel_rfl
theorem ok (n : Nat) : EntOk Try.prog 108 (ent n) :=
  ent_ok (c := cx n) (e := ent n) (d := d) (an := an) (fn := Try.f108) (co n) (mk n) (mx n) (by kernel_rfl) (by kernel_rfl) (by kernel_rfl) (by kernel_rfl) (by kernel_rfl) (fun _ => T n) (fun v => units_of us (mem_nil)) (eqn n)
end laws_toRelDecl
/-! laws.toRelDeclS -/
namespace laws_toRelDeclS
def l0 (n : Nat) (a2 : List (ByteArray × (List ByteArray) × Int)) (K0 : (List (ByteArray × (List ByteArray) × Int)) → Option (List (ByteArray × (List ByteArray) × Int))) : Nat → Int → (List (ByteArray × (List ByteArray) × Int)) → Option (List (ByteArray × (List ByteArray) × Int))
  | 0, _, _ => none
  | k + 1, i3, out4 =>
    if decide (i3 < (List.length a2 : Int)) = true then
      if 0 ≤ i3 ∧ i3 < (List.length a2 : Int) then
        (laws_toRelDecl.F n (List.getD a2 (Int.toNat i3) (ByteArray.empty, ([], 0)))).bind fun r5 =>
        if 0 ≤ i3 ∧ i3 < (List.length out4 : Int) then
          l0 n a2 K0 k (IntKind.i64.wrap (i3 + 1)) (List.set out4 (Int.toNat i3) r5)
        else
          none
      else
        none
    else
      K0 out4
def F (n : Nat) (a1 : List (ByteArray × (List ByteArray) × Int)) : Option (List (ByteArray × (List ByteArray) × Int)) :=
  if 0 ≤ (List.length a1 : Int) ∧ (List.length a1 : Int) ≤ (List.length a1 : Int) ∧ (List.length a1 : Int) ≤ (lim : Int) then
    l0 n a1 (fun out6 =>
      some out6) n 0 (List.replicate (Int.toNat (List.length a1 : Int)) (ByteArray.empty, ([], 0)))
  else
    none
noncomputable def code : Code := Try.f66.body.getD .skip
abbrev ash : List ASh := [.ro (.sl (.st (.pair (.str) (.pair (.sl (.str)) (.int .i64)))))]
abbrev rsh : List RSh := [.own (.sl (.st (.pair (.str) (.pair (.sl (.str)) (.int .i64))))) (.own (.pr .ro (.pr (.own .ro) .ro)))]
def ent (n : Nat) : FEnt := ⟨ash, rsh, fun v => F n v.1⟩
noncomputable def cx (n : Nat) : Ctx := mkCtx Try.prog TYS [(108, laws_toRelDecl.ent n)]
noncomputable def d : FnD := ⟨code, 23, .nil, [(.tmp 2, .sl (.st (.pair (.str) (.pair (.sl (.str)) (.int .i64)))), .own (.pr .ro (.pr (.own .ro) .ro)))]⟩
noncomputable def kr (n : Nat) (v : AVs ash) : Env → Option (RVs rsh) := endK (cx n) d (avEnc ash v) (rvDec rsh)
noncomputable def c0 : Code := (Code.l (Code.r (Code.l (Code.r (Code.r code)))))
noncomputable def b0 : Code := Code.l c0
def an : An := .seq .nil (.seq (.reg [(7, .own (.pr .ro (.pr (.own .ro) .ro)))]) (.seq (.seq .nil (.block (some [3]) (.cut 0 [0, 3, 4]))) (.seq .nil .nil)))
def an0 : An := .seq (.seq .nil (.cond .nil .nil)) (.seq (.block (some [0, 3, 4]) (.reg [(20, .pr .ro (.pr (.own .ro) .ro))])) .nil)
abbrev sh0 : ES := ⟨[(0, .v (.sl (.st (.pair (.str) (.pair (.sl (.str)) (.int .i64)))))), (3, .al 3 []), (4, .v (.int .i64))], [⟨3, .sl (.st (.pair (.str) (.pair (.sl (.str)) (.int .i64)))), .own (.pr .ro (.pr (.own .ro) .ro)), false, false⟩]⟩
abbrev sh0_0 : ES := ⟨[(3, .al 3 [])], [⟨3, .sl (.st (.pair (.str) (.pair (.sl (.str)) (.int .i64)))), .own (.pr .ro (.pr (.own .ro) .ro)), false, false⟩]⟩
def T0 (n m : Nat) (e : Env) (kn : Env → Option (RVs rsh)) (kx : Nat → Env → Option (RVs rsh)) : Option (RVs rsh) := ES.on sh0 e fun x => l0 n x.1.1 (fun y0 => kx 0 (sh0_0.enc (((()), ()), (y0, ())))) m x.1.2.2.1 x.2.1
def T (n : Nat) : Tab (RVs rsh) := fun j e kn kx => match j with
  | 0 => T0 n n e kn kx
  | _ => none
theorem co (n : Nat) : CtxOk (cx n) := mkCtx_cok TYS_ok
theorem mx (n : Nat) : (cx n).P.follows .mixedOrders = true := mkCtx_mix MIX
theorem mk (n : Nat) : MOk (cx n) := mkCtx_ok (mem_cons (laws_toRelDecl.ok n) mem_nil)
theorem us0 : units b0 an0 = [] := by kernel_rfl
theorem e0 (n m : Nat) (v : AVs ash) (x : sh0.V) (kn : Env → Option (RVs rsh)) (kx : Nat → Env → Option (RVs rsh)) : aevT (cx n) 23 (T n) (kr n v) b0 an0 [(0, [3])] (meet (some [0, 3, 4]) fun e => T0 n m e kn kx) kx (sh0.enc x) = l0 n x.1.1 (fun y0 => kx 0 (sh0_0.enc (((()), ()), (y0, ())))) (m + 1) x.1.2.2.1 x.2.1 := by kernel_rfl
theorem cl0 : c0 = .loop b0 := by kernel_rfl
theorem u0 (n : Nat) (v : AVs ash) : UnitOk (cx n) 23 (T n) (kr n v) 0 c0 := by
  rw [cl0]
  exact loop_unit (n := n) (co n) (mk n) (mx n) an0 [(0, [3])] [0, 3, 4] (T0 n) (fun _ _ _ => rfl) (fun e kn kx out h => by obtain ⟨x, _, h⟩ := ES.on_inv h; cases h) (fun m e kn kx out h => by obtain ⟨x, rfl, h⟩ := ES.on_inv h; exact (e0 n m v x kn kx).trans h) (units_of us0 (mem_nil))
theorem us : units code an = [(0, c0)] := by kernel_rfl
theorem eqn (n : Nat) (v : AVs ash) : fnEvT (cx n) d an (T n) (avEnc ash v) (rvDec rsh) = F n v.1 := by kernel_rfl
theorem ok (n : Nat) : EntOk Try.prog 66 (ent n) :=
  ent_ok (c := cx n) (e := ent n) (d := d) (an := an) (fn := Try.f66) (co n) (mk n) (mx n) (by kernel_rfl) (by kernel_rfl) (by kernel_rfl) (by kernel_rfl) (by kernel_rfl) (fun _ => T n) (fun v => units_of us (mem_cons (u0 n v) mem_nil)) (eqn n)
end laws_toRelDeclS
/-! laws.toIntS -/
namespace laws_toIntS
def l0 (n : Nat) (a2 : List Int) (K0 : (List Int) → Option (List Int)) : Nat → Int → (List Int) → Option (List Int)
  | 0, _, _ => none
  | k + 1, i3, out4 =>
    if decide (i3 < (List.length a2 : Int)) = true then
      if 0 ≤ i3 ∧ i3 < (List.length a2 : Int) then
        if 0 ≤ i3 ∧ i3 < (List.length out4 : Int) then
          let w5 : List Int := List.set out4 (Int.toNat i3) (List.getD a2 (Int.toNat i3) 0)
          l0 n a2 K0 k (IntKind.i64.wrap (i3 + 1)) w5
        else
          none
      else
        none
    else
      K0 out4
def F (n : Nat) (a1 : List Int) : Option (List Int) :=
  if 0 ≤ (List.length a1 : Int) ∧ (List.length a1 : Int) ≤ (List.length a1 : Int) ∧ (List.length a1 : Int) ≤ (lim : Int) then
    l0 n a1 (fun out6 =>
      some out6) n 0 (List.replicate (Int.toNat (List.length a1 : Int)) 0)
  else
    none
noncomputable def code : Code := Try.f96.body.getD .skip
abbrev ash : List ASh := [.ro (.sl (.int .i64))]
abbrev rsh : List RSh := [.own (.sl (.int .i64)) (.own .ro)]
def ent (n : Nat) : FEnt := ⟨ash, rsh, fun v => F n v.1⟩
noncomputable def cx (n : Nat) : Ctx := mkCtx Try.prog TYS []
noncomputable def d : FnD := ⟨code, 22, .nil, [(.tmp 2, .sl (.int .i64), .own .ro)]⟩
noncomputable def kr (n : Nat) (v : AVs ash) : Env → Option (RVs rsh) := endK (cx n) d (avEnc ash v) (rvDec rsh)
noncomputable def c0 : Code := (Code.l (Code.r (Code.l (Code.r (Code.r code)))))
noncomputable def b0 : Code := Code.l c0
def an : An := .seq .nil (.seq (.reg [(7, .own .ro)]) (.seq (.seq .nil (.block (some [3]) (.cut 0 [0, 3, 4]))) (.seq .nil .nil)))
def an0 : An := .seq (.seq .nil (.cond .nil .nil)) (.seq (.block (some [0, 3, 4]) .nil) .nil)
abbrev sh0 : ES := ⟨[(0, .v (.sl (.int .i64))), (3, .al 3 []), (4, .v (.int .i64))], [⟨3, .sl (.int .i64), .own .ro, false, false⟩]⟩
abbrev sh0_0 : ES := ⟨[(3, .al 3 [])], [⟨3, .sl (.int .i64), .own .ro, false, false⟩]⟩
def T0 (n m : Nat) (e : Env) (kn : Env → Option (RVs rsh)) (kx : Nat → Env → Option (RVs rsh)) : Option (RVs rsh) := ES.on sh0 e fun x => l0 n x.1.1 (fun y0 => kx 0 (sh0_0.enc (((()), ()), (y0, ())))) m x.1.2.2.1 x.2.1
def T (n : Nat) : Tab (RVs rsh) := fun j e kn kx => match j with
  | 0 => T0 n n e kn kx
  | _ => none
theorem co (n : Nat) : CtxOk (cx n) := mkCtx_cok TYS_ok
theorem mx (n : Nat) : (cx n).P.follows .mixedOrders = true := mkCtx_mix MIX
theorem mk (n : Nat) : MOk (cx n) := mkCtx_ok (mem_nil)
theorem us0 : units b0 an0 = [] := by kernel_rfl
theorem e0 (n m : Nat) (v : AVs ash) (x : sh0.V) (kn : Env → Option (RVs rsh)) (kx : Nat → Env → Option (RVs rsh)) : aevT (cx n) 22 (T n) (kr n v) b0 an0 [(0, [3])] (meet (some [0, 3, 4]) fun e => T0 n m e kn kx) kx (sh0.enc x) = l0 n x.1.1 (fun y0 => kx 0 (sh0_0.enc (((()), ()), (y0, ())))) (m + 1) x.1.2.2.1 x.2.1 := by kernel_rfl
theorem cl0 : c0 = .loop b0 := by kernel_rfl
theorem u0 (n : Nat) (v : AVs ash) : UnitOk (cx n) 22 (T n) (kr n v) 0 c0 := by
  rw [cl0]
  exact loop_unit (n := n) (co n) (mk n) (mx n) an0 [(0, [3])] [0, 3, 4] (T0 n) (fun _ _ _ => rfl) (fun e kn kx out h => by obtain ⟨x, _, h⟩ := ES.on_inv h; cases h) (fun m e kn kx out h => by obtain ⟨x, rfl, h⟩ := ES.on_inv h; exact (e0 n m v x kn kx).trans h) (units_of us0 (mem_nil))
theorem us : units code an = [(0, c0)] := by kernel_rfl
theorem eqn (n : Nat) (v : AVs ash) : fnEvT (cx n) d an (T n) (avEnc ash v) (rvDec rsh) = F n v.1 := by kernel_rfl
theorem ok (n : Nat) : EntOk Try.prog 96 (ent n) :=
  ent_ok (c := cx n) (e := ent n) (d := d) (an := an) (fn := Try.f96) (co n) (mk n) (mx n) (by kernel_rfl) (by kernel_rfl) (by kernel_rfl) (by kernel_rfl) (by kernel_rfl) (fun _ => T n) (fun v => units_of us (mem_cons (u0 n v) mem_nil)) (eqn n)
end laws_toIntS
/-! laws.toExp -/
namespace laws_toExp
def F (n : Nat) (a1 : Int × ByteArray × List Int) : Option (Int × ByteArray × List Int) :=
  (laws_toIntS.F n a1.2.2).bind fun r2 =>
  some (a1.1, (a1.2.1, r2))
noncomputable def code : Code := Try.f95.body.getD .skip
abbrev ash : List ASh := [.ro (.st (.pair (.int .i64) (.pair (.str) (.sl (.int .i64)))))]
abbrev rsh : List RSh := [.own (.st (.pair (.int .i64) (.pair (.str) (.sl (.int .i64))))) (.pr .ro (.pr .ro (.own .ro)))]
def ent (n : Nat) : FEnt := ⟨ash, rsh, fun v => F n v.1⟩
noncomputable def cx (n : Nat) : Ctx := mkCtx Try.prog TYS [(96, laws_toIntS.ent n)]
noncomputable def d : FnD := ⟨code, 15, .nil, [(.cell 2 98, .st (.pair (.int .i64) (.pair (.str) (.sl (.int .i64)))), .pr .ro (.pr .ro (.own .ro)))]⟩
noncomputable def kr (n : Nat) (v : AVs ash) : Env → Option (RVs rsh) := endK (cx n) d (avEnc ash v) (rvDec rsh)
def an : An := .seq (.reg [(2, .pr .ro (.pr .ro (.own .ro)))]) (.seq (.reg [(3, .pr .ro (.pr .ro (.own .ro)))]) (.seq .nil (.seq .nil (.seq (.reg [(12, .own .ro)]) (.seq .nil .nil)))))
def T (n : Nat) : Tab (RVs rsh) := fun j e kn kx => match j with
  | _ => none
theorem co (n : Nat) : CtxOk (cx n) := mkCtx_cok TYS_ok
theorem mx (n : Nat) : (cx n).P.follows .mixedOrders = true := mkCtx_mix MIX
theorem mk (n : Nat) : MOk (cx n) := mkCtx_ok (mem_cons (laws_toIntS.ok n) mem_nil)
theorem us : units code an = [] := by kernel_rfl
theorem eqn (n : Nat) (v : AVs ash) : fnEvT (cx n) d an (T n) (avEnc ash v) (rvDec rsh) = F n v.1 := by kernel_rfl
theorem ok (n : Nat) : EntOk Try.prog 95 (ent n) :=
  ent_ok (c := cx n) (e := ent n) (d := d) (an := an) (fn := Try.f95) (co n) (mk n) (mx n) (by kernel_rfl) (by kernel_rfl) (by kernel_rfl) (by kernel_rfl) (by kernel_rfl) (fun _ => T n) (fun v => units_of us (mem_nil)) (eqn n)
end laws_toExp
/-! laws.toExpS -/
namespace laws_toExpS
def l0 (n : Nat) (a2 : List (Int × ByteArray × List Int)) (K0 : (List (Int × ByteArray × List Int)) → Option (List (Int × ByteArray × List Int))) : Nat → Int → (List (Int × ByteArray × List Int)) → Option (List (Int × ByteArray × List Int))
  | 0, _, _ => none
  | k + 1, i3, out4 =>
    if decide (i3 < (List.length a2 : Int)) = true then
      if 0 ≤ i3 ∧ i3 < (List.length a2 : Int) then
        (laws_toExp.F n (List.getD a2 (Int.toNat i3) (0, (ByteArray.empty, [])))).bind fun r5 =>
        if 0 ≤ i3 ∧ i3 < (List.length out4 : Int) then
          l0 n a2 K0 k (IntKind.i64.wrap (i3 + 1)) (List.set out4 (Int.toNat i3) r5)
        else
          none
      else
        none
    else
      K0 out4
def F (n : Nat) (a1 : List (Int × ByteArray × List Int)) : Option (List (Int × ByteArray × List Int)) :=
  if 0 ≤ (List.length a1 : Int) ∧ (List.length a1 : Int) ≤ (List.length a1 : Int) ∧ (List.length a1 : Int) ≤ (lim : Int) then
    l0 n a1 (fun out6 =>
      some out6) n 0 (List.replicate (Int.toNat (List.length a1 : Int)) (0, (ByteArray.empty, [])))
  else
    none
noncomputable def code : Code := Try.f55.body.getD .skip
abbrev ash : List ASh := [.ro (.sl (.st (.pair (.int .i64) (.pair (.str) (.sl (.int .i64))))))]
abbrev rsh : List RSh := [.own (.sl (.st (.pair (.int .i64) (.pair (.str) (.sl (.int .i64)))))) (.own (.pr .ro (.pr .ro (.own .ro))))]
def ent (n : Nat) : FEnt := ⟨ash, rsh, fun v => F n v.1⟩
noncomputable def cx (n : Nat) : Ctx := mkCtx Try.prog TYS [(95, laws_toExp.ent n)]
noncomputable def d : FnD := ⟨code, 23, .nil, [(.tmp 2, .sl (.st (.pair (.int .i64) (.pair (.str) (.sl (.int .i64))))), .own (.pr .ro (.pr .ro (.own .ro))))]⟩
noncomputable def kr (n : Nat) (v : AVs ash) : Env → Option (RVs rsh) := endK (cx n) d (avEnc ash v) (rvDec rsh)
noncomputable def c0 : Code := (Code.l (Code.r (Code.l (Code.r (Code.r code)))))
noncomputable def b0 : Code := Code.l c0
def an : An := .seq .nil (.seq (.reg [(7, .own (.pr .ro (.pr .ro (.own .ro))))]) (.seq (.seq .nil (.block (some [3]) (.cut 0 [0, 3, 4]))) (.seq .nil .nil)))
def an0 : An := .seq (.seq .nil (.cond .nil .nil)) (.seq (.block (some [0, 3, 4]) (.reg [(20, .pr .ro (.pr .ro (.own .ro)))])) .nil)
abbrev sh0 : ES := ⟨[(0, .v (.sl (.st (.pair (.int .i64) (.pair (.str) (.sl (.int .i64))))))), (3, .al 3 []), (4, .v (.int .i64))], [⟨3, .sl (.st (.pair (.int .i64) (.pair (.str) (.sl (.int .i64))))), .own (.pr .ro (.pr .ro (.own .ro))), false, false⟩]⟩
abbrev sh0_0 : ES := ⟨[(3, .al 3 [])], [⟨3, .sl (.st (.pair (.int .i64) (.pair (.str) (.sl (.int .i64))))), .own (.pr .ro (.pr .ro (.own .ro))), false, false⟩]⟩
def T0 (n m : Nat) (e : Env) (kn : Env → Option (RVs rsh)) (kx : Nat → Env → Option (RVs rsh)) : Option (RVs rsh) := ES.on sh0 e fun x => l0 n x.1.1 (fun y0 => kx 0 (sh0_0.enc (((()), ()), (y0, ())))) m x.1.2.2.1 x.2.1
def T (n : Nat) : Tab (RVs rsh) := fun j e kn kx => match j with
  | 0 => T0 n n e kn kx
  | _ => none
theorem co (n : Nat) : CtxOk (cx n) := mkCtx_cok TYS_ok
theorem mx (n : Nat) : (cx n).P.follows .mixedOrders = true := mkCtx_mix MIX
theorem mk (n : Nat) : MOk (cx n) := mkCtx_ok (mem_cons (laws_toExp.ok n) mem_nil)
theorem us0 : units b0 an0 = [] := by kernel_rfl
theorem e0 (n m : Nat) (v : AVs ash) (x : sh0.V) (kn : Env → Option (RVs rsh)) (kx : Nat → Env → Option (RVs rsh)) : aevT (cx n) 23 (T n) (kr n v) b0 an0 [(0, [3])] (meet (some [0, 3, 4]) fun e => T0 n m e kn kx) kx (sh0.enc x) = l0 n x.1.1 (fun y0 => kx 0 (sh0_0.enc (((()), ()), (y0, ())))) (m + 1) x.1.2.2.1 x.2.1 := by kernel_rfl
theorem cl0 : c0 = .loop b0 := by kernel_rfl
theorem u0 (n : Nat) (v : AVs ash) : UnitOk (cx n) 23 (T n) (kr n v) 0 c0 := by
  rw [cl0]
  exact loop_unit (n := n) (co n) (mk n) (mx n) an0 [(0, [3])] [0, 3, 4] (T0 n) (fun _ _ _ => rfl) (fun e kn kx out h => by obtain ⟨x, _, h⟩ := ES.on_inv h; cases h) (fun m e kn kx out h => by obtain ⟨x, rfl, h⟩ := ES.on_inv h; exact (e0 n m v x kn kx).trans h) (units_of us0 (mem_nil))
theorem us : units code an = [(0, c0)] := by kernel_rfl
theorem eqn (n : Nat) (v : AVs ash) : fnEvT (cx n) d an (T n) (avEnc ash v) (rvDec rsh) = F n v.1 := by kernel_rfl
theorem ok (n : Nat) : EntOk Try.prog 55 (ent n) :=
  ent_ok (c := cx n) (e := ent n) (d := d) (an := an) (fn := Try.f55) (co n) (mk n) (mx n) (by kernel_rfl) (by kernel_rfl) (by kernel_rfl) (by kernel_rfl) (by kernel_rfl) (fun _ => T n) (fun v => units_of us (mem_cons (u0 n v) mem_nil)) (eqn n)
end laws_toExpS
/-! laws.toLit -/
namespace laws_toLit
def F (n : Nat) (a1 : Int × ByteArray × List Int) : Option (Int × ByteArray × List Int) :=
  (laws_toIntS.F n a1.2.2).bind fun r2 =>
  some (a1.1, (a1.2.1, r2))
noncomputable def code : Code := Try.f56.body.getD .skip
abbrev ash : List ASh := [.ro (.st (.pair (.int .i64) (.pair (.str) (.sl (.int .i64)))))]
abbrev rsh : List RSh := [.own (.st (.pair (.int .i64) (.pair (.str) (.sl (.int .i64))))) (.pr .ro (.pr .ro (.own .ro)))]
def ent (n : Nat) : FEnt := ⟨ash, rsh, fun v => F n v.1⟩
noncomputable def cx (n : Nat) : Ctx := mkCtx Try.prog TYS [(96, laws_toIntS.ent n)]
noncomputable def d : FnD := ⟨code, 15, .nil, [(.cell 2 43, .st (.pair (.int .i64) (.pair (.str) (.sl (.int .i64)))), .pr .ro (.pr .ro (.own .ro)))]⟩
noncomputable def kr (n : Nat) (v : AVs ash) : Env → Option (RVs rsh) := endK (cx n) d (avEnc ash v) (rvDec rsh)
def an : An := .seq (.reg [(2, .pr .ro (.pr .ro (.own .ro)))]) (.seq (.reg [(3, .pr .ro (.pr .ro (.own .ro)))]) (.seq .nil (.seq .nil (.seq (.reg [(12, .own .ro)]) (.seq .nil .nil)))))
def T (n : Nat) : Tab (RVs rsh) := fun j e kn kx => match j with
  | _ => none
theorem co (n : Nat) : CtxOk (cx n) := mkCtx_cok TYS_ok
theorem mx (n : Nat) : (cx n).P.follows .mixedOrders = true := mkCtx_mix MIX
theorem mk (n : Nat) : MOk (cx n) := mkCtx_ok (mem_cons (laws_toIntS.ok n) mem_nil)
theorem us : units code an = [] := by kernel_rfl
theorem eqn (n : Nat) (v : AVs ash) : fnEvT (cx n) d an (T n) (avEnc ash v) (rvDec rsh) = F n v.1 := by kernel_rfl
theorem ok (n : Nat) : EntOk Try.prog 56 (ent n) :=
  ent_ok (c := cx n) (e := ent n) (d := d) (an := an) (fn := Try.f56) (co n) (mk n) (mx n) (by kernel_rfl) (by kernel_rfl) (by kernel_rfl) (by kernel_rfl) (by kernel_rfl) (fun _ => T n) (fun v => units_of us (mem_nil)) (eqn n)
end laws_toLit
/-! laws.toLitS -/
namespace laws_toLitS
def l0 (n : Nat) (a2 : List (Int × ByteArray × List Int)) (K0 : (List (Int × ByteArray × List Int)) → Option (List (Int × ByteArray × List Int))) : Nat → Int → (List (Int × ByteArray × List Int)) → Option (List (Int × ByteArray × List Int))
  | 0, _, _ => none
  | k + 1, i3, out4 =>
    if decide (i3 < (List.length a2 : Int)) = true then
      if 0 ≤ i3 ∧ i3 < (List.length a2 : Int) then
        (laws_toLit.F n (List.getD a2 (Int.toNat i3) (0, (ByteArray.empty, [])))).bind fun r5 =>
        if 0 ≤ i3 ∧ i3 < (List.length out4 : Int) then
          l0 n a2 K0 k (IntKind.i64.wrap (i3 + 1)) (List.set out4 (Int.toNat i3) r5)
        else
          none
      else
        none
    else
      K0 out4
def F (n : Nat) (a1 : List (Int × ByteArray × List Int)) : Option (List (Int × ByteArray × List Int)) :=
  if 0 ≤ (List.length a1 : Int) ∧ (List.length a1 : Int) ≤ (List.length a1 : Int) ∧ (List.length a1 : Int) ≤ (lim : Int) then
    l0 n a1 (fun out6 =>
      some out6) n 0 (List.replicate (Int.toNat (List.length a1 : Int)) (0, (ByteArray.empty, [])))
  else
    none
noncomputable def code : Code := Try.f57.body.getD .skip
abbrev ash : List ASh := [.ro (.sl (.st (.pair (.int .i64) (.pair (.str) (.sl (.int .i64))))))]
abbrev rsh : List RSh := [.own (.sl (.st (.pair (.int .i64) (.pair (.str) (.sl (.int .i64)))))) (.own (.pr .ro (.pr .ro (.own .ro))))]
def ent (n : Nat) : FEnt := ⟨ash, rsh, fun v => F n v.1⟩
noncomputable def cx (n : Nat) : Ctx := mkCtx Try.prog TYS [(56, laws_toLit.ent n)]
noncomputable def d : FnD := ⟨code, 23, .nil, [(.tmp 2, .sl (.st (.pair (.int .i64) (.pair (.str) (.sl (.int .i64))))), .own (.pr .ro (.pr .ro (.own .ro))))]⟩
noncomputable def kr (n : Nat) (v : AVs ash) : Env → Option (RVs rsh) := endK (cx n) d (avEnc ash v) (rvDec rsh)
noncomputable def c0 : Code := (Code.l (Code.r (Code.l (Code.r (Code.r code)))))
noncomputable def b0 : Code := Code.l c0
def an : An := .seq .nil (.seq (.reg [(7, .own (.pr .ro (.pr .ro (.own .ro))))]) (.seq (.seq .nil (.block (some [3]) (.cut 0 [0, 3, 4]))) (.seq .nil .nil)))
def an0 : An := .seq (.seq .nil (.cond .nil .nil)) (.seq (.block (some [0, 3, 4]) (.reg [(20, .pr .ro (.pr .ro (.own .ro)))])) .nil)
abbrev sh0 : ES := ⟨[(0, .v (.sl (.st (.pair (.int .i64) (.pair (.str) (.sl (.int .i64))))))), (3, .al 3 []), (4, .v (.int .i64))], [⟨3, .sl (.st (.pair (.int .i64) (.pair (.str) (.sl (.int .i64))))), .own (.pr .ro (.pr .ro (.own .ro))), false, false⟩]⟩
abbrev sh0_0 : ES := ⟨[(3, .al 3 [])], [⟨3, .sl (.st (.pair (.int .i64) (.pair (.str) (.sl (.int .i64))))), .own (.pr .ro (.pr .ro (.own .ro))), false, false⟩]⟩
def T0 (n m : Nat) (e : Env) (kn : Env → Option (RVs rsh)) (kx : Nat → Env → Option (RVs rsh)) : Option (RVs rsh) := ES.on sh0 e fun x => l0 n x.1.1 (fun y0 => kx 0 (sh0_0.enc (((()), ()), (y0, ())))) m x.1.2.2.1 x.2.1
def T (n : Nat) : Tab (RVs rsh) := fun j e kn kx => match j with
  | 0 => T0 n n e kn kx
  | _ => none
theorem co (n : Nat) : CtxOk (cx n) := mkCtx_cok TYS_ok
theorem mx (n : Nat) : (cx n).P.follows .mixedOrders = true := mkCtx_mix MIX
theorem mk (n : Nat) : MOk (cx n) := mkCtx_ok (mem_cons (laws_toLit.ok n) mem_nil)
theorem us0 : units b0 an0 = [] := by kernel_rfl
theorem e0 (n m : Nat) (v : AVs ash) (x : sh0.V) (kn : Env → Option (RVs rsh)) (kx : Nat → Env → Option (RVs rsh)) : aevT (cx n) 23 (T n) (kr n v) b0 an0 [(0, [3])] (meet (some [0, 3, 4]) fun e => T0 n m e kn kx) kx (sh0.enc x) = l0 n x.1.1 (fun y0 => kx 0 (sh0_0.enc (((()), ()), (y0, ())))) (m + 1) x.1.2.2.1 x.2.1 := by kernel_rfl
theorem cl0 : c0 = .loop b0 := by kernel_rfl
theorem u0 (n : Nat) (v : AVs ash) : UnitOk (cx n) 23 (T n) (kr n v) 0 c0 := by
  rw [cl0]
  exact loop_unit (n := n) (co n) (mk n) (mx n) an0 [(0, [3])] [0, 3, 4] (T0 n) (fun _ _ _ => rfl) (fun e kn kx out h => by obtain ⟨x, _, h⟩ := ES.on_inv h; cases h) (fun m e kn kx out h => by obtain ⟨x, rfl, h⟩ := ES.on_inv h; exact (e0 n m v x kn kx).trans h) (units_of us0 (mem_nil))
theorem us : units code an = [(0, c0)] := by kernel_rfl
theorem eqn (n : Nat) (v : AVs ash) : fnEvT (cx n) d an (T n) (avEnc ash v) (rvDec rsh) = F n v.1 := by kernel_rfl
theorem ok (n : Nat) : EntOk Try.prog 57 (ent n) :=
  ent_ok (c := cx n) (e := ent n) (d := d) (an := an) (fn := Try.f57) (co n) (mk n) (mx n) (by kernel_rfl) (by kernel_rfl) (by kernel_rfl) (by kernel_rfl) (by kernel_rfl) (fun _ => T n) (fun v => units_of us (mem_cons (u0 n v) mem_nil)) (eqn n)
end laws_toLitS
/-! laws.toRule -/
namespace laws_toRule
def F (n : Nat) (a1 : (List (Int × ByteArray × List Int)) × (Int × ByteArray × List Int) × List (Int × ByteArray × List Int)) : Option ((List (Int × ByteArray × List Int)) × (Int × ByteArray × List Int) × List (Int × ByteArray × List Int)) :=
  (laws_toExpS.F n a1.1).bind fun r2 =>
  (laws_toLit.F n a1.2.1).bind fun r3 =>
  (laws_toLitS.F n a1.2.2).bind fun r4 =>
  some (r2, (r3, r4))
noncomputable def code : Code := Try.f20.body.getD .skip
abbrev ash : List ASh := [.ro (.st (.pair (.sl (.st (.pair (.int .i64) (.pair (.str) (.sl (.int .i64)))))) (.pair (.st (.pair (.int .i64) (.pair (.str) (.sl (.int .i64))))) (.sl (.st (.pair (.int .i64) (.pair (.str) (.sl (.int .i64)))))))))]
abbrev rsh : List RSh := [.own (.st (.pair (.sl (.st (.pair (.int .i64) (.pair (.str) (.sl (.int .i64)))))) (.pair (.st (.pair (.int .i64) (.pair (.str) (.sl (.int .i64))))) (.sl (.st (.pair (.int .i64) (.pair (.str) (.sl (.int .i64))))))))) (.pr (.own (.pr .ro (.pr .ro (.own .ro)))) (.pr (.pr .ro (.pr .ro (.own .ro))) (.own (.pr .ro (.pr .ro (.own .ro))))))]
def ent (n : Nat) : FEnt := ⟨ash, rsh, fun v => F n v.1⟩
noncomputable def cx (n : Nat) : Ctx := mkCtx Try.prog TYS [(55, laws_toExpS.ent n), (56, laws_toLit.ent n), (57, laws_toLitS.ent n)]
noncomputable def d : FnD := ⟨code, 17, .nil, [(.cell 2 46, .st (.pair (.sl (.st (.pair (.int .i64) (.pair (.str) (.sl (.int .i64)))))) (.pair (.st (.pair (.int .i64) (.pair (.str) (.sl (.int .i64))))) (.sl (.st (.pair (.int .i64) (.pair (.str) (.sl (.int .i64)))))))), .pr (.own (.pr .ro (.pr .ro (.own .ro)))) (.pr (.pr .ro (.pr .ro (.own .ro))) (.own (.pr .ro (.pr .ro (.own .ro))))))]⟩
noncomputable def kr (n : Nat) (v : AVs ash) : Env → Option (RVs rsh) := endK (cx n) d (avEnc ash v) (rvDec rsh)
def an : An := .seq (.reg [(2, .pr (.own (.pr .ro (.pr .ro (.own .ro)))) (.pr (.pr .ro (.pr .ro (.own .ro))) (.own (.pr .ro (.pr .ro (.own .ro))))))]) (.seq (.reg [(3, .pr (.own (.pr .ro (.pr .ro (.own .ro)))) (.pr (.pr .ro (.pr .ro (.own .ro))) (.own (.pr .ro (.pr .ro (.own .ro))))))]) (.seq (.reg [(6, .own (.pr .ro (.pr .ro (.own .ro))))]) (.seq (.reg [(10, .pr .ro (.pr .ro (.own .ro)))]) (.seq (.reg [(14, .own (.pr .ro (.pr .ro (.own .ro))))]) (.seq .nil .nil)))))
def T (n : Nat) : Tab (RVs rsh) := fun j e kn kx => match j with
  | _ => none
theorem co (n : Nat) : CtxOk (cx n) := mkCtx_cok TYS_ok
theorem mx (n : Nat) : (cx n).P.follows .mixedOrders = true := mkCtx_mix MIX
theorem mk (n : Nat) : MOk (cx n) := mkCtx_ok (mem_cons (laws_toExpS.ok n) (mem_cons (laws_toLit.ok n) (mem_cons (laws_toLitS.ok n) mem_nil)))
theorem us : units code an = [] := by kernel_rfl
theorem eqn (n : Nat) (v : AVs ash) : fnEvT (cx n) d an (T n) (avEnc ash v) (rvDec rsh) = F n v.1 := by kernel_rfl
theorem ok (n : Nat) : EntOk Try.prog 20 (ent n) :=
  ent_ok (c := cx n) (e := ent n) (d := d) (an := an) (fn := Try.f20) (co n) (mk n) (mx n) (by kernel_rfl) (by kernel_rfl) (by kernel_rfl) (by kernel_rfl) (by kernel_rfl) (fun _ => T n) (fun v => units_of us (mem_nil)) (eqn n)
end laws_toRule
/-! laws.toRuleS -/
namespace laws_toRuleS
def l0 (n : Nat) (a2 : List ((List (Int × ByteArray × List Int)) × (Int × ByteArray × List Int) × List (Int × ByteArray × List Int))) (K0 : (List ((List (Int × ByteArray × List Int)) × (Int × ByteArray × List Int) × List (Int × ByteArray × List Int))) → Option (List ((List (Int × ByteArray × List Int)) × (Int × ByteArray × List Int) × List (Int × ByteArray × List Int)))) : Nat → Int → (List ((List (Int × ByteArray × List Int)) × (Int × ByteArray × List Int) × List (Int × ByteArray × List Int))) → Option (List ((List (Int × ByteArray × List Int)) × (Int × ByteArray × List Int) × List (Int × ByteArray × List Int)))
  | 0, _, _ => none
  | k + 1, i3, out4 =>
    if decide (i3 < (List.length a2 : Int)) = true then
      if 0 ≤ i3 ∧ i3 < (List.length a2 : Int) then
        (laws_toRule.F n (List.getD a2 (Int.toNat i3) ([], ((0, (ByteArray.empty, [])), [])))).bind fun r5 =>
        if 0 ≤ i3 ∧ i3 < (List.length out4 : Int) then
          l0 n a2 K0 k (IntKind.i64.wrap (i3 + 1)) (List.set out4 (Int.toNat i3) r5)
        else
          none
      else
        none
    else
      K0 out4
def F (n : Nat) (a1 : List ((List (Int × ByteArray × List Int)) × (Int × ByteArray × List Int) × List (Int × ByteArray × List Int))) : Option (List ((List (Int × ByteArray × List Int)) × (Int × ByteArray × List Int) × List (Int × ByteArray × List Int))) :=
  if 0 ≤ (List.length a1 : Int) ∧ (List.length a1 : Int) ≤ (List.length a1 : Int) ∧ (List.length a1 : Int) ≤ (lim : Int) then
    l0 n a1 (fun out6 =>
      some out6) n 0 (List.replicate (Int.toNat (List.length a1 : Int)) ([], ((0, (ByteArray.empty, [])), [])))
  else
    none
noncomputable def code : Code := Try.f67.body.getD .skip
abbrev ash : List ASh := [.ro (.sl (.st (.pair (.sl (.st (.pair (.int .i64) (.pair (.str) (.sl (.int .i64)))))) (.pair (.st (.pair (.int .i64) (.pair (.str) (.sl (.int .i64))))) (.sl (.st (.pair (.int .i64) (.pair (.str) (.sl (.int .i64))))))))))]
abbrev rsh : List RSh := [.own (.sl (.st (.pair (.sl (.st (.pair (.int .i64) (.pair (.str) (.sl (.int .i64)))))) (.pair (.st (.pair (.int .i64) (.pair (.str) (.sl (.int .i64))))) (.sl (.st (.pair (.int .i64) (.pair (.str) (.sl (.int .i64)))))))))) (.own (.pr (.own (.pr .ro (.pr .ro (.own .ro)))) (.pr (.pr .ro (.pr .ro (.own .ro))) (.own (.pr .ro (.pr .ro (.own .ro)))))))]
def ent (n : Nat) : FEnt := ⟨ash, rsh, fun v => F n v.1⟩
noncomputable def cx (n : Nat) : Ctx := mkCtx Try.prog TYS [(20, laws_toRule.ent n)]
noncomputable def d : FnD := ⟨code, 23, .nil, [(.tmp 2, .sl (.st (.pair (.sl (.st (.pair (.int .i64) (.pair (.str) (.sl (.int .i64)))))) (.pair (.st (.pair (.int .i64) (.pair (.str) (.sl (.int .i64))))) (.sl (.st (.pair (.int .i64) (.pair (.str) (.sl (.int .i64))))))))), .own (.pr (.own (.pr .ro (.pr .ro (.own .ro)))) (.pr (.pr .ro (.pr .ro (.own .ro))) (.own (.pr .ro (.pr .ro (.own .ro)))))))]⟩
noncomputable def kr (n : Nat) (v : AVs ash) : Env → Option (RVs rsh) := endK (cx n) d (avEnc ash v) (rvDec rsh)
noncomputable def c0 : Code := (Code.l (Code.r (Code.l (Code.r (Code.r code)))))
noncomputable def b0 : Code := Code.l c0
def an : An := .seq .nil (.seq (.reg [(7, .own (.pr (.own (.pr .ro (.pr .ro (.own .ro)))) (.pr (.pr .ro (.pr .ro (.own .ro))) (.own (.pr .ro (.pr .ro (.own .ro)))))))]) (.seq (.seq .nil (.block (some [3]) (.cut 0 [0, 3, 4]))) (.seq .nil .nil)))
def an0 : An := .seq (.seq .nil (.cond .nil .nil)) (.seq (.block (some [0, 3, 4]) (.reg [(20, .pr (.own (.pr .ro (.pr .ro (.own .ro)))) (.pr (.pr .ro (.pr .ro (.own .ro))) (.own (.pr .ro (.pr .ro (.own .ro))))))])) .nil)
abbrev sh0 : ES := ⟨[(0, .v (.sl (.st (.pair (.sl (.st (.pair (.int .i64) (.pair (.str) (.sl (.int .i64)))))) (.pair (.st (.pair (.int .i64) (.pair (.str) (.sl (.int .i64))))) (.sl (.st (.pair (.int .i64) (.pair (.str) (.sl (.int .i64))))))))))), (3, .al 3 []), (4, .v (.int .i64))], [⟨3, .sl (.st (.pair (.sl (.st (.pair (.int .i64) (.pair (.str) (.sl (.int .i64)))))) (.pair (.st (.pair (.int .i64) (.pair (.str) (.sl (.int .i64))))) (.sl (.st (.pair (.int .i64) (.pair (.str) (.sl (.int .i64))))))))), .own (.pr (.own (.pr .ro (.pr .ro (.own .ro)))) (.pr (.pr .ro (.pr .ro (.own .ro))) (.own (.pr .ro (.pr .ro (.own .ro)))))), false, false⟩]⟩
abbrev sh0_0 : ES := ⟨[(3, .al 3 [])], [⟨3, .sl (.st (.pair (.sl (.st (.pair (.int .i64) (.pair (.str) (.sl (.int .i64)))))) (.pair (.st (.pair (.int .i64) (.pair (.str) (.sl (.int .i64))))) (.sl (.st (.pair (.int .i64) (.pair (.str) (.sl (.int .i64))))))))), .own (.pr (.own (.pr .ro (.pr .ro (.own .ro)))) (.pr (.pr .ro (.pr .ro (.own .ro))) (.own (.pr .ro (.pr .ro (.own .ro)))))), false, false⟩]⟩
def T0 (n m : Nat) (e : Env) (kn : Env → Option (RVs rsh)) (kx : Nat → Env → Option (RVs rsh)) : Option (RVs rsh) := ES.on sh0 e fun x => l0 n x.1.1 (fun y0 => kx 0 (sh0_0.enc (((()), ()), (y0, ())))) m x.1.2.2.1 x.2.1
def T (n : Nat) : Tab (RVs rsh) := fun j e kn kx => match j with
  | 0 => T0 n n e kn kx
  | _ => none
theorem co (n : Nat) : CtxOk (cx n) := mkCtx_cok TYS_ok
theorem mx (n : Nat) : (cx n).P.follows .mixedOrders = true := mkCtx_mix MIX
theorem mk (n : Nat) : MOk (cx n) := mkCtx_ok (mem_cons (laws_toRule.ok n) mem_nil)
theorem us0 : units b0 an0 = [] := by kernel_rfl
theorem e0 (n m : Nat) (v : AVs ash) (x : sh0.V) (kn : Env → Option (RVs rsh)) (kx : Nat → Env → Option (RVs rsh)) : aevT (cx n) 23 (T n) (kr n v) b0 an0 [(0, [3])] (meet (some [0, 3, 4]) fun e => T0 n m e kn kx) kx (sh0.enc x) = l0 n x.1.1 (fun y0 => kx 0 (sh0_0.enc (((()), ()), (y0, ())))) (m + 1) x.1.2.2.1 x.2.1 := by kernel_rfl
theorem cl0 : c0 = .loop b0 := by kernel_rfl
theorem u0 (n : Nat) (v : AVs ash) : UnitOk (cx n) 23 (T n) (kr n v) 0 c0 := by
  rw [cl0]
  exact loop_unit (n := n) (co n) (mk n) (mx n) an0 [(0, [3])] [0, 3, 4] (T0 n) (fun _ _ _ => rfl) (fun e kn kx out h => by obtain ⟨x, _, h⟩ := ES.on_inv h; cases h) (fun m e kn kx out h => by obtain ⟨x, rfl, h⟩ := ES.on_inv h; exact (e0 n m v x kn kx).trans h) (units_of us0 (mem_nil))
theorem us : units code an = [(0, c0)] := by kernel_rfl
theorem eqn (n : Nat) (v : AVs ash) : fnEvT (cx n) d an (T n) (avEnc ash v) (rvDec rsh) = F n v.1 := by kernel_rfl
theorem ok (n : Nat) : EntOk Try.prog 67 (ent n) :=
  ent_ok (c := cx n) (e := ent n) (d := d) (an := an) (fn := Try.f67) (co n) (mk n) (mx n) (by kernel_rfl) (by kernel_rfl) (by kernel_rfl) (by kernel_rfl) (by kernel_rfl) (fun _ => T n) (fun v => units_of us (mem_cons (u0 n v) mem_nil)) (eqn n)
end laws_toRuleS
/-! laws.toProg -/
namespace laws_toProg
def F (n : Nat) (a1 : (List (ByteArray × List (ByteArray × List ByteArray))) × (List (ByteArray × (List ByteArray) × Int)) × List ((List (Int × ByteArray × List Int)) × (Int × ByteArray × List Int) × List (Int × ByteArray × List Int))) : Option ((List (ByteArray × List (ByteArray × List ByteArray))) × (List (ByteArray × (List ByteArray) × Int)) × List ((List (Int × ByteArray × List Int)) × (Int × ByteArray × List Int) × List (Int × ByteArray × List Int))) :=
  (laws_toTypeDeclS.F n a1.1).bind fun r2 =>
  (laws_toRelDeclS.F n a1.2.1).bind fun r3 =>
  (laws_toRuleS.F n a1.2.2).bind fun r4 =>
  some (r2, (r3, r4))
noncomputable def code : Code := Try.f25.body.getD .skip
abbrev ash : List ASh := [.ro (.st (.pair (.sl (.st (.pair (.str) (.sl (.st (.pair (.str) (.sl (.str)))))))) (.pair (.sl (.st (.pair (.str) (.pair (.sl (.str)) (.int .i64))))) (.sl (.st (.pair (.sl (.st (.pair (.int .i64) (.pair (.str) (.sl (.int .i64)))))) (.pair (.st (.pair (.int .i64) (.pair (.str) (.sl (.int .i64))))) (.sl (.st (.pair (.int .i64) (.pair (.str) (.sl (.int .i64)))))))))))))]
abbrev rsh : List RSh := [.own (.st (.pair (.sl (.st (.pair (.str) (.sl (.st (.pair (.str) (.sl (.str)))))))) (.pair (.sl (.st (.pair (.str) (.pair (.sl (.str)) (.int .i64))))) (.sl (.st (.pair (.sl (.st (.pair (.int .i64) (.pair (.str) (.sl (.int .i64)))))) (.pair (.st (.pair (.int .i64) (.pair (.str) (.sl (.int .i64))))) (.sl (.st (.pair (.int .i64) (.pair (.str) (.sl (.int .i64))))))))))))) (.pr (.own (.pr .ro (.own (.pr .ro (.own .ro))))) (.pr (.own (.pr .ro (.pr (.own .ro) .ro))) (.own (.pr (.own (.pr .ro (.pr .ro (.own .ro)))) (.pr (.pr .ro (.pr .ro (.own .ro))) (.own (.pr .ro (.pr .ro (.own .ro)))))))))]
def ent (n : Nat) : FEnt := ⟨ash, rsh, fun v => F n v.1⟩
noncomputable def cx (n : Nat) : Ctx := mkCtx Try.prog TYS [(65, laws_toTypeDeclS.ent n), (66, laws_toRelDeclS.ent n), (67, laws_toRuleS.ent n)]
noncomputable def d : FnD := ⟨code, 17, .nil, [(.cell 2 61, .st (.pair (.sl (.st (.pair (.str) (.sl (.st (.pair (.str) (.sl (.str)))))))) (.pair (.sl (.st (.pair (.str) (.pair (.sl (.str)) (.int .i64))))) (.sl (.st (.pair (.sl (.st (.pair (.int .i64) (.pair (.str) (.sl (.int .i64)))))) (.pair (.st (.pair (.int .i64) (.pair (.str) (.sl (.int .i64))))) (.sl (.st (.pair (.int .i64) (.pair (.str) (.sl (.int .i64)))))))))))), .pr (.own (.pr .ro (.own (.pr .ro (.own .ro))))) (.pr (.own (.pr .ro (.pr (.own .ro) .ro))) (.own (.pr (.own (.pr .ro (.pr .ro (.own .ro)))) (.pr (.pr .ro (.pr .ro (.own .ro))) (.own (.pr .ro (.pr .ro (.own .ro)))))))))]⟩
noncomputable def kr (n : Nat) (v : AVs ash) : Env → Option (RVs rsh) := endK (cx n) d (avEnc ash v) (rvDec rsh)
def an : An := .seq (.reg [(2, .pr (.own (.pr .ro (.own (.pr .ro (.own .ro))))) (.pr (.own (.pr .ro (.pr (.own .ro) .ro))) (.own (.pr (.own (.pr .ro (.pr .ro (.own .ro)))) (.pr (.pr .ro (.pr .ro (.own .ro))) (.own (.pr .ro (.pr .ro (.own .ro)))))))))]) (.seq (.reg [(3, .pr (.own (.pr .ro (.own (.pr .ro (.own .ro))))) (.pr (.own (.pr .ro (.pr (.own .ro) .ro))) (.own (.pr (.own (.pr .ro (.pr .ro (.own .ro)))) (.pr (.pr .ro (.pr .ro (.own .ro))) (.own (.pr .ro (.pr .ro (.own .ro)))))))))]) (.seq (.reg [(6, .own (.pr .ro (.own (.pr .ro (.own .ro)))))]) (.seq (.reg [(10, .own (.pr .ro (.pr (.own .ro) .ro)))]) (.seq (.reg [(14, .own (.pr (.own (.pr .ro (.pr .ro (.own .ro)))) (.pr (.pr .ro (.pr .ro (.own .ro))) (.own (.pr .ro (.pr .ro (.own .ro)))))))]) (.seq .nil .nil)))))
def T (n : Nat) : Tab (RVs rsh) := fun j e kn kx => match j with
  | _ => none
theorem co (n : Nat) : CtxOk (cx n) := mkCtx_cok TYS_ok
theorem mx (n : Nat) : (cx n).P.follows .mixedOrders = true := mkCtx_mix MIX
theorem mk (n : Nat) : MOk (cx n) := mkCtx_ok (mem_cons (laws_toTypeDeclS.ok n) (mem_cons (laws_toRelDeclS.ok n) (mem_cons (laws_toRuleS.ok n) mem_nil)))
theorem us : units code an = [] := by kernel_rfl
theorem eqn (n : Nat) (v : AVs ash) : fnEvT (cx n) d an (T n) (avEnc ash v) (rvDec rsh) = F n v.1 := by kernel_rfl
theorem ok (n : Nat) : EntOk Try.prog 25 (ent n) :=
  ent_ok (c := cx n) (e := ent n) (d := d) (an := an) (fn := Try.f25) (co n) (mk n) (mx n) (by kernel_rfl) (by kernel_rfl) (by kernel_rfl) (by kernel_rfl) (by kernel_rfl) (fun _ => T n) (fun v => units_of us (mem_nil)) (eqn n)
end laws_toProg
/-! spec.Inlines -/
namespace spec_Inlines
def l0 (n : Nat) (p3 : (List (ByteArray × List (ByteArray × List ByteArray))) × (List (ByteArray × (List ByteArray) × Int)) × List ((List (Int × ByteArray × List Int)) × (Int × ByteArray × List Int) × List (Int × ByteArray × List Int))) (K0 : (List Int) → Option (List Int)) : Nat → Int → (List Int) → Option (List Int)
  | 0, _, _ => none
  | k + 1, i2, out4 =>
    if decide (i2 < (List.length p3.2.1 : Int)) = true then
      if 0 ≤ i2 ∧ i2 < (List.length p3.2.1 : Int) then
        if decide ((((List.getD p3.2.1 (Int.toNat i2) (ByteArray.empty, ([], 0))).2).2) = 3) = true then
          if List.length out4 + List.length [i2] ≤ lim then
            l0 n p3 K0 k (IntKind.i64.wrap (i2 + 1)) (out4 ++ [i2])
          else
            none
        else
          l0 n p3 K0 k (IntKind.i64.wrap (i2 + 1)) out4
      else
        none
    else
      K0 out4
def F (n : Nat) (p1 : (List (ByteArray × List (ByteArray × List ByteArray))) × (List (ByteArray × (List ByteArray) × Int)) × List ((List (Int × ByteArray × List Int)) × (Int × ByteArray × List Int) × List (Int × ByteArray × List Int))) : Option (List Int) :=
  l0 n p1 (fun out5 =>
    some out5) n 0 []
noncomputable def code : Code := Try.f24.body.getD .skip
abbrev ash : List ASh := [.ro (.st (.pair (.sl (.st (.pair (.str) (.sl (.st (.pair (.str) (.sl (.str)))))))) (.pair (.sl (.st (.pair (.str) (.pair (.sl (.str)) (.int .i64))))) (.sl (.st (.pair (.sl (.st (.pair (.int .i64) (.pair (.str) (.sl (.int .i64)))))) (.pair (.st (.pair (.int .i64) (.pair (.str) (.sl (.int .i64))))) (.sl (.st (.pair (.int .i64) (.pair (.str) (.sl (.int .i64)))))))))))))]
abbrev rsh : List RSh := [.ro (.sl (.int .i64))]
def ent (n : Nat) : FEnt := ⟨ash, rsh, fun v => F n v.1⟩
noncomputable def cx (n : Nat) : Ctx := mkCtx Try.prog TYS []
noncomputable def d : FnD := ⟨code, 25, .nil, [(.tmp 2, .sl (.int .i64), .ro)]⟩
noncomputable def kr (n : Nat) (v : AVs ash) : Env → Option (RVs rsh) := endK (cx n) d (avEnc ash v) (rvDec rsh)
noncomputable def c0 : Code := (Code.l (Code.r (Code.l (Code.r (Code.r code)))))
noncomputable def b0 : Code := Code.l c0
def an : An := .seq .nil (.seq (.reg [(5, .own .ro)]) (.seq (.seq .nil (.block (some [3]) (.cut 0 [1, 3, 4]))) (.seq .nil .nil)))
def an0 : An := .seq (.seq .nil (.cond .nil .nil)) (.seq (.block (some [1, 3, 4]) (.seq .nil (.cond .nil .nil))) .nil)
abbrev sh0 : ES := ⟨[(1, .pt 1 []), (3, .al 3 []), (4, .v (.int .i64))], [⟨1, .st (.pair (.sl (.st (.pair (.str) (.sl (.st (.pair (.str) (.sl (.str)))))))) (.pair (.sl (.st (.pair (.str) (.pair (.sl (.str)) (.int .i64))))) (.sl (.st (.pair (.sl (.st (.pair (.int .i64) (.pair (.str) (.sl (.int .i64)))))) (.pair (.st (.pair (.int .i64) (.pair (.str) (.sl (.int .i64))))) (.sl (.st (.pair (.int .i64) (.pair (.str) (.sl (.int .i64)))))))))))), .ro, true, false⟩, ⟨3, .sl (.int .i64), .own .ro, false, false⟩]⟩
abbrev sh0_0 : ES := ⟨[(3, .al 3 [])], [⟨3, .sl (.int .i64), .own .ro, false, false⟩]⟩
def T0 (n m : Nat) (e : Env) (kn : Env → Option (RVs rsh)) (kx : Nat → Env → Option (RVs rsh)) : Option (RVs rsh) := ES.on sh0 e fun x => l0 n x.2.1 (fun y0 => kx 0 (sh0_0.enc (((()), ()), (y0, ())))) m x.1.2.2.1 x.2.2.1
def T (n : Nat) : Tab (RVs rsh) := fun j e kn kx => match j with
  | 0 => T0 n n e kn kx
  | _ => none
theorem co (n : Nat) : CtxOk (cx n) := mkCtx_cok TYS_ok
theorem mx (n : Nat) : (cx n).P.follows .mixedOrders = true := mkCtx_mix MIX
theorem mk (n : Nat) : MOk (cx n) := mkCtx_ok (mem_nil)
theorem us0 : units b0 an0 = [] := by kernel_rfl
theorem e0 (n m : Nat) (v : AVs ash) (x : sh0.V) (kn : Env → Option (RVs rsh)) (kx : Nat → Env → Option (RVs rsh)) : aevT (cx n) 25 (T n) (kr n v) b0 an0 [(0, [3])] (meet (some [1, 3, 4]) fun e => T0 n m e kn kx) kx (sh0.enc x) = l0 n x.2.1 (fun y0 => kx 0 (sh0_0.enc (((()), ()), (y0, ())))) (m + 1) x.1.2.2.1 x.2.2.1 := by kernel_rfl
theorem cl0 : c0 = .loop b0 := by kernel_rfl
theorem u0 (n : Nat) (v : AVs ash) : UnitOk (cx n) 25 (T n) (kr n v) 0 c0 := by
  rw [cl0]
  exact loop_unit (n := n) (co n) (mk n) (mx n) an0 [(0, [3])] [1, 3, 4] (T0 n) (fun _ _ _ => rfl) (fun e kn kx out h => by obtain ⟨x, _, h⟩ := ES.on_inv h; cases h) (fun m e kn kx out h => by obtain ⟨x, rfl, h⟩ := ES.on_inv h; exact (e0 n m v x kn kx).trans h) (units_of us0 (mem_nil))
theorem us : units code an = [(0, c0)] := by kernel_rfl
theorem eqn (n : Nat) (v : AVs ash) : fnEvT (cx n) d an (T n) (avEnc ash v) (rvDec rsh) = F n v.1 := by kernel_rfl
theorem ok (n : Nat) : EntOk Try.prog 24 (ent n) :=
  ent_ok (c := cx n) (e := ent n) (d := d) (an := an) (fn := Try.f24) (co n) (mk n) (mx n) (by kernel_rfl) (by kernel_rfl) (by kernel_rfl) (by kernel_rfl) (by kernel_rfl) (fun _ => T n) (fun v => units_of us (mem_cons (u0 n v) mem_nil)) (eqn n)
end spec_Inlines
/-! (impl.Prog).inlines -/
namespace impl_Prog_inlines
def l0 (n : Nat) (t2 : List (ByteArray × (List ByteArray) × Int)) (t3 : Int) (K0 : (List Int) → Option (List Int)) : Nat → Int → (List Int) → Option (List Int)
  | 0, _, _ => none
  | k + 1, t4, out5 =>
    if decide (t4 < t3) = true then
      if 0 ≤ t4 ∧ t4 < (List.length t2 : Int) then
        if decide ((((List.getD t2 (Int.toNat t4) (ByteArray.empty, ([], 0))).2).2) = 3) = true then
          if List.length out5 + List.length [t4] ≤ lim then
            l0 n t2 t3 K0 k (IntKind.i64.wrap (t4 + 1)) (out5 ++ [t4])
          else
            none
        else
          l0 n t2 t3 K0 k (IntKind.i64.wrap (t4 + 1)) out5
      else
        none
    else
      K0 out5
def F (n : Nat) (p1 : (List (ByteArray × List (ByteArray × List ByteArray))) × (List (ByteArray × (List ByteArray) × Int)) × List ((List (Int × ByteArray × List Int)) × (Int × ByteArray × List Int) × List (Int × ByteArray × List Int))) : Option (List Int) :=
  l0 n p1.2.1 (List.length p1.2.1 : Int) (fun out6 =>
    some out6) n 0 []
noncomputable def code : Code := Try.f68.body.getD .skip
abbrev ash : List ASh := [.ro (.st (.pair (.sl (.st (.pair (.str) (.sl (.st (.pair (.str) (.sl (.str)))))))) (.pair (.sl (.st (.pair (.str) (.pair (.sl (.str)) (.int .i64))))) (.sl (.st (.pair (.sl (.st (.pair (.int .i64) (.pair (.str) (.sl (.int .i64)))))) (.pair (.st (.pair (.int .i64) (.pair (.str) (.sl (.int .i64))))) (.sl (.st (.pair (.int .i64) (.pair (.str) (.sl (.int .i64)))))))))))))]
abbrev rsh : List RSh := [.own (.sl (.int .i64)) (.own .ro)]
def ent (n : Nat) : FEnt := ⟨ash, rsh, fun v => F n v.1⟩
noncomputable def cx (n : Nat) : Ctx := mkCtx Try.prog TYS []
noncomputable def d : FnD := ⟨code, 24, .nil, [(.tmp 2, .sl (.int .i64), .own .ro)]⟩
noncomputable def kr (n : Nat) (v : AVs ash) : Env → Option (RVs rsh) := endK (cx n) d (avEnc ash v) (rvDec rsh)
noncomputable def c0 : Code := (Code.l (Code.r (Code.l (Code.r (Code.r code)))))
noncomputable def b0 : Code := Code.l c0
def an : An := .seq .nil (.seq (.reg [(6, .own .ro)]) (.seq (.seq .nil (.block (some [3]) (.cut 0 [3, 8, 9, 10]))) (.seq .nil .nil)))
def an0 : An := .seq .nil (.seq (.cond .nil .nil) (.seq (.block (some [3, 8, 9, 10]) (.seq .nil (.seq .nil (.cond .nil .nil)))) .nil))
abbrev sh0 : ES := ⟨[(3, .al 3 []), (8, .v (.sl (.st (.pair (.str) (.pair (.sl (.str)) (.int .i64)))))), (9, .v (.int .i64)), (10, .v (.int .i64))], [⟨3, .sl (.int .i64), .own .ro, false, false⟩]⟩
abbrev sh0_0 : ES := ⟨[(3, .al 3 [])], [⟨3, .sl (.int .i64), .own .ro, false, false⟩]⟩
def T0 (n m : Nat) (e : Env) (kn : Env → Option (RVs rsh)) (kx : Nat → Env → Option (RVs rsh)) : Option (RVs rsh) := ES.on sh0 e fun x => l0 n x.1.2.1 x.1.2.2.1 (fun y0 => kx 0 (sh0_0.enc (((()), ()), (y0, ())))) m x.1.2.2.2.1 x.2.1
def T (n : Nat) : Tab (RVs rsh) := fun j e kn kx => match j with
  | 0 => T0 n n e kn kx
  | _ => none
theorem co (n : Nat) : CtxOk (cx n) := mkCtx_cok TYS_ok
theorem mx (n : Nat) : (cx n).P.follows .mixedOrders = true := mkCtx_mix MIX
theorem mk (n : Nat) : MOk (cx n) := mkCtx_ok (mem_nil)
theorem us0 : units b0 an0 = [] := by kernel_rfl
theorem e0 (n m : Nat) (v : AVs ash) (x : sh0.V) (kn : Env → Option (RVs rsh)) (kx : Nat → Env → Option (RVs rsh)) : aevT (cx n) 24 (T n) (kr n v) b0 an0 [(0, [3])] (meet (some [3, 8, 9, 10]) fun e => T0 n m e kn kx) kx (sh0.enc x) = l0 n x.1.2.1 x.1.2.2.1 (fun y0 => kx 0 (sh0_0.enc (((()), ()), (y0, ())))) (m + 1) x.1.2.2.2.1 x.2.1 := by kernel_rfl
theorem cl0 : c0 = .loop b0 := by kernel_rfl
theorem u0 (n : Nat) (v : AVs ash) : UnitOk (cx n) 24 (T n) (kr n v) 0 c0 := by
  rw [cl0]
  exact loop_unit (n := n) (co n) (mk n) (mx n) an0 [(0, [3])] [3, 8, 9, 10] (T0 n) (fun _ _ _ => rfl) (fun e kn kx out h => by obtain ⟨x, _, h⟩ := ES.on_inv h; cases h) (fun m e kn kx out h => by obtain ⟨x, rfl, h⟩ := ES.on_inv h; exact (e0 n m v x kn kx).trans h) (units_of us0 (mem_nil))
theorem us : units code an = [(0, c0)] := by kernel_rfl
theorem eqn (n : Nat) (v : AVs ash) : fnEvT (cx n) d an (T n) (avEnc ash v) (rvDec rsh) = F n v.1 := by kernel_rfl
theorem ok (n : Nat) : EntOk Try.prog 68 (ent n) :=
  ent_ok (c := cx n) (e := ent n) (d := d) (an := an) (fn := Try.f68) (co n) (mk n) (mx n) (by kernel_rfl) (by kernel_rfl) (by kernel_rfl) (by kernel_rfl) (by kernel_rfl) (fun _ => T n) (fun v => units_of us (mem_cons (u0 n v) mem_nil)) (eqn n)
end impl_Prog_inlines
/-! impl.Inlines -/
namespace impl_Inlines
def F (n : Nat) (p1 : (List (ByteArray × List (ByteArray × List ByteArray))) × (List (ByteArray × (List ByteArray) × Int)) × List ((List (Int × ByteArray × List Int)) × (Int × ByteArray × List Int) × List (Int × ByteArray × List Int))) : Option (List Int) :=
  (impl_Prog_inlines.F n p1).bind fun r2 =>
  some r2
noncomputable def code : Code := Try.f26.body.getD .skip
abbrev ash : List ASh := [.ro (.st (.pair (.sl (.st (.pair (.str) (.sl (.st (.pair (.str) (.sl (.str)))))))) (.pair (.sl (.st (.pair (.str) (.pair (.sl (.str)) (.int .i64))))) (.sl (.st (.pair (.sl (.st (.pair (.int .i64) (.pair (.str) (.sl (.int .i64)))))) (.pair (.st (.pair (.int .i64) (.pair (.str) (.sl (.int .i64))))) (.sl (.st (.pair (.int .i64) (.pair (.str) (.sl (.int .i64)))))))))))))]
abbrev rsh : List RSh := [.own (.sl (.int .i64)) (.own .ro)]
def ent (n : Nat) : FEnt := ⟨ash, rsh, fun v => F n v.1⟩
noncomputable def cx (n : Nat) : Ctx := mkCtx Try.prog TYS [(68, impl_Prog_inlines.ent n)]
noncomputable def d : FnD := ⟨code, 5, .nil, [(.tmp 2, .sl (.int .i64), .own .ro)]⟩
noncomputable def kr (n : Nat) (v : AVs ash) : Env → Option (RVs rsh) := endK (cx n) d (avEnc ash v) (rvDec rsh)
def an : An := .seq .nil (.seq (.reg [(4, .own .ro)]) .nil)
def T (n : Nat) : Tab (RVs rsh) := fun j e kn kx => match j with
  | _ => none
theorem co (n : Nat) : CtxOk (cx n) := mkCtx_cok TYS_ok
theorem mx (n : Nat) : (cx n).P.follows .mixedOrders = true := mkCtx_mix MIX
theorem mk (n : Nat) : MOk (cx n) := mkCtx_ok (mem_cons (impl_Prog_inlines.ok n) mem_nil)
theorem us : units code an = [] := by kernel_rfl
theorem eqn (n : Nat) (v : AVs ash) : fnEvT (cx n) d an (T n) (avEnc ash v) (rvDec rsh) = F n v.1 := by kernel_rfl
theorem ok (n : Nat) : EntOk Try.prog 26 (ent n) :=
  ent_ok (c := cx n) (e := ent n) (d := d) (an := an) (fn := Try.f26) (co n) (mk n) (mx n) (by kernel_rfl) (by kernel_rfl) (by kernel_rfl) (by kernel_rfl) (by kernel_rfl) (fun _ => T n) (fun v => units_of us (mem_nil)) (eqn n)
end impl_Inlines
/-! laws.eqIntS -/
namespace laws_eqIntS
def l0 (n : Nat) (a3 : List Int) (b4 : List Int) (K0 : Unit → Option Bool) : Nat → Int → Option Bool
  | 0, _ => none
  | k + 1, i5 =>
    if decide (i5 < (List.length a3 : Int)) = true then
      if 0 ≤ i5 ∧ i5 < (List.length a3 : Int) then
        if 0 ≤ i5 ∧ i5 < (List.length b4 : Int) then
          if (!decide ((List.getD a3 (Int.toNat i5) 0) = (List.getD b4 (Int.toNat i5) 0))) = true then
            some false
          else
            l0 n a3 b4 K0 k (IntKind.i64.wrap (i5 + 1))
        else
          none
      else
        none
    else
      K0 ()
def F (n : Nat) (a1 : List Int) (b2 : List Int) : Option Bool :=
  if (!decide ((List.length a1 : Int) = (List.length b2 : Int))) = true then
    some false
  else
    l0 n a1 b2 (fun _ =>
      some true) n 0
noncomputable def code : Code := Try.f27.body.getD .skip
abbrev ash : List ASh := [.ro (.sl (.int .i64)), .ro (.sl (.int .i64))]
abbrev rsh : List RSh := [.ro .bool]
def ent (n : Nat) : FEnt := ⟨ash, rsh, fun v => F n v.1 v.2.1⟩
noncomputable def cx (n : Nat) : Ctx := mkCtx Try.prog TYS []
noncomputable def d : FnD := ⟨code, 26, .nil, [(.tmp 4, .bool, .ro)]⟩
noncomputable def kr (n : Nat) (v : AVs ash) : Env → Option (RVs rsh) := endK (cx n) d (avEnc ash v) (rvDec rsh)
noncomputable def c0 : Code := (Code.l (Code.r (Code.l (Code.r (Code.r code)))))
noncomputable def b0 : Code := Code.l c0
def an : An := .seq .nil (.seq (.seq .nil (.cond (.seq .nil .nil) .nil)) (.seq (.seq .nil (.block (some []) (.cut 0 [0, 1, 5]))) (.seq .nil .nil)))
def an0 : An := .seq (.seq .nil (.cond .nil .nil)) (.seq (.block (some [0, 1, 5]) (.seq .nil (.cond (.seq .nil .nil) .nil))) .nil)
abbrev sh0 : ES := ⟨[(0, .v (.sl (.int .i64))), (1, .v (.sl (.int .i64))), (5, .v (.int .i64))], []⟩
abbrev sh0_0 : ES := ⟨[], []⟩
def T0 (n m : Nat) (e : Env) (kn : Env → Option (RVs rsh)) (kx : Nat → Env → Option (RVs rsh)) : Option (RVs rsh) := ES.on sh0 e fun x => l0 n x.1.1 x.1.2.1 (fun _ => kx 0 (sh0_0.enc ((()), (())))) m x.1.2.2.1
def T (n : Nat) : Tab (RVs rsh) := fun j e kn kx => match j with
  | 0 => T0 n n e kn kx
  | _ => none
theorem co (n : Nat) : CtxOk (cx n) := mkCtx_cok TYS_ok
theorem mx (n : Nat) : (cx n).P.follows .mixedOrders = true := mkCtx_mix MIX
theorem mk (n : Nat) : MOk (cx n) := mkCtx_ok (mem_nil)
theorem us0 : units b0 an0 = [] := by kernel_rfl
theorem e0 (n m : Nat) (v : AVs ash) (x : sh0.V) (kn : Env → Option (RVs rsh)) (kx : Nat → Env → Option (RVs rsh)) : aevT (cx n) 26 (T n) (kr n v) b0 an0 [(0, [])] (meet (some [0, 1, 5]) fun e => T0 n m e kn kx) kx (sh0.enc x) = l0 n x.1.1 x.1.2.1 (fun _ => kx 0 (sh0_0.enc ((()), (())))) (m + 1) x.1.2.2.1 := by kernel_rfl
theorem cl0 : c0 = .loop b0 := by kernel_rfl
theorem u0 (n : Nat) (v : AVs ash) : UnitOk (cx n) 26 (T n) (kr n v) 0 c0 := by
  rw [cl0]
  exact loop_unit (n := n) (co n) (mk n) (mx n) an0 [(0, [])] [0, 1, 5] (T0 n) (fun _ _ _ => rfl) (fun e kn kx out h => by obtain ⟨x, _, h⟩ := ES.on_inv h; cases h) (fun m e kn kx out h => by obtain ⟨x, rfl, h⟩ := ES.on_inv h; exact (e0 n m v x kn kx).trans h) (units_of us0 (mem_nil))
theorem us : units code an = [(0, c0)] := by kernel_rfl
theorem eqn (n : Nat) (v : AVs ash) : fnEvT (cx n) d an (T n) (avEnc ash v) (rvDec rsh) = F n v.1 v.2.1 := by kernel_rfl
theorem ok (n : Nat) : EntOk Try.prog 27 (ent n) :=
  ent_ok (c := cx n) (e := ent n) (d := d) (an := an) (fn := Try.f27) (co n) (mk n) (mx n) (by kernel_rfl) (by kernel_rfl) (by kernel_rfl) (by kernel_rfl) (by kernel_rfl) (fun _ => T n) (fun v => units_of us (mem_cons (u0 n v) mem_nil)) (eqn n)
end laws_eqIntS
/-! laws.eqStringS -/
namespace laws_eqStringS
def l0 (n : Nat) (a3 : List ByteArray) (b4 : List ByteArray) (K0 : Unit → Option Bool) : Nat → Int → Option Bool
  | 0, _ => none
  | k + 1, i5 =>
    if decide (i5 < (List.length a3 : Int)) = true then
      if 0 ≤ i5 ∧ i5 < (List.length a3 : Int) then
        if 0 ≤ i5 ∧ i5 < (List.length b4 : Int) then
          if (!(Abs.seq (List.getD a3 (Int.toNat i5) ByteArray.empty) (List.getD b4 (Int.toNat i5) ByteArray.empty))) = true then
            some false
          else
            l0 n a3 b4 K0 k (IntKind.i64.wrap (i5 + 1))
        else
          none
      else
        none
    else
      K0 ()
def F (n : Nat) (a1 : List ByteArray) (b2 : List ByteArray) : Option Bool :=
  if (!decide ((List.length a1 : Int) = (List.length b2 : Int))) = true then
    some false
  else
    l0 n a1 b2 (fun _ =>
      some true) n 0
noncomputable def code : Code := Try.f79.body.getD .skip
abbrev ash : List ASh := [.ro (.sl (.str)), .ro (.sl (.str))]
abbrev rsh : List RSh := [.ro .bool]
def ent (n : Nat) : FEnt := ⟨ash, rsh, fun v => F n v.1 v.2.1⟩
noncomputable def cx (n : Nat) : Ctx := mkCtx Try.prog TYS []
noncomputable def d : FnD := ⟨code, 26, .nil, [(.tmp 4, .bool, .ro)]⟩
noncomputable def kr (n : Nat) (v : AVs ash) : Env → Option (RVs rsh) := endK (cx n) d (avEnc ash v) (rvDec rsh)
noncomputable def c0 : Code := (Code.l (Code.r (Code.l (Code.r (Code.r code)))))
noncomputable def b0 : Code := Code.l c0
def an : An := .seq .nil (.seq (.seq .nil (.cond (.seq .nil .nil) .nil)) (.seq (.seq .nil (.block (some []) (.cut 0 [0, 1, 5]))) (.seq .nil .nil)))
def an0 : An := .seq (.seq .nil (.cond .nil .nil)) (.seq (.block (some [0, 1, 5]) (.seq .nil (.cond (.seq .nil .nil) .nil))) .nil)
abbrev sh0 : ES := ⟨[(0, .v (.sl (.str))), (1, .v (.sl (.str))), (5, .v (.int .i64))], []⟩
abbrev sh0_0 : ES := ⟨[], []⟩
def T0 (n m : Nat) (e : Env) (kn : Env → Option (RVs rsh)) (kx : Nat → Env → Option (RVs rsh)) : Option (RVs rsh) := ES.on sh0 e fun x => l0 n x.1.1 x.1.2.1 (fun _ => kx 0 (sh0_0.enc ((()), (())))) m x.1.2.2.1
def T (n : Nat) : Tab (RVs rsh) := fun j e kn kx => match j with
  | 0 => T0 n n e kn kx
  | _ => none
theorem co (n : Nat) : CtxOk (cx n) := mkCtx_cok TYS_ok
theorem mx (n : Nat) : (cx n).P.follows .mixedOrders = true := mkCtx_mix MIX
theorem mk (n : Nat) : MOk (cx n) := mkCtx_ok (mem_nil)
theorem us0 : units b0 an0 = [] := by kernel_rfl
theorem e0 (n m : Nat) (v : AVs ash) (x : sh0.V) (kn : Env → Option (RVs rsh)) (kx : Nat → Env → Option (RVs rsh)) : aevT (cx n) 26 (T n) (kr n v) b0 an0 [(0, [])] (meet (some [0, 1, 5]) fun e => T0 n m e kn kx) kx (sh0.enc x) = l0 n x.1.1 x.1.2.1 (fun _ => kx 0 (sh0_0.enc ((()), (())))) (m + 1) x.1.2.2.1 := by kernel_rfl
theorem cl0 : c0 = .loop b0 := by kernel_rfl
theorem u0 (n : Nat) (v : AVs ash) : UnitOk (cx n) 26 (T n) (kr n v) 0 c0 := by
  rw [cl0]
  exact loop_unit (n := n) (co n) (mk n) (mx n) an0 [(0, [])] [0, 1, 5] (T0 n) (fun _ _ _ => rfl) (fun e kn kx out h => by obtain ⟨x, _, h⟩ := ES.on_inv h; cases h) (fun m e kn kx out h => by obtain ⟨x, rfl, h⟩ := ES.on_inv h; exact (e0 n m v x kn kx).trans h) (units_of us0 (mem_nil))
theorem us : units code an = [(0, c0)] := by kernel_rfl
theorem eqn (n : Nat) (v : AVs ash) : fnEvT (cx n) d an (T n) (avEnc ash v) (rvDec rsh) = F n v.1 v.2.1 := by kernel_rfl
theorem ok (n : Nat) : EntOk Try.prog 79 (ent n) :=
  ent_ok (c := cx n) (e := ent n) (d := d) (an := an) (fn := Try.f79) (co n) (mk n) (mx n) (by kernel_rfl) (by kernel_rfl) (by kernel_rfl) (by kernel_rfl) (by kernel_rfl) (fun _ => T n) (fun v => units_of us (mem_cons (u0 n v) mem_nil)) (eqn n)
end laws_eqStringS
/-! laws.eqCon -/
namespace laws_eqCon
def F (n : Nat) (a1 : ByteArray × List ByteArray) (b2 : ByteArray × List ByteArray) : Option Bool :=
  if (!(Abs.seq a1.1 b2.1)) = true then
    some false
  else
    (laws_eqStringS.F n a1.2 b2.2).bind fun r3 =>
    if (!r3) = true then
      some false
    else
      some true
noncomputable def code : Code := Try.f142.body.getD .skip
abbrev ash : List ASh := [.ro (.st (.pair (.str) (.sl (.str)))), .ro (.st (.pair (.str) (.sl (.str))))]
abbrev rsh : List RSh := [.ro .bool]
def ent (n : Nat) : FEnt := ⟨ash, rsh, fun v => F n v.1 v.2.1⟩
noncomputable def cx (n : Nat) : Ctx := mkCtx Try.prog TYS [(79, laws_eqStringS.ent n)]
noncomputable def d : FnD := ⟨code, 16, .nil, [(.tmp 4, .bool, .ro)]⟩
noncomputable def kr (n : Nat) (v : AVs ash) : Env → Option (RVs rsh) := endK (cx n) d (avEnc ash v) (rvDec rsh)
def an : An := .seq .nil (.seq (.seq .nil (.cond (.seq .nil .nil) .nil)) (.seq (.seq .nil (.cond (.seq .nil .nil) .nil)) (.seq .nil .nil)))
def T (n : Nat) : Tab (RVs rsh) := fun j e kn kx => match j with
  | _ => none
theorem co (n : Nat) : CtxOk (cx n) := mkCtx_cok TYS_ok
theorem mx (n : Nat) : (cx n).P.follows .mixedOrders = true := mkCtx_mix MIX
theorem mk (n : Nat) : MOk (cx n) := mkCtx_ok (mem_cons (laws_eqStringS.ok n) mem_nil)
theorem us : units code an = [] := by kernel_rfl
theorem eqn (n : Nat) (v : AVs ash) : fnEvT (cx n) d an (T n) (avEnc ash v) (rvDec rsh) = F n v.1 v.2.1 := by kernel_rfl
theorem ok (n : Nat) : EntOk Try.prog 142 (ent n) :=
  ent_ok (c := cx n) (e := ent n) (d := d) (an := an) (fn := Try.f142) (co n) (mk n) (mx n) (by kernel_rfl) (by kernel_rfl) (by kernel_rfl) (by kernel_rfl) (by kernel_rfl) (fun _ => T n) (fun v => units_of us (mem_nil)) (eqn n)
end laws_eqCon
/-! laws.eqConS -/
namespace laws_eqConS
def l0 (n : Nat) (a3 : List (ByteArray × List ByteArray)) (b4 : List (ByteArray × List ByteArray)) (K0 : Unit → Option Bool) : Nat → Int → Option Bool
  | 0, _ => none
  | k + 1, i5 =>
    if decide (i5 < (List.length a3 : Int)) = true then
      if 0 ≤ i5 ∧ i5 < (List.length a3 : Int) then
        if 0 ≤ i5 ∧ i5 < (List.length b4 : Int) then
          (laws_eqCon.F n (List.getD a3 (Int.toNat i5) (ByteArray.empty, [])) (List.getD b4 (Int.toNat i5) (ByteArray.empty, []))).bind fun r6 =>
          if (!r6) = true then
            some false
          else
            l0 n a3 b4 K0 k (IntKind.i64.wrap (i5 + 1))
        else
          none
      else
        none
    else
      K0 ()
def F (n : Nat) (a1 : List (ByteArray × List ByteArray)) (b2 : List (ByteArray × List ByteArray)) : Option Bool :=
  if (!decide ((List.length a1 : Int) = (List.length b2 : Int))) = true then
    some false
  else
    l0 n a1 b2 (fun _ =>
      some true) n 0
noncomputable def code : Code := Try.f130.body.getD .skip
abbrev ash : List ASh := [.ro (.sl (.st (.pair (.str) (.sl (.str))))), .ro (.sl (.st (.pair (.str) (.sl (.str)))))]
abbrev rsh : List RSh := [.ro .bool]
def ent (n : Nat) : FEnt := ⟨ash, rsh, fun v => F n v.1 v.2.1⟩
noncomputable def cx (n : Nat) : Ctx := mkCtx Try.prog TYS [(142, laws_eqCon.ent n)]
noncomputable def d : FnD := ⟨code, 27, .nil, [(.tmp 4, .bool, .ro)]⟩
noncomputable def kr (n : Nat) (v : AVs ash) : Env → Option (RVs rsh) := endK (cx n) d (avEnc ash v) (rvDec rsh)
noncomputable def c0 : Code := (Code.l (Code.r (Code.l (Code.r (Code.r code)))))
noncomputable def b0 : Code := Code.l c0
def an : An := .seq .nil (.seq (.seq .nil (.cond (.seq .nil .nil) .nil)) (.seq (.seq .nil (.block (some []) (.cut 0 [0, 1, 5]))) (.seq .nil .nil)))
def an0 : An := .seq (.seq .nil (.cond .nil .nil)) (.seq (.block (some [0, 1, 5]) (.seq .nil (.cond (.seq .nil .nil) .nil))) .nil)
abbrev sh0 : ES := ⟨[(0, .v (.sl (.st (.pair (.str) (.sl (.str)))))), (1, .v (.sl (.st (.pair (.str) (.sl (.str)))))), (5, .v (.int .i64))], []⟩
abbrev sh0_0 : ES := ⟨[], []⟩
def T0 (n m : Nat) (e : Env) (kn : Env → Option (RVs rsh)) (kx : Nat → Env → Option (RVs rsh)) : Option (RVs rsh) := ES.on sh0 e fun x => l0 n x.1.1 x.1.2.1 (fun _ => kx 0 (sh0_0.enc ((()), (())))) m x.1.2.2.1
def T (n : Nat) : Tab (RVs rsh) := fun j e kn kx => match j with
  | 0 => T0 n n e kn kx
  | _ => none
theorem co (n : Nat) : CtxOk (cx n) := mkCtx_cok TYS_ok
theorem mx (n : Nat) : (cx n).P.follows .mixedOrders = true := mkCtx_mix MIX
theorem mk (n : Nat) : MOk (cx n) := mkCtx_ok (mem_cons (laws_eqCon.ok n) mem_nil)
theorem us0 : units b0 an0 = [] := by kernel_rfl
theorem e0 (n m : Nat) (v : AVs ash) (x : sh0.V) (kn : Env → Option (RVs rsh)) (kx : Nat → Env → Option (RVs rsh)) : aevT (cx n) 27 (T n) (kr n v) b0 an0 [(0, [])] (meet (some [0, 1, 5]) fun e => T0 n m e kn kx) kx (sh0.enc x) = l0 n x.1.1 x.1.2.1 (fun _ => kx 0 (sh0_0.enc ((()), (())))) (m + 1) x.1.2.2.1 := by kernel_rfl
theorem cl0 : c0 = .loop b0 := by kernel_rfl
theorem u0 (n : Nat) (v : AVs ash) : UnitOk (cx n) 27 (T n) (kr n v) 0 c0 := by
  rw [cl0]
  exact loop_unit (n := n) (co n) (mk n) (mx n) an0 [(0, [])] [0, 1, 5] (T0 n) (fun _ _ _ => rfl) (fun e kn kx out h => by obtain ⟨x, _, h⟩ := ES.on_inv h; cases h) (fun m e kn kx out h => by obtain ⟨x, rfl, h⟩ := ES.on_inv h; exact (e0 n m v x kn kx).trans h) (units_of us0 (mem_nil))
theorem us : units code an = [(0, c0)] := by kernel_rfl
theorem eqn (n : Nat) (v : AVs ash) : fnEvT (cx n) d an (T n) (avEnc ash v) (rvDec rsh) = F n v.1 v.2.1 := by kernel_rfl
theorem ok (n : Nat) : EntOk Try.prog 130 (ent n) :=
  ent_ok (c := cx n) (e := ent n) (d := d) (an := an) (fn := Try.f130) (co n) (mk n) (mx n) (by kernel_rfl) (by kernel_rfl) (by kernel_rfl) (by kernel_rfl) (by kernel_rfl) (fun _ => T n) (fun v => units_of us (mem_cons (u0 n v) mem_nil)) (eqn n)
end laws_eqConS
/-! laws.eqTypeDecl -/
namespace laws_eqTypeDecl
def F (n : Nat) (a1 : ByteArray × List (ByteArray × List ByteArray)) (b2 : ByteArray × List (ByteArray × List ByteArray)) : Option Bool :=
  if (!(Abs.seq a1.1 b2.1)) = true then
    some false
  else
    (laws_eqConS.F n a1.2 b2.2).bind fun r3 =>
    if (!r3) = true then
      some false
    else
      some true
noncomputable def code : Code := Try.f109.body.getD .skip
abbrev ash : List ASh := [.ro (.st (.pair (.str) (.sl (.st (.pair (.str) (.sl (.str))))))), .ro (.st (.pair (.str) (.sl (.st (.pair (.str) (.sl (.str)))))))]
abbrev rsh : List RSh := [.ro .bool]
def ent (n : Nat) : FEnt := ⟨ash, rsh, fun v => F n v.1 v.2.1⟩
noncomputable def cx (n : Nat) : Ctx := mkCtx Try.prog TYS [(130, laws_eqConS.ent n)]
noncomputable def d : FnD := ⟨code, 16, .nil, [(.tmp 4, .bool, .ro)]⟩
noncomputable def kr (n : Nat) (v : AVs ash) : Env → Option (RVs rsh) := endK (cx n) d (avEnc ash v) (rvDec rsh)
def an : An := .seq .nil (.seq (.seq .nil (.cond (.seq .nil .nil) .nil)) (.seq (.seq .nil (.cond (.seq .nil .nil) .nil)) (.seq .nil .nil)))
def T (n : Nat) : Tab (RVs rsh) := fun j e kn kx => match j with
  | _ => none
theorem co (n : Nat) : CtxOk (cx n) := mkCtx_cok TYS_ok
theorem mx (n : Nat) : (cx n).P.follows .mixedOrders = true := mkCtx_mix MIX
theorem mk (n : Nat) : MOk (cx n) := mkCtx_ok (mem_cons (laws_eqConS.ok n) mem_nil)
theorem us : units code an = [] := by kernel_rfl
theorem eqn (n : Nat) (v : AVs ash) : fnEvT (cx n) d an (T n) (avEnc ash v) (rvDec rsh) = F n v.1 v.2.1 := by kernel_rfl
theorem ok (n : Nat) : EntOk Try.prog 109 (ent n) :=
  ent_ok (c := cx n) (e := ent n) (d := d) (an := an) (fn := Try.f109) (co n) (mk n) (mx n) (by kernel_rfl) (by kernel_rfl) (by kernel_rfl) (by kernel_rfl) (by kernel_rfl) (fun _ => T n) (fun v => units_of us (mem_nil)) (eqn n)
end laws_eqTypeDecl
/-! laws.eqTypeDeclS -/
namespace laws_eqTypeDeclS
def l0 (n : Nat) (a3 : List (ByteArray × List (ByteArray × List ByteArray))) (b4 : List (ByteArray × List (ByteArray × List ByteArray))) (K0 : Unit → Option Bool) : Nat → Int → Option Bool
  | 0, _ => none
  | k + 1, i5 =>
    if decide (i5 < (List.length a3 : Int)) = true then
      if 0 ≤ i5 ∧ i5 < (List.length a3 : Int) then
        if 0 ≤ i5 ∧ i5 < (List.length b4 : Int) then
          (laws_eqTypeDecl.F n (List.getD a3 (Int.toNat i5) (ByteArray.empty, [])) (List.getD b4 (Int.toNat i5) (ByteArray.empty, []))).bind fun r6 =>
          if (!r6) = true then
            some false
          else
            l0 n a3 b4 K0 k (IntKind.i64.wrap (i5 + 1))
        else
          none
      else
        none
    else
      K0 ()
def F (n : Nat) (a1 : List (ByteArray × List (ByteArray × List ByteArray))) (b2 : List (ByteArray × List (ByteArray × List ByteArray))) : Option Bool :=
  if (!decide ((List.length a1 : Int) = (List.length b2 : Int))) = true then
    some false
  else
    l0 n a1 b2 (fun _ =>
      some true) n 0
noncomputable def code : Code := Try.f69.body.getD .skip
abbrev ash : List ASh := [.ro (.sl (.st (.pair (.str) (.sl (.st (.pair (.str) (.sl (.str)))))))), .ro (.sl (.st (.pair (.str) (.sl (.st (.pair (.str) (.sl (.str))))))))]
abbrev rsh : List RSh := [.ro .bool]
def ent (n : Nat) : FEnt := ⟨ash, rsh, fun v => F n v.1 v.2.1⟩
noncomputable def cx (n : Nat) : Ctx := mkCtx Try.prog TYS [(109, laws_eqTypeDecl.ent n)]
noncomputable def d : FnD := ⟨code, 27, .nil, [(.tmp 4, .bool, .ro)]⟩
noncomputable def kr (n : Nat) (v : AVs ash) : Env → Option (RVs rsh) := endK (cx n) d (avEnc ash v) (rvDec rsh)
noncomputable def c0 : Code := (Code.l (Code.r (Code.l (Code.r (Code.r code)))))
noncomputable def b0 : Code := Code.l c0
def an : An := .seq .nil (.seq (.seq .nil (.cond (.seq .nil .nil) .nil)) (.seq (.seq .nil (.block (some []) (.cut 0 [0, 1, 5]))) (.seq .nil .nil)))
def an0 : An := .seq (.seq .nil (.cond .nil .nil)) (.seq (.block (some [0, 1, 5]) (.seq .nil (.cond (.seq .nil .nil) .nil))) .nil)
abbrev sh0 : ES := ⟨[(0, .v (.sl (.st (.pair (.str) (.sl (.st (.pair (.str) (.sl (.str))))))))), (1, .v (.sl (.st (.pair (.str) (.sl (.st (.pair (.str) (.sl (.str))))))))), (5, .v (.int .i64))], []⟩
abbrev sh0_0 : ES := ⟨[], []⟩
def T0 (n m : Nat) (e : Env) (kn : Env → Option (RVs rsh)) (kx : Nat → Env → Option (RVs rsh)) : Option (RVs rsh) := ES.on sh0 e fun x => l0 n x.1.1 x.1.2.1 (fun _ => kx 0 (sh0_0.enc ((()), (())))) m x.1.2.2.1
def T (n : Nat) : Tab (RVs rsh) := fun j e kn kx => match j with
  | 0 => T0 n n e kn kx
  | _ => none
theorem co (n : Nat) : CtxOk (cx n) := mkCtx_cok TYS_ok
theorem mx (n : Nat) : (cx n).P.follows .mixedOrders = true := mkCtx_mix MIX
theorem mk (n : Nat) : MOk (cx n) := mkCtx_ok (mem_cons (laws_eqTypeDecl.ok n) mem_nil)
theorem us0 : units b0 an0 = [] := by kernel_rfl
theorem e0 (n m : Nat) (v : AVs ash) (x : sh0.V) (kn : Env → Option (RVs rsh)) (kx : Nat → Env → Option (RVs rsh)) : aevT (cx n) 27 (T n) (kr n v) b0 an0 [(0, [])] (meet (some [0, 1, 5]) fun e => T0 n m e kn kx) kx (sh0.enc x) = l0 n x.1.1 x.1.2.1 (fun _ => kx 0 (sh0_0.enc ((()), (())))) (m + 1) x.1.2.2.1 := by kernel_rfl
theorem cl0 : c0 = .loop b0 := by kernel_rfl
theorem u0 (n : Nat) (v : AVs ash) : UnitOk (cx n) 27 (T n) (kr n v) 0 c0 := by
  rw [cl0]
  exact loop_unit (n := n) (co n) (mk n) (mx n) an0 [(0, [])] [0, 1, 5] (T0 n) (fun _ _ _ => rfl) (fun e kn kx out h => by obtain ⟨x, _, h⟩ := ES.on_inv h; cases h) (fun m e kn kx out h => by obtain ⟨x, rfl, h⟩ := ES.on_inv h; exact (e0 n m v x kn kx).trans h) (units_of us0 (mem_nil))
theorem us : units code an = [(0, c0)] := by kernel_rfl
theorem eqn (n : Nat) (v : AVs ash) : fnEvT (cx n) d an (T n) (avEnc ash v) (rvDec rsh) = F n v.1 v.2.1 := by kernel_rfl
theorem ok (n : Nat) : EntOk Try.prog 69 (ent n) :=
  ent_ok (c := cx n) (e := ent n) (d := d) (an := an) (fn := Try.f69) (co n) (mk n) (mx n) (by kernel_rfl) (by kernel_rfl) (by kernel_rfl) (by kernel_rfl) (by kernel_rfl) (fun _ => T n) (fun v => units_of us (mem_cons (u0 n v) mem_nil)) (eqn n)
end laws_eqTypeDeclS
/-! laws.eqRelDecl -/
namespace laws_eqRelDecl
def F (n : Nat) (a1 : ByteArray × (List ByteArray) × Int) (b2 : ByteArray × (List ByteArray) × Int) : Option Bool :=
  if (!(Abs.seq a1.1 b2.1)) = true then
    some false
  else
    (laws_eqStringS.F n a1.2.1 b2.2.1).bind fun r3 =>
    if (!r3) = true then
      some false
    else
      if (!decide (a1.2.2 = b2.2.2)) = true then
        some false
      else
        some true
noncomputable def code : Code := Try.f110.body.getD .skip
abbrev ash : List ASh := [.ro (.st (.pair (.str) (.pair (.sl (.str)) (.int .i64)))), .ro (.st (.pair (.str) (.pair (.sl (.str)) (.int .i64))))]
abbrev rsh : List RSh := [.ro .bool]
def ent (n : Nat) : FEnt := ⟨ash, rsh, fun v => F n v.1 v.2.1⟩
noncomputable def cx (n : Nat) : Ctx := mkCtx Try.prog TYS [(79, laws_eqStringS.ent n)]
noncomputable def d : FnD := ⟨code, 21, .nil, [(.tmp 4, .bool, .ro)]⟩
noncomputable def kr (n : Nat) (v : AVs ash) : Env → Option (RVs rsh) := endK (cx n) d (avEnc ash v) (rvDec rsh)
def an : An := .seq .nil (.seq (.seq .nil (.cond (.seq .nil .nil) .nil)) (.seq (.seq .nil (.cond (.seq .nil .nil) .nil)) (.seq (.seq .nil (.cond (.seq .nil .nil) .nil)) (.seq .nil .nil))))
def T (n : Nat) : Tab (RVs rsh) := fun j e kn kx => match j with
  | _ => none
theorem co (n : Nat) : CtxOk (cx n) := mkCtx_cok TYS_ok
theorem mx (n : Nat) : (cx n).P.follows .mixedOrders = true := mkCtx_mix MIX
theorem mk (n : Nat) : MOk (cx n) := mkCtx_ok (mem_cons (laws_eqStringS.ok n) mem_nil)
theorem us : units code an = [] := by kernel_rfl
theorem eqn (n : Nat) (v : AVs ash) : fnEvT (cx n) d an (T n) (avEnc ash v) (rvDec rsh) = F n v.1 v.2.1 := by kernel_rfl
theorem ok (n : Nat) : EntOk Try.prog 110 (ent n) :=
  ent_ok (c := cx n) (e := ent n) (d := d) (an := an) (fn := Try.f110) (co n) (mk n) (mx n) (by kernel_rfl) (by kernel_rfl) (by kernel_rfl) (by kernel_rfl) (by kernel_rfl) (fun _ => T n) (fun v => units_of us (mem_nil)) (eqn n)
end laws_eqRelDecl
/-! laws.eqRelDeclS -/
namespace laws_eqRelDeclS
def l0 (n : Nat) (a3 : List (ByteArray × (List ByteArray) × Int)) (b4 : List (ByteArray × (List ByteArray) × Int)) (K0 : Unit → Option Bool) : Nat → Int → Option Bool
  | 0, _ => none
  | k + 1, i5 =>
    if decide (i5 < (List.length a3 : Int)) = true then
      if 0 ≤ i5 ∧ i5 < (List.length a3 : Int) then
        if 0 ≤ i5 ∧ i5 < (List.length b4 : Int) then
          (laws_eqRelDecl.F n (List.getD a3 (Int.toNat i5) (ByteArray.empty, ([], 0))) (List.getD b4 (Int.toNat i5) (ByteArray.empty, ([], 0)))).bind fun r6 =>
          if (!r6) = true then
            some false
          else
            l0 n a3 b4 K0 k (IntKind.i64.wrap (i5 + 1))
        else
          none
      else
        none
    else
      K0 ()
def F (n : Nat) (a1 : List (ByteArray × (List ByteArray) × Int)) (b2 : List (ByteArray × (List ByteArray) × Int)) : Option Bool :=
  if (!decide ((List.length a1 : Int) = (List.length b2 : Int))) = true then
    some false
  else
    l0 n a1 b2 (fun _ =>
      some true) n 0
noncomputable def code : Code := Try.f70.body.getD .skip
abbrev ash : List ASh := [.ro (.sl (.st (.pair (.str) (.pair (.sl (.str)) (.int .i64))))), .ro (.sl (.st (.pair (.str) (.pair (.sl (.str)) (.int .i64)))))]
abbrev rsh : List RSh := [.ro .bool]
def ent (n : Nat) : FEnt := ⟨ash, rsh, fun v => F n v.1 v.2.1⟩
noncomputable def cx (n : Nat) : Ctx := mkCtx Try.prog TYS [(110, laws_eqRelDecl.ent n)]
noncomputable def d : FnD := ⟨code, 27, .nil, [(.tmp 4, .bool, .ro)]⟩
noncomputable def kr (n : Nat) (v : AVs ash) : Env → Option (RVs rsh) := endK (cx n) d (avEnc ash v) (rvDec rsh)
noncomputable def c0 : Code := (Code.l (Code.r (Code.l (Code.r (Code.r code)))))
noncomputable def b0 : Code := Code.l c0
def an : An := .seq .nil (.seq (.seq .nil (.cond (.seq .nil .nil) .nil)) (.seq (.seq .nil (.block (some []) (.cut 0 [0, 1, 5]))) (.seq .nil .nil)))
def an0 : An := .seq (.seq .nil (.cond .nil .nil)) (.seq (.block (some [0, 1, 5]) (.seq .nil (.cond (.seq .nil .nil) .nil))) .nil)
abbrev sh0 : ES := ⟨[(0, .v (.sl (.st (.pair (.str) (.pair (.sl (.str)) (.int .i64)))))), (1, .v (.sl (.st (.pair (.str) (.pair (.sl (.str)) (.int .i64)))))), (5, .v (.int .i64))], []⟩
abbrev sh0_0 : ES := ⟨[], []⟩
def T0 (n m : Nat) (e : Env) (kn : Env → Option (RVs rsh)) (kx : Nat → Env → Option (RVs rsh)) : Option (RVs rsh) := ES.on sh0 e fun x => l0 n x.1.1 x.1.2.1 (fun _ => kx 0 (sh0_0.enc ((()), (())))) m x.1.2.2.1
def T (n : Nat) : Tab (RVs rsh) := fun j e kn kx => match j with
  | 0 => T0 n n e kn kx
  | _ => none
theorem co (n : Nat) : CtxOk (cx n) := mkCtx_cok TYS_ok
theorem mx (n : Nat) : (cx n).P.follows .mixedOrders = true := mkCtx_mix MIX
theorem mk (n : Nat) : MOk (cx n) := mkCtx_ok (mem_cons (laws_eqRelDecl.ok n) mem_nil)
theorem us0 : units b0 an0 = [] := by kernel_rfl
theorem e0 (n m : Nat) (v : AVs ash) (x : sh0.V) (kn : Env → Option (RVs rsh)) (kx : Nat → Env → Option (RVs rsh)) : aevT (cx n) 27 (T n) (kr n v) b0 an0 [(0, [])] (meet (some [0, 1, 5]) fun e => T0 n m e kn kx) kx (sh0.enc x) = l0 n x.1.1 x.1.2.1 (fun _ => kx 0 (sh0_0.enc ((()), (())))) (m + 1) x.1.2.2.1 := by kernel_rfl
theorem cl0 : c0 = .loop b0 := by kernel_rfl
theorem u0 (n : Nat) (v : AVs ash) : UnitOk (cx n) 27 (T n) (kr n v) 0 c0 := by
  rw [cl0]
  exact loop_unit (n := n) (co n) (mk n) (mx n) an0 [(0, [])] [0, 1, 5] (T0 n) (fun _ _ _ => rfl) (fun e kn kx out h => by obtain ⟨x, _, h⟩ := ES.on_inv h; cases h) (fun m e kn kx out h => by obtain ⟨x, rfl, h⟩ := ES.on_inv h; exact (e0 n m v x kn kx).trans h) (units_of us0 (mem_nil))
theorem us : units code an = [(0, c0)] := by kernel_rfl
theorem eqn (n : Nat) (v : AVs ash) : fnEvT (cx n) d an (T n) (avEnc ash v) (rvDec rsh) = F n v.1 v.2.1 := by kernel_rfl
theorem ok (n : Nat) : EntOk Try.prog 70 (ent n) :=
  ent_ok (c := cx n) (e := ent n) (d := d) (an := an) (fn := Try.f70) (co n) (mk n) (mx n) (by kernel_rfl) (by kernel_rfl) (by kernel_rfl) (by kernel_rfl) (by kernel_rfl) (fun _ => T n) (fun v => units_of us (mem_cons (u0 n v) mem_nil)) (eqn n)
end laws_eqRelDeclS
/-! laws.eqExp -/
namespace laws_eqExp
def F (n : Nat) (a1 : Int × ByteArray × List Int) (b2 : Int × ByteArray × List Int) : Option Bool :=
  if (!decide (a1.1 = b2.1)) = true then
    some false
  else
    if (!(Abs.seq a1.2.1 b2.2.1)) = true then
      some false
    else
      (laws_eqIntS.F n a1.2.2 b2.2.2).bind fun r3 =>
      if (!r3) = true then
        some false
      else
        some true
noncomputable def code : Code := Try.f104.body.getD .skip
abbrev ash : List ASh := [.ro (.st (.pair (.int .i64) (.pair (.str) (.sl (.int .i64))))), .ro (.st (.pair (.int .i64) (.pair (.str) (.sl (.int .i64)))))]
abbrev rsh : List RSh := [.ro .bool]
def ent (n : Nat) : FEnt := ⟨ash, rsh, fun v => F n v.1 v.2.1⟩
noncomputable def cx (n : Nat) : Ctx := mkCtx Try.prog TYS [(27, laws_eqIntS.ent n)]
noncomputable def d : FnD := ⟨code, 21, .nil, [(.tmp 4, .bool, .ro)]⟩
noncomputable def kr (n : Nat) (v : AVs ash) : Env → Option (RVs rsh) := endK (cx n) d (avEnc ash v) (rvDec rsh)
def an : An := .seq .nil (.seq (.seq .nil (.cond (.seq .nil .nil) .nil)) (.seq (.seq .nil (.cond (.seq .nil .nil) .nil)) (.seq (.seq .nil (.cond (.seq .nil .nil) .nil)) (.seq .nil .nil))))
def T (n : Nat) : Tab (RVs rsh) := fun j e kn kx => match j with
  | _ => none
theorem co (n : Nat) : CtxOk (cx n) := mkCtx_cok TYS_ok
theorem mx (n : Nat) : (cx n).P.follows .mixedOrders = true := mkCtx_mix MIX
theorem mk (n : Nat) : MOk (cx n) := mkCtx_ok (mem_cons (laws_eqIntS.ok n) mem_nil)
theorem us : units code an = [] := by kernel_rfl
theorem eqn (n : Nat) (v : AVs ash) : fnEvT (cx n) d an (T n) (avEnc ash v) (rvDec rsh) = F n v.1 v.2.1 := by kernel_rfl
theorem ok (n : Nat) : EntOk Try.prog 104 (ent n) :=
  ent_ok (c := cx n) (e := ent n) (d := d) (an := an) (fn := Try.f104) (co n) (mk n) (mx n) (by kernel_rfl) (by kernel_rfl) (by kernel_rfl) (by kernel_rfl) (by kernel_rfl) (fun _ => T n) (fun v => units_of us (mem_nil)) (eqn n)
end laws_eqExp
/-! laws.eqExpS -/
namespace laws_eqExpS
def l0 (n : Nat) (a3 : List (Int × ByteArray × List Int)) (b4 : List (Int × ByteArray × List Int)) (K0 : Unit → Option Bool) : Nat → Int → Option Bool
  | 0, _ => none
  | k + 1, i5 =>
    if decide (i5 < (List.length a3 : Int)) = true then
      if 0 ≤ i5 ∧ i5 < (List.length a3 : Int) then
        if 0 ≤ i5 ∧ i5 < (List.length b4 : Int) then
          (laws_eqExp.F n (List.getD a3 (Int.toNat i5) (0, (ByteArray.empty, []))) (List.getD b4 (Int.toNat i5) (0, (ByteArray.empty, [])))).bind fun r6 =>
          if (!r6) = true then
            some false
          else
            l0 n a3 b4 K0 k (IntKind.i64.wrap (i5 + 1))
        else
          none
      else
        none
    else
      K0 ()
def F (n : Nat) (a1 : List (Int × ByteArray × List Int)) (b2 : List (Int × ByteArray × List Int)) : Option Bool :=
  if (!decide ((List.length a1 : Int) = (List.length b2 : Int))) = true then
    some false
  else
    l0 n a1 b2 (fun _ =>
      some true) n 0
noncomputable def code : Code := Try.f59.body.getD .skip
abbrev ash : List ASh := [.ro (.sl (.st (.pair (.int .i64) (.pair (.str) (.sl (.int .i64)))))), .ro (.sl (.st (.pair (.int .i64) (.pair (.str) (.sl (.int .i64))))))]
abbrev rsh : List RSh := [.ro .bool]
def ent (n : Nat) : FEnt := ⟨ash, rsh, fun v => F n v.1 v.2.1⟩
noncomputable def cx (n : Nat) : Ctx := mkCtx Try.prog TYS [(104, laws_eqExp.ent n)]
noncomputable def d : FnD := ⟨code, 27, .nil, [(.tmp 4, .bool, .ro)]⟩
noncomputable def kr (n : Nat) (v : AVs ash) : Env → Option (RVs rsh) := endK (cx n) d (avEnc ash v) (rvDec rsh)
noncomputable def c0 : Code := (Code.l (Code.r (Code.l (Code.r (Code.r code)))))
noncomputable def b0 : Code := Code.l c0
def an : An := .seq .nil (.seq (.seq .nil (.cond (.seq .nil .nil) .nil)) (.seq (.seq .nil (.block (some []) (.cut 0 [0, 1, 5]))) (.seq .nil .nil)))
def an0 : An := .seq (.seq .nil (.cond .nil .nil)) (.seq (.block (some [0, 1, 5]) (.seq .nil (.cond (.seq .nil .nil) .nil))) .nil)
abbrev sh0 : ES := ⟨[(0, .v (.sl (.st (.pair (.int .i64) (.pair (.str) (.sl (.int .i64))))))), (1, .v (.sl (.st (.pair (.int .i64) (.pair (.str) (.sl (.int .i64))))))), (5, .v (.int .i64))], []⟩
abbrev sh0_0 : ES := ⟨[], []⟩
def T0 (n m : Nat) (e : Env) (kn : Env → Option (RVs rsh)) (kx : Nat → Env → Option (RVs rsh)) : Option (RVs rsh) := ES.on sh0 e fun x => l0 n x.1.1 x.1.2.1 (fun _ => kx 0 (sh0_0.enc ((()), (())))) m x.1.2.2.1
def T (n : Nat) : Tab (RVs rsh) := fun j e kn kx => match j with
  | 0 => T0 n n e kn kx
  | _ => none
theorem co (n : Nat) : CtxOk (cx n) := mkCtx_cok TYS_ok
theorem mx (n : Nat) : (cx n).P.follows .mixedOrders = true := mkCtx_mix MIX
theorem mk (n : Nat) : MOk (cx n) := mkCtx_ok (mem_cons (laws_eqExp.ok n) mem_nil)
theorem us0 : units b0 an0 = [] := by kernel_rfl
theorem e0 (n m : Nat) (v : AVs ash) (x : sh0.V) (kn : Env → Option (RVs rsh)) (kx : Nat → Env → Option (RVs rsh)) : aevT (cx n) 27 (T n) (kr n v) b0 an0 [(0, [])] (meet (some [0, 1, 5]) fun e => T0 n m e kn kx) kx (sh0.enc x) = l0 n x.1.1 x.1.2.1 (fun _ => kx 0 (sh0_0.enc ((()), (())))) (m + 1) x.1.2.2.1 := by kernel_rfl
theorem cl0 : c0 = .loop b0 := by kernel_rfl
theorem u0 (n : Nat) (v : AVs ash) : UnitOk (cx n) 27 (T n) (kr n v) 0 c0 := by
  rw [cl0]
  exact loop_unit (n := n) (co n) (mk n) (mx n) an0 [(0, [])] [0, 1, 5] (T0 n) (fun _ _ _ => rfl) (fun e kn kx out h => by obtain ⟨x, _, h⟩ := ES.on_inv h; cases h) (fun m e kn kx out h => by obtain ⟨x, rfl, h⟩ := ES.on_inv h; exact (e0 n m v x kn kx).trans h) (units_of us0 (mem_nil))
theorem us : units code an = [(0, c0)] := by kernel_rfl
theorem eqn (n : Nat) (v : AVs ash) : fnEvT (cx n) d an (T n) (avEnc ash v) (rvDec rsh) = F n v.1 v.2.1 := by kernel_rfl
theorem ok (n : Nat) : EntOk Try.prog 59 (ent n) :=
  ent_ok (c := cx n) (e := ent n) (d := d) (an := an) (fn := Try.f59) (co n) (mk n) (mx n) (by kernel_rfl) (by kernel_rfl) (by kernel_rfl) (by kernel_rfl) (by kernel_rfl) (fun _ => T n) (fun v => units_of us (mem_cons (u0 n v) mem_nil)) (eqn n)
end laws_eqExpS
/-! laws.eqLit -/
namespace laws_eqLit
def F (n : Nat) (a1 : Int × ByteArray × List Int) (b2 : Int × ByteArray × List Int) : Option Bool :=
  if (!decide (a1.1 = b2.1)) = true then
    some false
  else
    if (!(Abs.seq a1.2.1 b2.2.1)) = true then
      some false
    else
      (laws_eqIntS.F n a1.2.2 b2.2.2).bind fun r3 =>
      if (!r3) = true then
        some false
      else
        some true
noncomputable def code : Code := Try.f60.body.getD .skip
abbrev ash : List ASh := [.ro (.st (.pair (.int .i64) (.pair (.str) (.sl (.int .i64))))), .ro (.st (.pair (.int .i64) (.pair (.str) (.sl (.int .i64)))))]
abbrev rsh : List RSh := [.ro .bool]
def ent (n : Nat) : FEnt := ⟨ash, rsh, fun v => F n v.1 v.2.1⟩
noncomputable def cx (n : Nat) : Ctx := mkCtx Try.prog TYS [(27, laws_eqIntS.ent n)]
noncomputable def d : FnD := ⟨code, 21, .nil, [(.tmp 4, .bool, .ro)]⟩
noncomputable def kr (n : Nat) (v : AVs ash) : Env → Option (RVs rsh) := endK (cx n) d (avEnc ash v) (rvDec rsh)
def an : An := .seq .nil (.seq (.seq .nil (.cond (.seq .nil .nil) .nil)) (.seq (.seq .nil (.cond (.seq .nil .nil) .nil)) (.seq (.seq .nil (.cond (.seq .nil .nil) .nil)) (.seq .nil .nil))))
def T (n : Nat) : Tab (RVs rsh) := fun j e kn kx => match j with
  | _ => none
theorem co (n : Nat) : CtxOk (cx n) := mkCtx_cok TYS_ok
theorem mx (n : Nat) : (cx n).P.follows .mixedOrders = true := mkCtx_mix MIX
theorem mk (n : Nat) : MOk (cx n) := mkCtx_ok (mem_cons (laws_eqIntS.ok n) mem_nil)
theorem us : units code an = [] := by kernel_rfl
theorem eqn (n : Nat) (v : AVs ash) : fnEvT (cx n) d an (T n) (avEnc ash v) (rvDec rsh) = F n v.1 v.2.1 := by kernel_rfl
theorem ok (n : Nat) : EntOk Try.prog 60 (ent n) :=
  ent_ok (c := cx n) (e := ent n) (d := d) (an := an) (fn := Try.f60) (co n) (mk n) (mx n) (by kernel_rfl) (by kernel_rfl) (by kernel_rfl) (by kernel_rfl) (by kernel_rfl) (fun _ => T n) (fun v => units_of us (mem_nil)) (eqn n)
end laws_eqLit
/-! laws.eqLitS -/
namespace laws_eqLitS
def l0 (n : Nat) (a3 : List (Int × ByteArray × List Int)) (b4 : List (Int × ByteArray × List Int)) (K0 : Unit → Option Bool) : Nat → Int → Option Bool
  | 0, _ => none
  | k + 1, i5 =>
    if decide (i5 < (List.length a3 : Int)) = true then
      if 0 ≤ i5 ∧ i5 < (List.length a3 : Int) then
        if 0 ≤ i5 ∧ i5 < (List.length b4 : Int) then
          (laws_eqLit.F n (List.getD a3 (Int.toNat i5) (0, (ByteArray.empty, []))) (List.getD b4 (Int.toNat i5) (0, (ByteArray.empty, [])))).bind fun r6 =>
          if (!r6) = true then
            some false
          else
            l0 n a3 b4 K0 k (IntKind.i64.wrap (i5 + 1))
        else
          none
      else
        none
    else
      K0 ()
def F (n : Nat) (a1 : List (Int × ByteArray × List Int)) (b2 : List (Int × ByteArray × List Int)) : Option Bool :=
  if (!decide ((List.length a1 : Int) = (List.length b2 : Int))) = true then
    some false
  else
    l0 n a1 b2 (fun _ =>
      some true) n 0
noncomputable def code : Code := Try.f61.body.getD .skip
abbrev ash : List ASh := [.ro (.sl (.st (.pair (.int .i64) (.pair (.str) (.sl (.int .i64)))))), .ro (.sl (.st (.pair (.int .i64) (.pair (.str) (.sl (.int .i64))))))]
abbrev rsh : List RSh := [.ro .bool]
def ent (n : Nat) : FEnt := ⟨ash, rsh, fun v => F n v.1 v.2.1⟩
noncomputable def cx (n : Nat) : Ctx := mkCtx Try.prog TYS [(60, laws_eqLit.ent n)]
noncomputable def d : FnD := ⟨code, 27, .nil, [(.tmp 4, .bool, .ro)]⟩
noncomputable def kr (n : Nat) (v : AVs ash) : Env → Option (RVs rsh) := endK (cx n) d (avEnc ash v) (rvDec rsh)
noncomputable def c0 : Code := (Code.l (Code.r (Code.l (Code.r (Code.r code)))))
noncomputable def b0 : Code := Code.l c0
def an : An := .seq .nil (.seq (.seq .nil (.cond (.seq .nil .nil) .nil)) (.seq (.seq .nil (.block (some []) (.cut 0 [0, 1, 5]))) (.seq .nil .nil)))
def an0 : An := .seq (.seq .nil (.cond .nil .nil)) (.seq (.block (some [0, 1, 5]) (.seq .nil (.cond (.seq .nil .nil) .nil))) .nil)
abbrev sh0 : ES := ⟨[(0, .v (.sl (.st (.pair (.int .i64) (.pair (.str) (.sl (.int .i64))))))), (1, .v (.sl (.st (.pair (.int .i64) (.pair (.str) (.sl (.int .i64))))))), (5, .v (.int .i64))], []⟩
abbrev sh0_0 : ES := ⟨[], []⟩
def T0 (n m : Nat) (e : Env) (kn : Env → Option (RVs rsh)) (kx : Nat → Env → Option (RVs rsh)) : Option (RVs rsh) := ES.on sh0 e fun x => l0 n x.1.1 x.1.2.1 (fun _ => kx 0 (sh0_0.enc ((()), (())))) m x.1.2.2.1
def T (n : Nat) : Tab (RVs rsh) := fun j e kn kx => match j with
  | 0 => T0 n n e kn kx
  | _ => none
theorem co (n : Nat) : CtxOk (cx n) := mkCtx_cok TYS_ok
theorem mx (n : Nat) : (cx n).P.follows .mixedOrders = true := mkCtx_mix MIX
theorem mk (n : Nat) : MOk (cx n) := mkCtx_ok (mem_cons (laws_eqLit.ok n) mem_nil)
theorem us0 : units b0 an0 = [] := by kernel_rfl
theorem e0 (n m : Nat) (v : AVs ash) (x : sh0.V) (kn : Env → Option (RVs rsh)) (kx : Nat → Env → Option (RVs rsh)) : aevT (cx n) 27 (T n) (kr n v) b0 an0 [(0, [])] (meet (some [0, 1, 5]) fun e => T0 n m e kn kx) kx (sh0.enc x) = l0 n x.1.1 x.1.2.1 (fun _ => kx 0 (sh0_0.enc ((()), (())))) (m + 1) x.1.2.2.1 := by kernel_rfl
theorem cl0 : c0 = .loop b0 := by kernel_rfl
theorem u0 (n : Nat) (v : AVs ash) : UnitOk (cx n) 27 (T n) (kr n v) 0 c0 := by
  rw [cl0]
  exact loop_unit (n := n) (co n) (mk n) (mx n) an0 [(0, [])] [0, 1, 5] (T0 n) (fun _ _ _ => rfl) (fun e kn kx out h => by obtain ⟨x, _, h⟩ := ES.on_inv h; cases h) (fun m e kn kx out h => by obtain ⟨x, rfl, h⟩ := ES.on_inv h; exact (e0 n m v x kn kx).trans h) (units_of us0 (mem_nil))
theorem us : units code an = [(0, c0)] := by kernel_rfl
theorem eqn (n : Nat) (v : AVs ash) : fnEvT (cx n) d an (T n) (avEnc ash v) (rvDec rsh) = F n v.1 v.2.1 := by kernel_rfl
theorem ok (n : Nat) : EntOk Try.prog 61 (ent n) :=
  ent_ok (c := cx n) (e := ent n) (d := d) (an := an) (fn := Try.f61) (co n) (mk n) (mx n) (by kernel_rfl) (by kernel_rfl) (by kernel_rfl) (by kernel_rfl) (by kernel_rfl) (fun _ => T n) (fun v => units_of us (mem_cons (u0 n v) mem_nil)) (eqn n)
end laws_eqLitS
/-! laws.eqRule -/
namespace laws_eqRule
def F (n : Nat) (a1 : (List (Int × ByteArray × List Int)) × (Int × ByteArray × List Int) × List (Int × ByteArray × List Int)) (b2 : (List (Int × ByteArray × List Int)) × (Int × ByteArray × List Int) × List (Int × ByteArray × List Int)) : Option Bool :=
  (laws_eqExpS.F n a1.1 b2.1).bind fun r3 =>
  if (!r3) = true then
    some false
  else
    (laws_eqLit.F n a1.2.1 b2.2.1).bind fun r4 =>
    if (!r4) = true then
      some false
    else
      (laws_eqLitS.F n a1.2.2 b2.2.2).bind fun r5 =>
      if (!r5) = true then
        some false
      else
        some true
noncomputable def code : Code := Try.f22.body.getD .skip
abbrev ash : List ASh := [.ro (.st (.pair (.sl (.st (.pair (.int .i64) (.pair (.str) (.sl (.int .i64)))))) (.pair (.st (.pair (.int .i64) (.pair (.str) (.sl (.int .i64))))) (.sl (.st (.pair (.int .i64) (.pair (.str) (.sl (.int .i64))))))))), .ro (.st (.pair (.sl (.st (.pair (.int .i64) (.pair (.str) (.sl (.int .i64)))))) (.pair (.st (.pair (.int .i64) (.pair (.str) (.sl (.int .i64))))) (.sl (.st (.pair (.int .i64) (.pair (.str) (.sl (.int .i64)))))))))]
abbrev rsh : List RSh := [.ro .bool]
def ent (n : Nat) : FEnt := ⟨ash, rsh, fun v => F n v.1 v.2.1⟩
noncomputable def cx (n : Nat) : Ctx := mkCtx Try.prog TYS [(59, laws_eqExpS.ent n), (60, laws_eqLit.ent n), (61, laws_eqLitS.ent n)]
noncomputable def d : FnD := ⟨code, 23, .nil, [(.tmp 4, .bool, .ro)]⟩
noncomputable def kr (n : Nat) (v : AVs ash) : Env → Option (RVs rsh) := endK (cx n) d (avEnc ash v) (rvDec rsh)
def an : An := .seq .nil (.seq (.seq .nil (.cond (.seq .nil .nil) .nil)) (.seq (.seq .nil (.cond (.seq .nil .nil) .nil)) (.seq (.seq .nil (.cond (.seq .nil .nil) .nil)) (.seq .nil .nil))))
def T (n : Nat) : Tab (RVs rsh) := fun j e kn kx => match j with
  | _ => none
theorem co (n : Nat) : CtxOk (cx n) := mkCtx_cok TYS_ok
theorem mx (n : Nat) : (cx n).P.follows .mixedOrders = true := mkCtx_mix MIX
theorem mk (n : Nat) : MOk (cx n) := mkCtx_ok (mem_cons (laws_eqExpS.ok n) (mem_cons (laws_eqLit.ok n) (mem_cons (laws_eqLitS.ok n) mem_nil)))
theorem us : units code an = [] := by kernel_rfl
theorem eqn (n : Nat) (v : AVs ash) : fnEvT (cx n) d an (T n) (avEnc ash v) (rvDec rsh) = F n v.1 v.2.1 := by kernel_rfl
theorem ok (n : Nat) : EntOk Try.prog 22 (ent n) :=
  ent_ok (c := cx n) (e := ent n) (d := d) (an := an) (fn := Try.f22) (co n) (mk n) (mx n) (by kernel_rfl) (by kernel_rfl) (by kernel_rfl) (by kernel_rfl) (by kernel_rfl) (fun _ => T n) (fun v => units_of us (mem_nil)) (eqn n)
end laws_eqRule
/-! laws.eqRuleS -/
namespace laws_eqRuleS
def l0 (n : Nat) (a3 : List ((List (Int × ByteArray × List Int)) × (Int × ByteArray × List Int) × List (Int × ByteArray × List Int))) (b4 : List ((List (Int × ByteArray × List Int)) × (Int × ByteArray × List Int) × List (Int × ByteArray × List Int))) (K0 : Unit → Option Bool) : Nat → Int → Option Bool
  | 0, _ => none
  | k + 1, i5 =>
    if decide (i5 < (List.length a3 : Int)) = true then
      if 0 ≤ i5 ∧ i5 < (List.length a3 : Int) then
        if 0 ≤ i5 ∧ i5 < (List.length b4 : Int) then
          (laws_eqRule.F n (List.getD a3 (Int.toNat i5) ([], ((0, (ByteArray.empty, [])), []))) (List.getD b4 (Int.toNat i5) ([], ((0, (ByteArray.empty, [])), [])))).bind fun r6 =>
          if (!r6) = true then
            some false
          else
            l0 n a3 b4 K0 k (IntKind.i64.wrap (i5 + 1))
        else
          none
      else
        none
    else
      K0 ()
def F (n : Nat) (a1 : List ((List (Int × ByteArray × List Int)) × (Int × ByteArray × List Int) × List (Int × ByteArray × List Int))) (b2 : List ((List (Int × ByteArray × List Int)) × (Int × ByteArray × List Int) × List (Int × ByteArray × List Int))) : Option Bool :=
  if (!decide ((List.length a1 : Int) = (List.length b2 : Int))) = true then
    some false
  else
    l0 n a1 b2 (fun _ =>
      some true) n 0
noncomputable def code : Code := Try.f71.body.getD .skip
abbrev ash : List ASh := [.ro (.sl (.st (.pair (.sl (.st (.pair (.int .i64) (.pair (.str) (.sl (.int .i64)))))) (.pair (.st (.pair (.int .i64) (.pair (.str) (.sl (.int .i64))))) (.sl (.st (.pair (.int .i64) (.pair (.str) (.sl (.int .i64)))))))))), .ro (.sl (.st (.pair (.sl (.st (.pair (.int .i64) (.pair (.str) (.sl (.int .i64)))))) (.pair (.st (.pair (.int .i64) (.pair (.str) (.sl (.int .i64))))) (.sl (.st (.pair (.int .i64) (.pair (.str) (.sl (.int .i64))))))))))]
abbrev rsh : List RSh := [.ro .bool]
def ent (n : Nat) : FEnt := ⟨ash, rsh, fun v => F n v.1 v.2.1⟩
noncomputable def cx (n : Nat) : Ctx := mkCtx Try.prog TYS [(22, laws_eqRule.ent n)]
noncomputable def d : FnD := ⟨code, 27, .nil, [(.tmp 4, .bool, .ro)]⟩
noncomputable def kr (n : Nat) (v : AVs ash) : Env → Option (RVs rsh) := endK (cx n) d (avEnc ash v) (rvDec rsh)
noncomputable def c0 : Code := (Code.l (Code.r (Code.l (Code.r (Code.r code)))))
noncomputable def b0 : Code := Code.l c0
def an : An := .seq .nil (.seq (.seq .nil (.cond (.seq .nil .nil) .nil)) (.seq (.seq .nil (.block (some []) (.cut 0 [0, 1, 5]))) (.seq .nil .nil)))
def an0 : An := .seq (.seq .nil (.cond .nil .nil)) (.seq (.block (some [0, 1, 5]) (.seq .nil (.cond (.seq .nil .nil) .nil))) .nil)
abbrev sh0 : ES := ⟨[(0, .v (.sl (.st (.pair (.sl (.st (.pair (.int .i64) (.pair (.str) (.sl (.int .i64)))))) (.pair (.st (.pair (.int .i64) (.pair (.str) (.sl (.int .i64))))) (.sl (.st (.pair (.int .i64) (.pair (.str) (.sl (.int .i64))))))))))), (1, .v (.sl (.st (.pair (.sl (.st (.pair (.int .i64) (.pair (.str) (.sl (.int .i64)))))) (.pair (.st (.pair (.int .i64) (.pair (.str) (.sl (.int .i64))))) (.sl (.st (.pair (.int .i64) (.pair (.str) (.sl (.int .i64))))))))))), (5, .v (.int .i64))], []⟩
abbrev sh0_0 : ES := ⟨[], []⟩
def T0 (n m : Nat) (e : Env) (kn : Env → Option (RVs rsh)) (kx : Nat → Env → Option (RVs rsh)) : Option (RVs rsh) := ES.on sh0 e fun x => l0 n x.1.1 x.1.2.1 (fun _ => kx 0 (sh0_0.enc ((()), (())))) m x.1.2.2.1
def T (n : Nat) : Tab (RVs rsh) := fun j e kn kx => match j with
  | 0 => T0 n n e kn kx
  | _ => none
theorem co (n : Nat) : CtxOk (cx n) := mkCtx_cok TYS_ok
theorem mx (n : Nat) : (cx n).P.follows .mixedOrders = true := mkCtx_mix MIX
theorem mk (n : Nat) : MOk (cx n) := mkCtx_ok (mem_cons (laws_eqRule.ok n) mem_nil)
theorem us0 : units b0 an0 = [] := by kernel_rfl
theorem e0 (n m : Nat) (v : AVs ash) (x : sh0.V) (kn : Env → Option (RVs rsh)) (kx : Nat → Env → Option (RVs rsh)) : aevT (cx n) 27 (T n) (kr n v) b0 an0 [(0, [])] (meet (some [0, 1, 5]) fun e => T0 n m e kn kx) kx (sh0.enc x) = l0 n x.1.1 x.1.2.1 (fun _ => kx 0 (sh0_0.enc ((()), (())))) (m + 1) x.1.2.2.1 := by kernel_rfl
theorem cl0 : c0 = .loop b0 := by kernel_rfl
theorem u0 (n : Nat) (v : AVs ash) : UnitOk (cx n) 27 (T n) (kr n v) 0 c0 := by
  rw [cl0]
  exact loop_unit (n := n) (co n) (mk n) (mx n) an0 [(0, [])] [0, 1, 5] (T0 n) (fun _ _ _ => rfl) (fun e kn kx out h => by obtain ⟨x, _, h⟩ := ES.on_inv h; cases h) (fun m e kn kx out h => by obtain ⟨x, rfl, h⟩ := ES.on_inv h; exact (e0 n m v x kn kx).trans h) (units_of us0 (mem_nil))
theorem us : units code an = [(0, c0)] := by kernel_rfl
theorem eqn (n : Nat) (v : AVs ash) : fnEvT (cx n) d an (T n) (avEnc ash v) (rvDec rsh) = F n v.1 v.2.1 := by kernel_rfl
theorem ok (n : Nat) : EntOk Try.prog 71 (ent n) :=
  ent_ok (c := cx n) (e := ent n) (d := d) (an := an) (fn := Try.f71) (co n) (mk n) (mx n) (by kernel_rfl) (by kernel_rfl) (by kernel_rfl) (by kernel_rfl) (by kernel_rfl) (fun _ => T n) (fun v => units_of us (mem_cons (u0 n v) mem_nil)) (eqn n)
end laws_eqRuleS
/-! laws.eqProg -/
namespace laws_eqProg
def F (n : Nat) (a1 : (List (ByteArray × List (ByteArray × List ByteArray))) × (List (ByteArray × (List ByteArray) × Int)) × List ((List (Int × ByteArray × List Int)) × (Int × ByteArray × List Int) × List (Int × ByteArray × List Int))) (b2 : (List (ByteArray × List (ByteArray × List ByteArray))) × (List (ByteArray × (List ByteArray) × Int)) × List ((List (Int × ByteArray × List Int)) × (Int × ByteArray × List Int) × List (Int × ByteArray × List Int))) : Option Bool :=
  (laws_eqTypeDeclS.F n a1.1 b2.1).bind fun r3 =>
  if (!r3) = true then
    some false
  else
    (laws_eqRelDeclS.F n a1.2.1 b2.2.1).bind fun r4 =>
    if (!r4) = true then
      some false
    else
      (laws_eqRuleS.F n a1.2.2 b2.2.2).bind fun r5 =>
      if (!r5) = true then
        some false
      else
        some true
noncomputable def code : Code := Try.f28.body.getD .skip
abbrev ash : List ASh := [.ro (.st (.pair (.sl (.st (.pair (.str) (.sl (.st (.pair (.str) (.sl (.str)))))))) (.pair (.sl (.st (.pair (.str) (.pair (.sl (.str)) (.int .i64))))) (.sl (.st (.pair (.sl (.st (.pair (.int .i64) (.pair (.str) (.sl (.int .i64)))))) (.pair (.st (.pair (.int .i64) (.pair (.str) (.sl (.int .i64))))) (.sl (.st (.pair (.int .i64) (.pair (.str) (.sl (.int .i64))))))))))))), .ro (.st (.pair (.sl (.st (.pair (.str) (.sl (.st (.pair (.str) (.sl (.str)))))))) (.pair (.sl (.st (.pair (.str) (.pair (.sl (.str)) (.int .i64))))) (.sl (.st (.pair (.sl (.st (.pair (.int .i64) (.pair (.str) (.sl (.int .i64)))))) (.pair (.st (.pair (.int .i64) (.pair (.str) (.sl (.int .i64))))) (.sl (.st (.pair (.int .i64) (.pair (.str) (.sl (.int .i64)))))))))))))]
abbrev rsh : List RSh := [.ro .bool]
def ent (n : Nat) : FEnt := ⟨ash, rsh, fun v => F n v.1 v.2.1⟩
noncomputable def cx (n : Nat) : Ctx := mkCtx Try.prog TYS [(69, laws_eqTypeDeclS.ent n), (70, laws_eqRelDeclS.ent n), (71, laws_eqRuleS.ent n)]
noncomputable def d : FnD := ⟨code, 23, .nil, [(.tmp 4, .bool, .ro)]⟩
noncomputable def kr (n : Nat) (v : AVs ash) : Env → Option (RVs rsh) := endK (cx n) d (avEnc ash v) (rvDec rsh)
def an : An := .seq .nil (.seq (.seq .nil (.cond (.seq .nil .nil) .nil)) (.seq (.seq .nil (.cond (.seq .nil .nil) .nil)) (.seq (.seq .nil (.cond (.seq .nil .nil) .nil)) (.seq .nil .nil))))
def T (n : Nat) : Tab (RVs rsh) := fun j e kn kx => match j with
  | _ => none
theorem co (n : Nat) : CtxOk (cx n) := mkCtx_cok TYS_ok
theorem mx (n : Nat) : (cx n).P.follows .mixedOrders = true := mkCtx_mix MIX
theorem mk (n : Nat) : MOk (cx n) := mkCtx_ok (mem_cons (laws_eqTypeDeclS.ok n) (mem_cons (laws_eqRelDeclS.ok n) (mem_cons (laws_eqRuleS.ok n) mem_nil)))
theorem us : units code an = [] := by kernel_rfl
theorem eqn (n : Nat) (v : AVs ash) : fnEvT (cx n) d an (T n) (avEnc ash v) (rvDec rsh) = F n v.1 v.2.1 := by kernel_rfl
theorem ok (n : Nat) : EntOk Try.prog 28 (ent n) :=
  ent_ok (c := cx n) (e := ent n) (d := d) (an := an) (fn := Try.f28) (co n) (mk n) (mx n) (by kernel_rfl) (by kernel_rfl) (by kernel_rfl) (by kernel_rfl) (by kernel_rfl) (fun _ => T n) (fun v => units_of us (mem_nil)) (eqn n)
end laws_eqProg
/-! laws.markText -/
namespace laws_markText
def l0 (n : Nat) (K0 : ByteArray → Option ByteArray) : Nat → Int → ByteArray → Option ByteArray
  | 0, _, _ => none
  | k + 1, k2, out3 =>
    if decide (k2 > 0) = true then
      if ByteArray.size (bstr [IntKind.u8.wrap (IntKind.i64.wrap (48 + (Int.tmod k2 10)))]) + ByteArray.size out3 ≤ lim then
        l0 n K0 k (IntKind.i64.wrap (Int.tdiv k2 10)) ((bstr [IntKind.u8.wrap (IntKind.i64.wrap (48 + (Int.tmod k2 10)))]) ++ out3)
      else
        none
    else
      K0 out3
def F (n : Nat) (k1 : Int) : Option ByteArray :=
  if decide (k1 ≤ 0) = true then
    some ⟨#[109, 48]⟩
  else
    l0 n (fun out4 =>
      if ByteArray.size ⟨#[109]⟩ + ByteArray.size out4 ≤ lim then
        some (⟨#[109]⟩ ++ out4)
      else
        none) n k1 ByteArray.empty
noncomputable def code : Code := Try.f90.body.getD .skip
abbrev ash : List ASh := [.ro (.int .i64)]
abbrev rsh : List RSh := [.ro .str]
def ent (n : Nat) : FEnt := ⟨ash, rsh, fun v => F n v.1⟩
noncomputable def cx (n : Nat) : Ctx := mkCtx Try.prog TYS []
noncomputable def d : FnD := ⟨code, 20, .nil, [(.tmp 2, .str, .ro)]⟩
noncomputable def kr (n : Nat) (v : AVs ash) : Env → Option (RVs rsh) := endK (cx n) d (avEnc ash v) (rvDec rsh)
noncomputable def c0 : Code := (Code.l (Code.l (Code.r (Code.r (Code.r code)))))
noncomputable def b0 : Code := Code.l c0
def an : An := .seq .nil (.seq (.seq .nil (.cond (.seq .nil .nil) .nil)) (.seq .nil (.seq (.block (some [3]) (.cut 0 [0, 3])) (.seq .nil .nil))))
def an0 : An := .seq (.seq .nil (.cond .nil .nil)) (.block (some [0, 3]) (.seq .nil .nil))
abbrev sh0 : ES := ⟨[(0, .v (.int .i64)), (3, .v .str)], []⟩
abbrev sh0_0 : ES := ⟨[(3, .v .str)], []⟩
def T0 (n m : Nat) (e : Env) (kn : Env → Option (RVs rsh)) (kx : Nat → Env → Option (RVs rsh)) : Option (RVs rsh) := ES.on sh0 e fun x => l0 n (fun y0 => kx 0 (sh0_0.enc ((y0, ()), (())))) m x.1.1 x.1.2.1
def T (n : Nat) : Tab (RVs rsh) := fun j e kn kx => match j with
  | 0 => T0 n n e kn kx
  | _ => none
theorem co (n : Nat) : CtxOk (cx n) := mkCtx_cok TYS_ok
theorem mx (n : Nat) : (cx n).P.follows .mixedOrders = true := mkCtx_mix MIX
theorem mk (n : Nat) : MOk (cx n) := mkCtx_ok (mem_nil)
theorem us0 : units b0 an0 = [] := by kernel_rfl
theorem e0 (n m : Nat) (v : AVs ash) (x : sh0.V) (kn : Env → Option (RVs rsh)) (kx : Nat → Env → Option (RVs rsh)) : aevT (cx n) 20 (T n) (kr n v) b0 an0 [(0, [3])] (meet (some [0, 3]) fun e => T0 n m e kn kx) kx (sh0.enc x) = l0 n (fun y0 => kx 0 (sh0_0.enc ((y0, ()), (())))) (m + 1) x.1.1 x.1.2.1 := by kernel_rfl
theorem cl0 : c0 = .loop b0 := by kernel_rfl
theorem u0 (n : Nat) (v : AVs ash) : UnitOk (cx n) 20 (T n) (kr n v) 0 c0 := by
  rw [cl0]
  exact loop_unit (n := n) (co n) (mk n) (mx n) an0 [(0, [3])] [0, 3] (T0 n) (fun _ _ _ => rfl) (fun e kn kx out h => by obtain ⟨x, _, h⟩ := ES.on_inv h; cases h) (fun m e kn kx out h => by obtain ⟨x, rfl, h⟩ := ES.on_inv h; exact (e0 n m v x kn kx).trans h) (units_of us0 (mem_nil))
theorem us : units code an = [(0, c0)] := by kernel_rfl
theorem eqn (n : Nat) (v : AVs ash) : fnEvT (cx n) d an (T n) (avEnc ash v) (rvDec rsh) = F n v.1 := by kernel_rfl
theorem ok (n : Nat) : EntOk Try.prog 90 (ent n) :=
  ent_ok (c := cx n) (e := ent n) (d := d) (an := an) (fn := Try.f90) (co n) (mk n) (mx n) (by kernel_rfl) (by kernel_rfl) (by kernel_rfl) (by kernel_rfl) (by kernel_rfl) (fun _ => T n) (fun v => units_of us (mem_cons (u0 n v) mem_nil)) (eqn n)
end laws_markText
/-! laws.markStringS -/
namespace laws_markStringS
def l0 (n : Nat) (K0 : Int → (List ByteArray) → Option (Int × List ByteArray)) : Nat → Int → Int → (List ByteArray) → Option (Int × List ByteArray)
  | 0, _, _, _ => none
  | k + 1, k3, i4, a5 =>
    if decide (i4 < (List.length a5 : Int)) = true then
      (laws_markText.F n k3).bind fun r6 =>
      if 0 ≤ i4 ∧ i4 < (List.length a5 : Int) then
        l0 n K0 k (IntKind.i64.wrap (k3 + 1)) (IntKind.i64.wrap (i4 + 1)) (List.set a5 (Int.toNat i4) r6)
      else
        none
    else
      K0 k3 a5
def F (n : Nat) (a1 : List ByteArray) (k2 : Int) : Option (Int × List ByteArray) :=
  l0 n (fun k7 a8 =>
    some (k7, a8)) n k2 0 a1
noncomputable def code : Code := Try.f47.body.getD .skip
abbrev ash : List ASh := [.ms (.sl (.str)) (.own .ro), .ro (.int .i64)]
abbrev rsh : List RSh := [.ro (.int .i64), .out (.sl (.str))]
def ent (n : Nat) : FEnt := ⟨ash, rsh, fun v => F n v.1 v.2.1⟩
noncomputable def cx (n : Nat) : Ctx := mkCtx Try.prog TYS [(90, laws_markText.ent n)]
noncomputable def d : FnD := ⟨code, 20, .nil, [(.tmp 4, .int .i64, .ro)]⟩
noncomputable def kr (n : Nat) (v : AVs ash) : Env → Option (RVs rsh) := endK (cx n) d (avEnc ash v) (rvDec rsh)
noncomputable def c0 : Code := (Code.l (Code.r (Code.l (Code.r code))))
noncomputable def b0 : Code := Code.l c0
def an : An := .seq .nil (.seq (.seq .nil (.block (some [0, 1]) (.cut 0 [0, 1, 5]))) (.seq .nil .nil))
def an0 : An := .seq (.seq .nil (.cond .nil .nil)) (.seq (.block (some [0, 1, 5]) (.seq .nil .nil)) .nil)
abbrev sh0 : ES := ⟨[(0, .al 0 []), (1, .v (.int .i64)), (5, .v (.int .i64))], [⟨0, .sl (.str), .own .ro, false, true⟩]⟩
abbrev sh0_0 : ES := ⟨[(0, .al 0 []), (1, .v (.int .i64))], [⟨0, .sl (.str), .own .ro, false, true⟩]⟩
def T0 (n m : Nat) (e : Env) (kn : Env → Option (RVs rsh)) (kx : Nat → Env → Option (RVs rsh)) : Option (RVs rsh) := ES.on sh0 e fun x => l0 n (fun y0 y1 => kx 0 (sh0_0.enc (((()), y0, ()), (y1, ())))) m x.1.2.1 x.1.2.2.1 x.2.1
def T (n : Nat) : Tab (RVs rsh) := fun j e kn kx => match j with
  | 0 => T0 n n e kn kx
  | _ => none
theorem co (n : Nat) : CtxOk (cx n) := mkCtx_cok TYS_ok
theorem mx (n : Nat) : (cx n).P.follows .mixedOrders = true := mkCtx_mix MIX
theorem mk (n : Nat) : MOk (cx n) := mkCtx_ok (mem_cons (laws_markText.ok n) mem_nil)
theorem us0 : units b0 an0 = [] := by kernel_rfl
theorem e0 (n m : Nat) (v : AVs ash) (x : sh0.V) (kn : Env → Option (RVs rsh)) (kx : Nat → Env → Option (RVs rsh)) : aevT (cx n) 20 (T n) (kr n v) b0 an0 [(0, [0, 1])] (meet (some [0, 1, 5]) fun e => T0 n m e kn kx) kx (sh0.enc x) = l0 n (fun y0 y1 => kx 0 (sh0_0.enc (((()), y0, ()), (y1, ())))) (m + 1) x.1.2.1 x.1.2.2.1 x.2.1 := by kernel_rfl
theorem cl0 : c0 = .loop b0 := by kernel_rfl
theorem u0 (n : Nat) (v : AVs ash) : UnitOk (cx n) 20 (T n) (kr n v) 0 c0 := by
  rw [cl0]
  exact loop_unit (n := n) (co n) (mk n) (mx n) an0 [(0, [0, 1])] [0, 1, 5] (T0 n) (fun _ _ _ => rfl) (fun e kn kx out h => by obtain ⟨x, _, h⟩ := ES.on_inv h; cases h) (fun m e kn kx out h => by obtain ⟨x, rfl, h⟩ := ES.on_inv h; exact (e0 n m v x kn kx).trans h) (units_of us0 (mem_nil))
theorem us : units code an = [(0, c0)] := by kernel_rfl
theorem eqn (n : Nat) (v : AVs ash) : fnEvT (cx n) d an (T n) (avEnc ash v) (rvDec rsh) = F n v.1 v.2.1 := by kernel_rfl
theorem ok (n : Nat) : EntOk Try.prog 47 (ent n) :=
  ent_ok (c := cx n) (e := ent n) (d := d) (an := an) (fn := Try.f47) (co n) (mk n) (mx n) (by kernel_rfl) (by kernel_rfl) (by kernel_rfl) (by kernel_rfl) (by kernel_rfl) (fun _ => T n) (fun v => units_of us (mem_cons (u0 n v) mem_nil)) (eqn n)
end laws_markStringS
/-! laws.markConS -/
namespace laws_markConS
def l0 (n : Nat) (K0 : Int → (List (ByteArray × List ByteArray)) → Option (Int × List (ByteArray × List ByteArray))) : Nat → Int → Int → (List (ByteArray × List ByteArray)) → Option (Int × List (ByteArray × List ByteArray))
  | 0, _, _, _ => none
  | k + 1, k3, i4, a5 =>
    if decide (i4 < (List.length a5 : Int)) = true then
      (laws_markText.F n k3).bind fun r6 =>
      if 0 ≤ i4 ∧ i4 < (List.length a5 : Int) then
        let w7 : List (ByteArray × List ByteArray) := List.set a5 (Int.toNat i4) (r6, (List.getD a5 (Int.toNat i4) (ByteArray.empty, [])).2)
        if 0 ≤ i4 ∧ i4 < (List.length w7 : Int) then
          (laws_markStringS.F n ((List.getD w7 (Int.toNat i4) (ByteArray.empty, [])).2) (IntKind.i64.wrap (k3 + 1))).bind fun r8 =>
          let w9 : List (ByteArray × List ByteArray) := List.set w7 (Int.toNat i4) ((List.getD w7 (Int.toNat i4) (ByteArray.empty, [])).1, r8.2)
          l0 n K0 k r8.1 (IntKind.i64.wrap (i4 + 1)) w9
        else
          none
      else
        none
    else
      K0 k3 a5
def F (n : Nat) (a1 : List (ByteArray × List ByteArray)) (k2 : Int) : Option (Int × List (ByteArray × List ByteArray)) :=
  l0 n (fun k10 a11 =>
    some (k10, a11)) n k2 0 a1
noncomputable def code : Code := Try.f111.body.getD .skip
abbrev ash : List ASh := [.ms (.sl (.st (.pair (.str) (.sl (.str))))) (.own (.pr .ro (.own .ro))), .ro (.int .i64)]
abbrev rsh : List RSh := [.ro (.int .i64), .out (.sl (.st (.pair (.str) (.sl (.str)))))]
def ent (n : Nat) : FEnt := ⟨ash, rsh, fun v => F n v.1 v.2.1⟩
noncomputable def cx (n : Nat) : Ctx := mkCtx Try.prog TYS [(47, laws_markStringS.ent n), (90, laws_markText.ent n)]
noncomputable def d : FnD := ⟨code, 28, .nil, [(.tmp 4, .int .i64, .ro)]⟩
noncomputable def kr (n : Nat) (v : AVs ash) : Env → Option (RVs rsh) := endK (cx n) d (avEnc ash v) (rvDec rsh)
noncomputable def c0 : Code := (Code.l (Code.r (Code.l (Code.r code))))
noncomputable def b0 : Code := Code.l c0
def an : An := .seq .nil (.seq (.seq .nil (.block (some [0, 1]) (.cut 0 [0, 1, 5]))) (.seq .nil .nil))
def an0 : An := .seq (.seq .nil (.cond .nil .nil)) (.seq (.block (some [0, 1, 5]) (.seq .nil (.seq .nil .nil))) .nil)
abbrev sh0 : ES := ⟨[(0, .al 0 []), (1, .v (.int .i64)), (5, .v (.int .i64))], [⟨0, .sl (.st (.pair (.str) (.sl (.str)))), .own (.pr .ro (.own .ro)), false, true⟩]⟩
abbrev sh0_0 : ES := ⟨[(0, .al 0 []), (1, .v (.int .i64))], [⟨0, .sl (.st (.pair (.str) (.sl (.str)))), .own (.pr .ro (.own .ro)), false, true⟩]⟩
def T0 (n m : Nat) (e : Env) (kn : Env → Option (RVs rsh)) (kx : Nat → Env → Option (RVs rsh)) : Option (RVs rsh) := ES.on sh0 e fun x => l0 n (fun y0 y1 => kx 0 (sh0_0.enc (((()), y0, ()), (y1, ())))) m x.1.2.1 x.1.2.2.1 x.2.1
def T (n : Nat) : Tab (RVs rsh) := fun j e kn kx => match j with
  | 0 => T0 n n e kn kx
  | _ => none
theorem co (n : Nat) : CtxOk (cx n) := mkCtx_cok TYS_ok
theorem mx (n : Nat) : (cx n).P.follows .mixedOrders = true := mkCtx_mix MIX
theorem mk (n : Nat) : MOk (cx n) := mkCtx_ok (mem_cons (laws_markStringS.ok n) (mem_cons (laws_markText.ok n) mem_nil))
theorem us0 : units b0 an0 = [] := by kernel_rfl
theorem e0 (n m : Nat) (v : AVs ash) (x : sh0.V) (kn : Env → Option (RVs rsh)) (kx : Nat → Env → Option (RVs rsh)) : aevT (cx n) 28 (T n) (kr n v) b0 an0 [(0, [0, 1])] (meet (some [0, 1, 5]) fun e => T0 n m e kn kx) kx (sh0.enc x) = l0 n (fun y0 y1 => kx 0 (sh0_0.enc (((()), y0, ()), (y1, ())))) (m + 1) x.1.2.1 x.1.2.2.1 x.2.1 := by kernel_rfl
theorem cl0 : c0 = .loop b0 := by kernel_rfl
theorem u0 (n : Nat) (v : AVs ash) : UnitOk (cx n) 28 (T n) (kr n v) 0 c0 := by
  rw [cl0]
  exact loop_unit (n := n) (co n) (mk n) (mx n) an0 [(0, [0, 1])] [0, 1, 5] (T0 n) (fun _ _ _ => rfl) (fun e kn kx out h => by obtain ⟨x, _, h⟩ := ES.on_inv h; cases h) (fun m e kn kx out h => by obtain ⟨x, rfl, h⟩ := ES.on_inv h; exact (e0 n m v x kn kx).trans h) (units_of us0 (mem_nil))
theorem us : units code an = [(0, c0)] := by kernel_rfl
theorem eqn (n : Nat) (v : AVs ash) : fnEvT (cx n) d an (T n) (avEnc ash v) (rvDec rsh) = F n v.1 v.2.1 := by kernel_rfl
theorem ok (n : Nat) : EntOk Try.prog 111 (ent n) :=
  ent_ok (c := cx n) (e := ent n) (d := d) (an := an) (fn := Try.f111) (co n) (mk n) (mx n) (by kernel_rfl) (by kernel_rfl) (by kernel_rfl) (by kernel_rfl) (by kernel_rfl) (fun _ => T n) (fun v => units_of us (mem_cons (u0 n v) mem_nil)) (eqn n)
end laws_markConS
/-! laws.markTypeDeclS -/
namespace laws_markTypeDeclS
def l0 (n : Nat) (K0 : Int → (List (ByteArray × List (ByteArray × List ByteArray))) → Option (Int × List (ByteArray × List (ByteArray × List ByteArray)))) : Nat → Int → Int → (List (ByteArray × List (ByteArray × List ByteArray))) → Option (Int × List (ByteArray × List (ByteArray × List ByteArray)))
  | 0, _, _, _ => none
  | k + 1, k3, i4, a5 =>
    if decide (i4 < (List.length a5 : Int)) = true then
      (laws_markText.F n k3).bind fun r6 =>
      if 0 ≤ i4 ∧ i4 < (List.length a5 : Int) then
        let w7 : List (ByteArray × List (ByteArray × List ByteArray)) := List.set a5 (Int.toNat i4) (r6, (List.getD a5 (Int.toNat i4) (ByteArray.empty, [])).2)
        if 0 ≤ i4 ∧ i4 < (List.length w7 : Int) then
          (laws_markConS.F n ((List.getD w7 (Int.toNat i4) (ByteArray.empty, [])).2) (IntKind.i64.wrap (k3 + 1))).bind fun r8 =>
          let w9 : List (ByteArray × List (ByteArray × List ByteArray)) := List.set w7 (Int.toNat i4) ((List.getD w7 (Int.toNat i4) (ByteArray.empty, [])).1, r8.2)
          l0 n K0 k r8.1 (IntKind.i64.wrap (i4 + 1)) w9
        else
          none
      else
        none
    else
      K0 k3 a5
def F (n : Nat) (a1 : List (ByteArray × List (ByteArray × List ByteArray))) (k2 : Int) : Option (Int × List (ByteArray × List (ByteArray × List ByteArray))) :=
  l0 n (fun k10 a11 =>
    some (k10, a11)) n k2 0 a1
noncomputable def code : Code := Try.f72.body.getD .skip
abbrev ash : List ASh := [.ms (.sl (.st (.pair (.str) (.sl (.st (.pair (.str) (.sl (.str)))))))) (.own (.pr .ro (.own (.pr .ro (.own .ro))))), .ro (.int .i64)]
abbrev rsh : List RSh := [.ro (.int .i64), .out (.sl (.st (.pair (.str) (.sl (.st (.pair (.str) (.sl (.str))))))))]
def ent (n : Nat) : FEnt := ⟨ash, rsh, fun v => F n v.1 v.2.1⟩
noncomputable def cx (n : Nat) : Ctx := mkCtx Try.prog TYS [(90, laws_markText.ent n), (111, laws_markConS.ent n)]
noncomputable def d : FnD := ⟨code, 28, .nil, [(.tmp 4, .int .i64, .ro)]⟩
noncomputable def kr (n : Nat) (v : AVs ash) : Env → Option (RVs rsh) := endK (cx n) d (avEnc ash v) (rvDec rsh)
noncomputable def c0 : Code := (Code.l (Code.r (Code.l (Code.r code))))
noncomputable def b0 : Code := Code.l c0
def an : An := .seq .nil (.seq (.seq .nil (.block (some [0, 1]) (.cut 0 [0, 1, 5]))) (.seq .nil .nil))
def an0 : An := .seq (.seq .nil (.cond .nil .nil)) (.seq (.block (some [0, 1, 5]) (.seq .nil (.seq .nil .nil))) .nil)
abbrev sh0 : ES := ⟨[(0, .al 0 []), (1, .v (.int .i64)), (5, .v (.int .i64))], [⟨0, .sl (.st (.pair (.str) (.sl (.st (.pair (.str) (.sl (.str))))))), .own (.pr .ro (.own (.pr .ro (.own .ro)))), false, true⟩]⟩
abbrev sh0_0 : ES := ⟨[(0, .al 0 []), (1, .v (.int .i64))], [⟨0, .sl (.st (.pair (.str) (.sl (.st (.pair (.str) (.sl (.str))))))), .own (.pr .ro (.own (.pr .ro (.own .ro)))), false, true⟩]⟩
def T0 (n m : Nat) (e : Env) (kn : Env → Option (RVs rsh)) (kx : Nat → Env → Option (RVs rsh)) : Option (RVs rsh) := ES.on sh0 e fun x => l0 n (fun y0 y1 => kx 0 (sh0_0.enc (((()), y0, ()), (y1, ())))) m x.1.2.1 x.1.2.2.1 x.2.1
def T (n : Nat) : Tab (RVs rsh) := fun j e kn kx => match j with
  | 0 => T0 n n e kn kx
  | _ => none
theorem co (n : Nat) : CtxOk (cx n) := mkCtx_cok TYS_ok
theorem mx (n : Nat) : (cx n).P.follows .mixedOrders = true := mkCtx_mix MIX
theorem mk (n : Nat) : MOk (cx n) := mkCtx_ok (mem_cons (laws_markText.ok n) (mem_cons (laws_markConS.ok n) mem_nil))
theorem us0 : units b0 an0 = [] := by kernel_rfl
theorem e0 (n m : Nat) (v : AVs ash) (x : sh0.V) (kn : Env → Option (RVs rsh)) (kx : Nat → Env → Option (RVs rsh)) : aevT (cx n) 28 (T n) (kr n v) b0 an0 [(0, [0, 1])] (meet (some [0, 1, 5]) fun e => T0 n m e kn kx) kx (sh0.enc x) = l0 n (fun y0 y1 => kx 0 (sh0_0.enc (((()), y0, ()), (y1, ())))) (m + 1) x.1.2.1 x.1.2.2.1 x.2.1 := by kernel_rfl
theorem cl0 : c0 = .loop b0 := by kernel_rfl
theorem u0 (n : Nat) (v : AVs ash) : UnitOk (cx n) 28 (T n) (kr n v) 0 c0 := by
  rw [cl0]
  exact loop_unit (n := n) (co n) (mk n) (mx n) an0 [(0, [0, 1])] [0, 1, 5] (T0 n) (fun _ _ _ => rfl) (fun e kn kx out h => by obtain ⟨x, _, h⟩ := ES.on_inv h; cases h) (fun m e kn kx out h => by obtain ⟨x, rfl, h⟩ := ES.on_inv h; exact (e0 n m v x kn kx).trans h) (units_of us0 (mem_nil))
theorem us : units code an = [(0, c0)] := by kernel_rfl
theorem eqn (n : Nat) (v : AVs ash) : fnEvT (cx n) d an (T n) (avEnc ash v) (rvDec rsh) = F n v.1 v.2.1 := by kernel_rfl
theorem ok (n : Nat) : EntOk Try.prog 72 (ent n) :=
  ent_ok (c := cx n) (e := ent n) (d := d) (an := an) (fn := Try.f72) (co n) (mk n) (mx n) (by kernel_rfl) (by kernel_rfl) (by kernel_rfl) (by kernel_rfl) (by kernel_rfl) (fun _ => T n) (fun v => units_of us (mem_cons (u0 n v) mem_nil)) (eqn n)
end laws_markTypeDeclS
/-! laws.markRelDeclS -/
namespace laws_markRelDeclS
def l0 (n : Nat) (K0 : Int → (List (ByteArray × (List ByteArray) × Int)) → Option (Int × List (ByteArray × (List ByteArray) × Int))) : Nat → Int → Int → (List (ByteArray × (List ByteArray) × Int)) → Option (Int × List (ByteArray × (List ByteArray) × Int))
  | 0, _, _, _ => none
  | k + 1, k3, i4, a5 =>
    if decide (i4 < (List.length a5 : Int)) = true then
      (laws_markText.F n k3).bind fun r6 =>
      if 0 ≤ i4 ∧ i4 < (List.length a5 : Int) then
        let w7 : List (ByteArray × (List ByteArray) × Int) := List.set a5 (Int.toNat i4) (r6, (List.getD a5 (Int.toNat i4) (ByteArray.empty, ([], 0))).2)
        if 0 ≤ i4 ∧ i4 < (List.length w7 : Int) then
          (laws_markStringS.F n (((List.getD w7 (Int.toNat i4) (ByteArray.empty, ([], 0))).2).1) (IntKind.i64.wrap (k3 + 1))).bind fun r8 =>
          let w9 : List (ByteArray × (List ByteArray) × Int) := List.set w7 (Int.toNat i4) ((List.getD w7 (Int.toNat i4) (ByteArray.empty, ([], 0))).1, (r8.2, ((List.getD w7 (Int.toNat i4) (ByteArray.empty, ([], 0))).2).2))
          if 0 ≤ i4 ∧ i4 < (List.length w9 : Int) then
            let w10 : List (ByteArray × (List ByteArray) × Int) := List.set w9 (Int.toNat i4) ((List.getD w9 (Int.toNat i4) (ByteArray.empty, ([], 0))).1, (((List.getD w9 (Int.toNat i4) (ByteArray.empty, ([], 0))).2).1, r8.1))
            l0 n K0 k (IntKind.i64.wrap (r8.1 + 1)) (IntKind.i64.wrap (i4 + 1)) w10
          else
            none
        else
          none
      else
        none
    else
      K0 k3 a5
def F (n : Nat) (a1 : List (ByteArray × (List ByteArray) × Int)) (k2 : Int) : Option (Int × List (ByteArray × (List ByteArray) × Int)) :=
  l0 n (fun k11 a12 =>
    some (k11, a12)) n k2 0 a1
noncomputable def code : Code := Try.f73.body.getD .skip
abbrev ash : List ASh := [.ms (.sl (.st (.pair (.str) (.pair (.sl (.str)) (.int .i64))))) (.own (.pr .ro (.pr (.own .ro) .ro))), .ro (.int .i64)]
abbrev rsh : List RSh := [.ro (.int .i64), .out (.sl (.st (.pair (.str) (.pair (.sl (.str)) (.int .i64)))))]
def ent (n : Nat) : FEnt := ⟨ash, rsh, fun v => F n v.1 v.2.1⟩
noncomputable def cx (n : Nat) : Ctx := mkCtx Try.prog TYS [(47, laws_markStringS.ent n), (90, laws_markText.ent n)]
noncomputable def d : FnD := ⟨code, 35, .nil, [(.tmp 4, .int .i64, .ro)]⟩
noncomputable def kr (n : Nat) (v : AVs ash) : Env → Option (RVs rsh) := endK (cx n) d (avEnc ash v) (rvDec rsh)
noncomputable def c0 : Code := (Code.l (Code.r (Code.l (Code.r code))))
noncomputable def b0 : Code := Code.l c0
def an : An := .seq .nil (.seq (.seq .nil (.block (some [0, 1]) (.cut 0 [0, 1, 5]))) (.seq .nil .nil))
def an0 : An := .seq (.seq .nil (.cond .nil .nil)) (.seq (.block (some [0, 1, 5]) (.seq .nil (.seq .nil (.seq .nil (.seq .nil .nil))))) .nil)
abbrev sh0 : ES := ⟨[(0, .al 0 []), (1, .v (.int .i64)), (5, .v (.int .i64))], [⟨0, .sl (.st (.pair (.str) (.pair (.sl (.str)) (.int .i64)))), .own (.pr .ro (.pr (.own .ro) .ro)), false, true⟩]⟩
abbrev sh0_0 : ES := ⟨[(0, .al 0 []), (1, .v (.int .i64))], [⟨0, .sl (.st (.pair (.str) (.pair (.sl (.str)) (.int .i64)))), .own (.pr .ro (.pr (.own .ro) .ro)), false, true⟩]⟩
def T0 (n m : Nat) (e : Env) (kn : Env → Option (RVs rsh)) (kx : Nat → Env → Option (RVs rsh)) : Option (RVs rsh) := ES.on sh0 e fun x => l0 n (fun y0 y1 => kx 0 (sh0_0.enc (((()), y0, ()), (y1, ())))) m x.1.2.1 x.1.2.2.1 x.2.1
def T (n : Nat) : Tab (RVs rsh) := fun j e kn kx => match j with
  | 0 => T0 n n e kn kx
  | _ => none
theorem co (n : Nat) : CtxOk (cx n) := mkCtx_cok TYS_ok
theorem mx (n : Nat) : (cx n).P.follows .mixedOrders = true := mkCtx_mix MIX
theorem mk (n : Nat) : MOk (cx n) := mkCtx_ok (mem_cons (laws_markStringS.ok n) (mem_cons (laws_markText.ok n) mem_nil))
theorem us0 : units b0 an0 = [] := by kernel_rfl
theorem e0 (n m : Nat) (v : AVs ash) (x : sh0.V) (kn : Env → Option (RVs rsh)) (kx : Nat → Env → Option (RVs rsh)) : aevT (cx n) 35 (T n) (kr n v) b0 an0 [(0, [0, 1])] (meet (some [0, 1, 5]) fun e => T0 n m e kn kx) kx (sh0.enc x) = l0 n (fun y0 y1 => kx 0 (sh0_0.enc (((()), y0, ()), (y1, ())))) (m + 1) x.1.2.1 x.1.2.2.1 x.2.1 := by kernel_rfl
theorem cl0 : c0 = .loop b0 := by kernel_rfl
theorem u0 (n : Nat) (v : AVs ash) : UnitOk (cx n) 35 (T n) (kr n v) 0 c0 := by
  rw [cl0]
  exact loop_unit (n := n) (co n) (mk n) (mx n) an0 [(0, [0, 1])] [0, 1, 5] (T0 n) (fun _ _ _ => rfl) (fun e kn kx out h => by obtain ⟨x, _, h⟩ := ES.on_inv h; cases h) (fun m e kn kx out h => by obtain ⟨x, rfl, h⟩ := ES.on_inv h; exact (e0 n m v x kn kx).trans h) (units_of us0 (mem_nil))
theorem us : units code an = [(0, c0)] := by kernel_rfl
theorem eqn (n : Nat) (v : AVs ash) : fnEvT (cx n) d an (T n) (avEnc ash v) (rvDec rsh) = F n v.1 v.2.1 := by kernel_rfl
theorem ok (n : Nat) : EntOk Try.prog 73 (ent n) :=
  ent_ok (c := cx n) (e := ent n) (d := d) (an := an) (fn := Try.f73) (co n) (mk n) (mx n) (by kernel_rfl) (by kernel_rfl) (by kernel_rfl) (by kernel_rfl) (by kernel_rfl) (fun _ => T n) (fun v => units_of us (mem_cons (u0 n v) mem_nil)) (eqn n)
end laws_markRelDeclS
/-! laws.markIntS -/
namespace laws_markIntS
def l0 (n : Nat) (K0 : Int → (List Int) → Option (Int × List Int)) : Nat → Int → Int → (List Int) → Option (Int × List Int)
  | 0, _, _, _ => none
  | k + 1, k3, i4, a5 =>
    if decide (i4 < (List.length a5 : Int)) = true then
      if 0 ≤ i4 ∧ i4 < (List.length a5 : Int) then
        l0 n K0 k (IntKind.i64.wrap (k3 + 1)) (IntKind.i64.wrap (i4 + 1)) (List.set a5 (Int.toNat i4) k3)
      else
        none
    else
      K0 k3 a5
def F (n : Nat) (a1 : List Int) (k2 : Int) : Option (Int × List Int) :=
  l0 n (fun k6 a7 =>
    some (k6, a7)) n k2 0 a1
noncomputable def code : Code := Try.f30.body.getD .skip
abbrev ash : List ASh := [.ms (.sl (.int .i64)) (.own .ro), .ro (.int .i64)]
abbrev rsh : List RSh := [.ro (.int .i64), .out (.sl (.int .i64))]
def ent (n : Nat) : FEnt := ⟨ash, rsh, fun v => F n v.1 v.2.1⟩
noncomputable def cx (n : Nat) : Ctx := mkCtx Try.prog TYS []
noncomputable def d : FnD := ⟨code, 19, .nil, [(.tmp 4, .int .i64, .ro)]⟩
noncomputable def kr (n : Nat) (v : AVs ash) : Env → Option (RVs rsh) := endK (cx n) d (avEnc ash v) (rvDec rsh)
noncomputable def c0 : Code := (Code.l (Code.r (Code.l (Code.r code))))
noncomputable def b0 : Code := Code.l c0
def an : An := .seq .nil (.seq (.seq .nil (.block (some [0, 1]) (.cut 0 [0, 1, 5]))) (.seq .nil .nil))
def an0 : An := .seq (.seq .nil (.cond .nil .nil)) (.seq (.block (some [0, 1, 5]) (.seq .nil .nil)) .nil)
abbrev sh0 : ES := ⟨[(0, .al 0 []), (1, .v (.int .i64)), (5, .v (.int .i64))], [⟨0, .sl (.int .i64), .own .ro, false, true⟩]⟩
abbrev sh0_0 : ES := ⟨[(0, .al 0 []), (1, .v (.int .i64))], [⟨0, .sl (.int .i64), .own .ro, false, true⟩]⟩
def T0 (n m : Nat) (e : Env) (kn : Env → Option (RVs rsh)) (kx : Nat → Env → Option (RVs rsh)) : Option (RVs rsh) := ES.on sh0 e fun x => l0 n (fun y0 y1 => kx 0 (sh0_0.enc (((()), y0, ()), (y1, ())))) m x.1.2.1 x.1.2.2.1 x.2.1
def T (n : Nat) : Tab (RVs rsh) := fun j e kn kx => match j with
  | 0 => T0 n n e kn kx
  | _ => none
theorem co (n : Nat) : CtxOk (cx n) := mkCtx_cok TYS_ok
theorem mx (n : Nat) : (cx n).P.follows .mixedOrders = true := mkCtx_mix MIX
theorem mk (n : Nat) : MOk (cx n) := mkCtx_ok (mem_nil)
theorem us0 : units b0 an0 = [] := by kernel_rfl
theorem e0 (n m : Nat) (v : AVs ash) (x : sh0.V) (kn : Env → Option (RVs rsh)) (kx : Nat → Env → Option (RVs rsh)) : aevT (cx n) 19 (T n) (kr n v) b0 an0 [(0, [0, 1])] (meet (some [0, 1, 5]) fun e => T0 n m e kn kx) kx (sh0.enc x) = l0 n (fun y0 y1 => kx 0 (sh0_0.enc (((()), y0, ()), (y1, ())))) (m + 1) x.1.2.1 x.1.2.2.1 x.2.1 := by kernel_rfl
theorem cl0 : c0 = .loop b0 := by kernel_rfl
theorem u0 (n : Nat) (v : AVs ash) : UnitOk (cx n) 19 (T n) (kr n v) 0 c0 := by
  rw [cl0]
  exact loop_unit (n := n) (co n) (mk n) (mx n) an0 [(0, [0, 1])] [0, 1, 5] (T0 n) (fun _ _ _ => rfl) (fun e kn kx out h => by obtain ⟨x, _, h⟩ := ES.on_inv h; cases h) (fun m e kn kx out h => by obtain ⟨x, rfl, h⟩ := ES.on_inv h; exact (e0 n m v x kn kx).trans h) (units_of us0 (mem_nil))
theorem us : units code an = [(0, c0)] := by kernel_rfl
theorem eqn (n : Nat) (v : AVs ash) : fnEvT (cx n) d an (T n) (avEnc ash v) (rvDec rsh) = F n v.1 v.2.1 := by kernel_rfl
theorem ok (n : Nat) : EntOk Try.prog 30 (ent n) :=
  ent_ok (c := cx n) (e := ent n) (d := d) (an := an) (fn := Try.f30) (co n) (mk n) (mx n) (by kernel_rfl) (by kernel_rfl) (by kernel_rfl) (by kernel_rfl) (by kernel_rfl) (fun _ => T n) (fun v => units_of us (mem_cons (u0 n v) mem_nil)) (eqn n)
end laws_markIntS
/-! laws.markExpS -/
namespace laws_markExpS
def l0 (n : Nat) (K0 : Int → (List (Int × ByteArray × List Int)) → Option (Int × List (Int × ByteArray × List Int))) : Nat → Int → Int → (List (Int × ByteArray × List Int)) → Option (Int × List (Int × ByteArray × List Int))
  | 0, _, _, _ => none
  | k + 1, k3, i4, a5 =>
    if decide (i4 < (List.length a5 : Int)) = true then
      if 0 ≤ i4 ∧ i4 < (List.length a5 : Int) then
        let w6 : List (Int × ByteArray × List Int) := List.set a5 (Int.toNat i4) (k3, (List.getD a5 (Int.toNat i4) (0, (ByteArray.empty, []))).2)
        (laws_markText.F n (IntKind.i64.wrap (k3 + 1))).bind fun r7 =>
        if 0 ≤ i4 ∧ i4 < (List.length w6 : Int) then
          let w8 : List (Int × ByteArray × List Int) := List.set w6 (Int.toNat i4) ((List.getD w6 (Int.toNat i4) (0, (ByteArray.empty, []))).1, (r7, ((List.getD w6 (Int.toNat i4) (0, (ByteArray.empty, []))).2).2))
          if 0 ≤ i4 ∧ i4 < (List.length w8 : Int) then
            (laws_markIntS.F n (((List.getD w8 (Int.toNat i4) (0, (ByteArray.empty, []))).2).2) (IntKind.i64.wrap ((IntKind.i64.wrap (k3 + 1)) + 1))).bind fun r9 =>
            let w10 : List (Int × ByteArray × List Int) := List.set w8 (Int.toNat i4) ((List.getD w8 (Int.toNat i4) (0, (ByteArray.empty, []))).1, (((List.getD w8 (Int.toNat i4) (0, (ByteArray.empty, []))).2).1, r9.2))
            l0 n K0 k r9.1 (IntKind.i64.wrap (i4 + 1)) w10
          else
            none
        else
          none
      else
        none
    else
      K0 k3 a5
def F (n : Nat) (a1 : List (Int × ByteArray × List Int)) (k2 : Int) : Option (Int × List (Int × ByteArray × List Int)) :=
  l0 n (fun k11 a12 =>
    some (k11, a12)) n k2 0 a1
noncomputable def code : Code := Try.f80.body.getD .skip
abbrev ash : List ASh := [.ms (.sl (.st (.pair (.int .i64) (.pair (.str) (.sl (.int .i64)))))) (.own (.pr .ro (.pr .ro (.own .ro)))), .ro (.int .i64)]
abbrev rsh : List RSh := [.ro (.int .i64), .out (.sl (.st (.pair (.int .i64) (.pair (.str) (.sl (.int .i64))))))]
def ent (n : Nat) : FEnt := ⟨ash, rsh, fun v => F n v.1 v.2.1⟩
noncomputable def cx (n : Nat) : Ctx := mkCtx Try.prog TYS [(30, laws_markIntS.ent n), (90, laws_markText.ent n)]
noncomputable def d : FnD := ⟨code, 35, .nil, [(.tmp 4, .int .i64, .ro)]⟩
noncomputable def kr (n : Nat) (v : AVs ash) : Env → Option (RVs rsh) := endK (cx n) d (avEnc ash v) (rvDec rsh)
noncomputable def c0 : Code := (Code.l (Code.r (Code.l (Code.r code))))
noncomputable def b0 : Code := Code.l c0
def an : An := .seq .nil (.seq (.seq .nil (.block (some [0, 1]) (.cut 0 [0, 1, 5]))) (.seq .nil .nil))
def an0 : An := .seq (.seq .nil (.cond .nil .nil)) (.seq (.block (some [0, 1, 5]) (.seq .nil (.seq .nil (.seq .nil (.seq .nil .nil))))) .nil)
abbrev sh0 : ES := ⟨[(0, .al 0 []), (1, .v (.int .i64)), (5, .v (.int .i64))], [⟨0, .sl (.st (.pair (.int .i64) (.pair (.str) (.sl (.int .i64))))), .own (.pr .ro (.pr .ro (.own .ro))), false, true⟩]⟩
abbrev sh0_0 : ES := ⟨[(0, .al 0 []), (1, .v (.int .i64))], [⟨0, .sl (.st (.pair (.int .i64) (.pair (.str) (.sl (.int .i64))))), .own (.pr .ro (.pr .ro (.own .ro))), false, true⟩]⟩
def T0 (n m : Nat) (e : Env) (kn : Env → Option (RVs rsh)) (kx : Nat → Env → Option (RVs rsh)) : Option (RVs rsh) := ES.on sh0 e fun x => l0 n (fun y0 y1 => kx 0 (sh0_0.enc (((()), y0, ()), (y1, ())))) m x.1.2.1 x.1.2.2.1 x.2.1
def T (n : Nat) : Tab (RVs rsh) := fun j e kn kx => match j with
  | 0 => T0 n n e kn kx
  | _ => none
theorem co (n : Nat) : CtxOk (cx n) := mkCtx_cok TYS_ok
theorem mx (n : Nat) : (cx n).P.follows .mixedOrders = true := mkCtx_mix MIX
theorem mk (n : Nat) : MOk (cx n) := mkCtx_ok (mem_cons (laws_markIntS.ok n) (mem_cons (laws_markText.ok n) mem_nil))
theorem us0 : units b0 an0 = [] := by kernel_rfl
theorem e0 (n m : Nat) (v : AVs ash) (x : sh0.V) (kn : Env → Option (RVs rsh)) (kx : Nat → Env → Option (RVs rsh)) : aevT (cx n) 35 (T n) (kr n v) b0 an0 [(0, [0, 1])] (meet (some [0, 1, 5]) fun e => T0 n m e kn kx) kx (sh0.enc x) = l0 n (fun y0 y1 => kx 0 (sh0_0.enc (((()), y0, ()), (y1, ())))) (m + 1) x.1.2.1 x.1.2.2.1 x.2.1 := by kernel_rfl
theorem cl0 : c0 = .loop b0 := by kernel_rfl
theorem u0 (n : Nat) (v : AVs ash) : UnitOk (cx n) 35 (T n) (kr n v) 0 c0 := by
  rw [cl0]
  exact loop_unit (n := n) (co n) (mk n) (mx n) an0 [(0, [0, 1])] [0, 1, 5] (T0 n) (fun _ _ _ => rfl) (fun e kn kx out h => by obtain ⟨x, _, h⟩ := ES.on_inv h; cases h) (fun m e kn kx out h => by obtain ⟨x, rfl, h⟩ := ES.on_inv h; exact (e0 n m v x kn kx).trans h) (units_of us0 (mem_nil))
theorem us : units code an = [(0, c0)] := by kernel_rfl
theorem eqn (n : Nat) (v : AVs ash) : fnEvT (cx n) d an (T n) (avEnc ash v) (rvDec rsh) = F n v.1 v.2.1 := by kernel_rfl
theorem ok (n : Nat) : EntOk Try.prog 80 (ent n) :=
  ent_ok (c := cx n) (e := ent n) (d := d) (an := an) (fn := Try.f80) (co n) (mk n) (mx n) (by kernel_rfl) (by kernel_rfl) (by kernel_rfl) (by kernel_rfl) (by kernel_rfl) (fun _ => T n) (fun v => units_of us (mem_cons (u0 n v) mem_nil)) (eqn n)
end laws_markExpS
/-! laws.markLitS -/
namespace laws_markLitS
def l0 (n : Nat) (K0 : Int → (List (Int × ByteArray × List Int)) → Option (Int × List (Int × ByteArray × List Int))) : Nat → Int → Int → (List (Int × ByteArray × List Int)) → Option (Int × List (Int × ByteArray × List Int))
  | 0, _, _, _ => none
  | k + 1, k3, i4, a5 =>
    if decide (i4 < (List.length a5 : Int)) = true then
      if 0 ≤ i4 ∧ i4 < (List.length a5 : Int) then
        let w6 : List (Int × ByteArray × List Int) := List.set a5 (Int.toNat i4) (k3, (List.getD a5 (Int.toNat i4) (0, (ByteArray.empty, []))).2)
        (laws_markText.F n (IntKind.i64.wrap (k3 + 1))).bind fun r7 =>
        if 0 ≤ i4 ∧ i4 < (List.length w6 : Int) then
          let w8 : List (Int × ByteArray × List Int) := List.set w6 (Int.toNat i4) ((List.getD w6 (Int.toNat i4) (0, (ByteArray.empty, []))).1, (r7, ((List.getD w6 (Int.toNat i4) (0, (ByteArray.empty, []))).2).2))
          if 0 ≤ i4 ∧ i4 < (List.length w8 : Int) then
            (laws_markIntS.F n (((List.getD w8 (Int.toNat i4) (0, (ByteArray.empty, []))).2).2) (IntKind.i64.wrap ((IntKind.i64.wrap (k3 + 1)) + 1))).bind fun r9 =>
            let w10 : List (Int × ByteArray × List Int) := List.set w8 (Int.toNat i4) ((List.getD w8 (Int.toNat i4) (0, (ByteArray.empty, []))).1, (((List.getD w8 (Int.toNat i4) (0, (ByteArray.empty, []))).2).1, r9.2))
            l0 n K0 k r9.1 (IntKind.i64.wrap (i4 + 1)) w10
          else
            none
        else
          none
      else
        none
    else
      K0 k3 a5
def F (n : Nat) (a1 : List (Int × ByteArray × List Int)) (k2 : Int) : Option (Int × List (Int × ByteArray × List Int)) :=
  l0 n (fun k11 a12 =>
    some (k11, a12)) n k2 0 a1
noncomputable def code : Code := Try.f82.body.getD .skip
abbrev ash : List ASh := [.ms (.sl (.st (.pair (.int .i64) (.pair (.str) (.sl (.int .i64)))))) (.own (.pr .ro (.pr .ro (.own .ro)))), .ro (.int .i64)]
abbrev rsh : List RSh := [.ro (.int .i64), .out (.sl (.st (.pair (.int .i64) (.pair (.str) (.sl (.int .i64))))))]
def ent (n : Nat) : FEnt := ⟨ash, rsh, fun v => F n v.1 v.2.1⟩
noncomputable def cx (n : Nat) : Ctx := mkCtx Try.prog TYS [(30, laws_markIntS.ent n), (90, laws_markText.ent n)]
noncomputable def d : FnD := ⟨code, 35, .nil, [(.tmp 4, .int .i64, .ro)]⟩
noncomputable def kr (n : Nat) (v : AVs ash) : Env → Option (RVs rsh) := endK (cx n) d (avEnc ash v) (rvDec rsh)
noncomputable def c0 : Code := (Code.l (Code.r (Code.l (Code.r code))))
noncomputable def b0 : Code := Code.l c0
def an : An := .seq .nil (.seq (.seq .nil (.block (some [0, 1]) (.cut 0 [0, 1, 5]))) (.seq .nil .nil))
def an0 : An := .seq (.seq .nil (.cond .nil .nil)) (.seq (.block (some [0, 1, 5]) (.seq .nil (.seq .nil (.seq .nil (.seq .nil .nil))))) .nil)
abbrev sh0 : ES := ⟨[(0, .al 0 []), (1, .v (.int .i64)), (5, .v (.int .i64))], [⟨0, .sl (.st (.pair (.int .i64) (.pair (.str) (.sl (.int .i64))))), .own (.pr .ro (.pr .ro (.own .ro))), false, true⟩]⟩
abbrev sh0_0 : ES := ⟨[(0, .al 0 []), (1, .v (.int .i64))], [⟨0, .sl (.st (.pair (.int .i64) (.pair (.str) (.sl (.int .i64))))), .own (.pr .ro (.pr .ro (.own .ro))), false, true⟩]⟩
def T0 (n m : Nat) (e : Env) (kn : Env → Option (RVs rsh)) (kx : Nat → Env → Option (RVs rsh)) : Option (RVs rsh) := ES.on sh0 e fun x => l0 n (fun y0 y1 => kx 0 (sh0_0.enc (((()), y0, ()), (y1, ())))) m x.1.2.1 x.1.2.2.1 x.2.1
def T (n : Nat) : Tab (RVs rsh) := fun j e kn kx => match j with
  | 0 => T0 n n e kn kx
  | _ => none
theorem co (n : Nat) : CtxOk (cx n) := mkCtx_cok TYS_ok
theorem mx (n : Nat) : (cx n).P.follows .mixedOrders = true := mkCtx_mix MIX
theorem mk (n : Nat) : MOk (cx n) := mkCtx_ok (mem_cons (laws_markIntS.ok n) (mem_cons (laws_markText.ok n) mem_nil))
theorem us0 : units b0 an0 = [] := by kernel_rfl
theorem e0 (n m : Nat) (v : AVs ash) (x : sh0.V) (kn : Env → Option (RVs rsh)) (kx : Nat → Env → Option (RVs rsh)) : aevT (cx n) 35 (T n) (kr n v) b0 an0 [(0, [0, 1])] (meet (some [0, 1, 5]) fun e => T0 n m e kn kx) kx (sh0.enc x) = l0 n (fun y0 y1 => kx 0 (sh0_0.enc (((()), y0, ()), (y1, ())))) (m + 1) x.1.2.1 x.1.2.2.1 x.2.1 := by kernel_rfl
theorem cl0 : c0 = .loop b0 := by kernel_rfl
theorem u0 (n : Nat) (v : AVs ash) : UnitOk (cx n) 35 (T n) (kr n v) 0 c0 := by
  rw [cl0]
  exact loop_unit (n := n) (co n) (mk n) (mx n) an0 [(0, [0, 1])] [0, 1, 5] (T0 n) (fun _ _ _ => rfl) (fun e kn kx out h => by obtain ⟨x, _, h⟩ := ES.on_inv h; cases h) (fun m e kn kx out h => by obtain ⟨x, rfl, h⟩ := ES.on_inv h; exact (e0 n m v x kn kx).trans h) (units_of us0 (mem_nil))
theorem us : units code an = [(0, c0)] := by kernel_rfl
theorem eqn (n : Nat) (v : AVs ash) : fnEvT (cx n) d an (T n) (avEnc ash v) (rvDec rsh) = F n v.1 v.2.1 := by kernel_rfl
theorem ok (n : Nat) : EntOk Try.prog 82 (ent n) :=
  ent_ok (c := cx n) (e := ent n) (d := d) (an := an) (fn := Try.f82) (co n) (mk n) (mx n) (by kernel_rfl) (by kernel_rfl) (by kernel_rfl) (by kernel_rfl) (by kernel_rfl) (fun _ => T n) (fun v => units_of us (mem_cons (u0 n v) mem_nil)) (eqn n)
end laws_markLitS
/-! laws.markRuleS -/
namespace laws_markRuleS
def l0 (n : Nat) (K0 : Int → (List ((List (Int × ByteArray × List Int)) × (Int × ByteArray × List Int) × List (Int × ByteArray × List Int))) → Option (Int × List ((List (Int × ByteArray × List Int)) × (Int × ByteArray × List Int) × List (Int × ByteArray × List Int)))) : Nat → Int → Int → (List ((List (Int × ByteArray × List Int)) × (Int × ByteArray × List Int) × List (Int × ByteArray × List Int))) → Option (Int × List ((List (Int × ByteArray × List Int)) × (Int × ByteArray × List Int) × List (Int × ByteArray × List Int)))
  | 0, _, _, _ => none
  | k + 1, k3, i4, a5 =>
    if decide (i4 < (List.length a5 : Int)) = true then
      if 0 ≤ i4 ∧ i4 < (List.length a5 : Int) then
        (laws_markExpS.F n ((List.getD a5 (Int.toNat i4) ([], ((0, (ByteArray.empty, [])), []))).1) k3).bind fun r6 =>
        let w7 : List ((List (Int × ByteArray × List Int)) × (Int × ByteArray × List Int) × List (Int × ByteArray × List Int)) := List.set a5 (Int.toNat i4) (r6.2, (List.getD a5 (Int.toNat i4) ([], ((0, (ByteArray.empty, [])), []))).2)
        if 0 ≤ i4 ∧ i4 < (List.length w7 : Int) then
          let w8 : List ((List (Int × ByteArray × List Int)) × (Int × ByteArray × List Int) × List (Int × ByteArray × List Int)) := List.set w7 (Int.toNat i4) ((List.getD w7 (Int.toNat i4) ([], ((0, (ByteArray.empty, [])), []))).1, ((r6.1, (((List.getD w7 (Int.toNat i4) ([], ((0, (ByteArray.empty, [])), []))).2).1).2), ((List.getD w7 (Int.toNat i4) ([], ((0, (ByteArray.empty, [])), []))).2).2))
          (laws_markText.F n (IntKind.i64.wrap (r6.1 + 1))).bind fun r9 =>
          if 0 ≤ i4 ∧ i4 < (List.length w8 : Int) then
            let w10 : List ((List (Int × ByteArray × List Int)) × (Int × ByteArray × List Int) × List (Int × ByteArray × List Int)) := List.set w8 (Int.toNat i4) ((List.getD w8 (Int.toNat i4) ([], ((0, (ByteArray.empty, [])), []))).1, (((((List.getD w8 (Int.toNat i4) ([], ((0, (ByteArray.empty, [])), []))).2).1).1, (r9, ((((List.getD w8 (Int.toNat i4) ([], ((0, (ByteArray.empty, [])), []))).2).1).2).2)), ((List.getD w8 (Int.toNat i4) ([], ((0, (ByteArray.empty, [])), []))).2).2))
            if 0 ≤ i4 ∧ i4 < (List.length w10 : Int) then
              (laws_markIntS.F n (((((List.getD w10 (Int.toNat i4) ([], ((0, (ByteArray.empty, [])), []))).2).1).2).2) (IntKind.i64.wrap ((IntKind.i64.wrap (r6.1 + 1)) + 1))).bind fun r11 =>
              let w12 : List ((List (Int × ByteArray × List Int)) × (Int × ByteArray × List Int) × List (Int × ByteArray × List Int)) := List.set w10 (Int.toNat i4) ((List.getD w10 (Int.toNat i4) ([], ((0, (ByteArray.empty, [])), []))).1, (((((List.getD w10 (Int.toNat i4) ([], ((0, (ByteArray.empty, [])), []))).2).1).1, (((((List.getD w10 (Int.toNat i4) ([], ((0, (ByteArray.empty, [])), []))).2).1).2).1, r11.2)), ((List.getD w10 (Int.toNat i4) ([], ((0, (ByteArray.empty, [])), []))).2).2))
              if 0 ≤ i4 ∧ i4 < (List.length w12 : Int) then
                (laws_markLitS.F n (((List.getD w12 (Int.toNat i4) ([], ((0, (ByteArray.empty, [])), []))).2).2) r11.1).bind fun r13 =>
                let w14 : List ((List (Int × ByteArray × List Int)) × (Int × ByteArray × List Int) × List (Int × ByteArray × List Int)) := List.set w12 (Int.toNat i4) ((List.getD w12 (Int.toNat i4) ([], ((0, (ByteArray.empty, [])), []))).1, (((List.getD w12 (Int.toNat i4) ([], ((0, (ByteArray.empty, [])), []))).2).1, r13.2))
                l0 n K0 k r13.1 (IntKind.i64.wrap (i4 + 1)) w14
              else
                none
            else
              none
          else
            none
        else
          none
      else
        none
    else
      K0 k3 a5
def F (n : Nat) (a1 : List ((List (Int × ByteArray × List Int)) × (Int × ByteArray × List Int) × List (Int × ByteArray × List Int))) (k2 : Int) : Option (Int × List ((List (Int × ByteArray × List Int)) × (Int × ByteArray × List Int) × List (Int × ByteArray × List Int))) :=
  l0 n (fun k15 a16 =>
    some (k15, a16)) n k2 0 a1
noncomputable def code : Code := Try.f74.body.getD .skip
abbrev ash : List ASh := [.ms (.sl (.st (.pair (.sl (.st (.pair (.int .i64) (.pair (.str) (.sl (.int .i64)))))) (.pair (.st (.pair (.int .i64) (.pair (.str) (.sl (.int .i64))))) (.sl (.st (.pair (.int .i64) (.pair (.str) (.sl (.int .i64)))))))))) (.own (.pr (.own (.pr .ro (.pr .ro (.own .ro)))) (.pr (.pr .ro (.pr .ro (.own .ro))) (.own (.pr .ro (.pr .ro (.own .ro))))))), .ro (.int .i64)]
abbrev rsh : List RSh := [.ro (.int .i64), .out (.sl (.st (.pair (.sl (.st (.pair (.int .i64) (.pair (.str) (.sl (.int .i64)))))) (.pair (.st (.pair (.int .i64) (.pair (.str) (.sl (.int .i64))))) (.sl (.st (.pair (.int .i64) (.pair (.str) (.sl (.int .i64))))))))))]
def ent (n : Nat) : FEnt := ⟨ash, rsh, fun v => F n v.1 v.2.1⟩
noncomputable def cx (n : Nat) : Ctx := mkCtx Try.prog TYS [(30, laws_markIntS.ent n), (80, laws_markExpS.ent n), (82, laws_markLitS.ent n), (90, laws_markText.ent n)]
noncomputable def d : FnD := ⟨code, 52, .nil, [(.tmp 4, .int .i64, .ro)]⟩
noncomputable def kr (n : Nat) (v : AVs ash) : Env → Option (RVs rsh) := endK (cx n) d (avEnc ash v) (rvDec rsh)
noncomputable def c0 : Code := (Code.l (Code.r (Code.l (Code.r code))))
noncomputable def b0 : Code := Code.l c0
def an : An := .seq .nil (.seq (.seq .nil (.block (some [0, 1]) (.cut 0 [0, 1, 5]))) (.seq .nil .nil))
def an0 : An := .seq (.seq .nil (.cond .nil .nil)) (.seq (.block (some [0, 1, 5]) (.seq .nil (.seq .nil (.seq .nil (.seq .nil (.seq .nil (.seq .nil .nil))))))) .nil)
abbrev sh0 : ES := ⟨[(0, .al 0 []), (1, .v (.int .i64)), (5, .v (.int .i64))], [⟨0, .sl (.st (.pair (.sl (.st (.pair (.int .i64) (.pair (.str) (.sl (.int .i64)))))) (.pair (.st (.pair (.int .i64) (.pair (.str) (.sl (.int .i64))))) (.sl (.st (.pair (.int .i64) (.pair (.str) (.sl (.int .i64))))))))), .own (.pr (.own (.pr .ro (.pr .ro (.own .ro)))) (.pr (.pr .ro (.pr .ro (.own .ro))) (.own (.pr .ro (.pr .ro (.own .ro)))))), false, true⟩]⟩
abbrev sh0_0 : ES := ⟨[(0, .al 0 []), (1, .v (.int .i64))], [⟨0, .sl (.st (.pair (.sl (.st (.pair (.int .i64) (.pair (.str) (.sl (.int .i64)))))) (.pair (.st (.pair (.int .i64) (.pair (.str) (.sl (.int .i64))))) (.sl (.st (.pair (.int .i64) (.pair (.str) (.sl (.int .i64))))))))), .own (.pr (.own (.pr .ro (.pr .ro (.own .ro)))) (.pr (.pr .ro (.pr .ro (.own .ro))) (.own (.pr .ro (.pr .ro (.own .ro)))))), false, true⟩]⟩
def T0 (n m : Nat) (e : Env) (kn : Env → Option (RVs rsh)) (kx : Nat → Env → Option (RVs rsh)) : Option (RVs rsh) := ES.on sh0 e fun x => l0 n (fun y0 y1 => kx 0 (sh0_0.enc (((()), y0, ()), (y1, ())))) m x.1.2.1 x.1.2.2.1 x.2.1
def T (n : Nat) : Tab (RVs rsh) := fun j e kn kx => match j with
  | 0 => T0 n n e kn kx
  | _ => none
theorem co (n : Nat) : CtxOk (cx n) := mkCtx_cok TYS_ok
theorem mx (n : Nat) : (cx n).P.follows .mixedOrders = true := mkCtx_mix MIX
theorem mk (n : Nat) : MOk (cx n) := mkCtx_ok (mem_cons (laws_markIntS.ok n) (mem_cons (laws_markExpS.ok n) (mem_cons (laws_markLitS.ok n) (mem_cons (laws_markText.ok n) mem_nil))))
theorem us0 : units b0 an0 = [] := by kernel_rfl
theorem e0 (n m : Nat) (v : AVs ash) (x : sh0.V) (kn : Env → Option (RVs rsh)) (kx : Nat → Env → Option (RVs rsh)) : aevT (cx n) 52 (T n) (kr n v) b0 an0 [(0, [0, 1])] (meet (some [0, 1, 5]) fun e => T0 n m e kn kx) kx (sh0.enc x) = l0 n (fun y0 y1 => kx 0 (sh0_0.enc (((()), y0, ()), (y1, ())))) (m + 1) x.1.2.1 x.1.2.2.1 x.2.1 := by kernel_rfl
theorem cl0 : c0 = .loop b0 := by kernel_rfl
theorem u0 (n : Nat) (v : AVs ash) : UnitOk (cx n) 52 (T n) (kr n v) 0 c0 := by
  rw [cl0]
  exact loop_unit (n := n) (co n) (mk n) (mx n) an0 [(0, [0, 1])] [0, 1, 5] (T0 n) (fun _ _ _ => rfl) (fun e kn kx out h => by obtain ⟨x, _, h⟩ := ES.on_inv h; cases h) (fun m e kn kx out h => by obtain ⟨x, rfl, h⟩ := ES.on_inv h; exact (e0 n m v x kn kx).trans h) (units_of us0 (mem_nil))
theorem us : units code an = [(0, c0)] := by kernel_rfl
theorem eqn (n : Nat) (v : AVs ash) : fnEvT (cx n) d an (T n) (avEnc ash v) (rvDec rsh) = F n v.1 v.2.1 := by kernel_rfl
theorem ok (n : Nat) : EntOk Try.prog 74 (ent n) :=
  ent_ok (c := cx n) (e := ent n) (d := d) (an := an) (fn := Try.f74) (co n) (mk n) (mx n) (by kernel_rfl) (by kernel_rfl) (by kernel_rfl) (by kernel_rfl) (by kernel_rfl) (fun _ => T n) (fun v => units_of us (mem_cons (u0 n v) mem_nil)) (eqn n)
end laws_markRuleS
/-! laws.markProg -/
namespace laws_markProg
def F (n : Nat) (a1 : (List (ByteArray × List (ByteArray × List ByteArray))) × (List (ByteArray × (List ByteArray) × Int)) × List ((List (Int × ByteArray × List Int)) × (Int × ByteArray × List Int) × List (Int × ByteArray × List Int))) (k2 : Int) : Option (Int × (List (ByteArray × List (ByteArray × List ByteArray))) × (List (ByteArray × (List ByteArray) × Int)) × List ((List (Int × ByteArray × List Int)) × (Int × ByteArray × List Int) × List (Int × ByteArray × List Int))) :=
  (laws_markTypeDeclS.F n a1.1 k2).bind fun r3 =>
  (laws_markRelDeclS.F n a1.2.1 r3.1).bind fun r4 =>
  (laws_markRuleS.F n a1.2.2 r4.1).bind fun r5 =>
  some (r5.1, (r3.2, (r4.2, r5.2)))
noncomputable def code : Code := Try.f29.body.getD .skip
abbrev ash : List ASh := [.ms (.st (.pair (.sl (.st (.pair (.str) (.sl (.st (.pair (.str) (.sl (.str)))))))) (.pair (.sl (.st (.pair (.str) (.pair (.sl (.str)) (.int .i64))))) (.sl (.st (.pair (.sl (.st (.pair (.int .i64) (.pair (.str) (.sl (.int .i64)))))) (.pair (.st (.pair (.int .i64) (.pair (.str) (.sl (.int .i64))))) (.sl (.st (.pair (.int .i64) (.pair (.str) (.sl (.int .i64))))))))))))) (.pr (.own (.pr .ro (.own (.pr .ro (.own .ro))))) (.pr (.own (.pr .ro (.pr (.own .ro) .ro))) (.own (.pr (.own (.pr .ro (.pr .ro (.own .ro)))) (.pr (.pr .ro (.pr .ro (.own .ro))) (.own (.pr .ro (.pr .ro (.own .ro))))))))), .ro (.int .i64)]
abbrev rsh : List RSh := [.ro (.int .i64), .out (.st (.pair (.sl (.st (.pair (.str) (.sl (.st (.pair (.str) (.sl (.str)))))))) (.pair (.sl (.st (.pair (.str) (.pair (.sl (.str)) (.int .i64))))) (.sl (.st (.pair (.sl (.st (.pair (.int .i64) (.pair (.str) (.sl (.int .i64)))))) (.pair (.st (.pair (.int .i64) (.pair (.str) (.sl (.int .i64))))) (.sl (.st (.pair (.int .i64) (.pair (.str) (.sl (.int .i64)))))))))))))]
def ent (n : Nat) : FEnt := ⟨ash, rsh, fun v => F n v.1 v.2.1⟩
noncomputable def cx (n : Nat) : Ctx := mkCtx Try.prog TYS [(72, laws_markTypeDeclS.ent n), (73, laws_markRelDeclS.ent n), (74, laws_markRuleS.ent n)]
noncomputable def d : FnD := ⟨code, 18, .nil, [(.tmp 4, .int .i64, .ro)]⟩
noncomputable def kr (n : Nat) (v : AVs ash) : Env → Option (RVs rsh) := endK (cx n) d (avEnc ash v) (rvDec rsh)
def an : An := .seq .nil (.seq .nil (.seq .nil (.seq .nil (.seq .nil .nil))))
def T (n : Nat) : Tab (RVs rsh) := fun j e kn kx => match j with
  | _ => none
theorem co (n : Nat) : CtxOk (cx n) := mkCtx_cok TYS_ok
theorem mx (n : Nat) : (cx n).P.follows .mixedOrders = true := mkCtx_mix MIX
theorem mk (n : Nat) : MOk (cx n) := mkCtx_ok (mem_cons (laws_markTypeDeclS.ok n) (mem_cons (laws_markRelDeclS.ok n) (mem_cons (laws_markRuleS.ok n) mem_nil)))
theorem us : units code an = [] := by kernel_rfl
theorem eqn (n : Nat) (v : AVs ash) : fnEvT (cx n) d an (T n) (avEnc ash v) (rvDec rsh) = F n v.1 v.2.1 := by kernel_rfl
theorem ok (n : Nat) : EntOk Try.prog 29 (ent n) :=
  ent_ok (c := cx n) (e := ent n) (d := d) (an := an) (fn := Try.f29) (co n) (mk n) (mx n) (by kernel_rfl) (by kernel_rfl) (by kernel_rfl) (by kernel_rfl) (by kernel_rfl) (fun _ => T n) (fun v => units_of us (mem_nil)) (eqn n)
end laws_markProg
/-! laws.heldIntS -/
namespace laws_heldIntS
def l0 (n : Nat) (a3 : List Int) (K0 : Int → Option Int) : Nat → Int → Int → Option Int
  | 0, _, _ => none
  | k + 1, k4, i5 =>
    if decide (i5 < (List.length a3 : Int)) = true then
      if 0 ≤ i5 ∧ i5 < (List.length a3 : Int) then
        if (!decide ((List.getD a3 (Int.toNat i5) 0) = k4)) = true then
          some (-1)
        else
          l0 n a3 K0 k (IntKind.i64.wrap (k4 + 1)) (IntKind.i64.wrap (i5 + 1))
      else
        none
    else
      K0 k4
def F (n : Nat) (a1 : List Int) (k2 : Int) : Option Int :=
  l0 n a1 (fun k6 =>
    some k6) n k2 0
noncomputable def code : Code := Try.f31.body.getD .skip
abbrev ash : List ASh := [.ro (.sl (.int .i64)), .ro (.int .i64)]
abbrev rsh : List RSh := [.ro (.int .i64)]
def ent (n : Nat) : FEnt := ⟨ash, rsh, fun v => F n v.1 v.2.1⟩
noncomputable def cx (n : Nat) : Ctx := mkCtx Try.prog TYS []
noncomputable def d : FnD := ⟨code, 21, .nil, [(.tmp 4, .int .i64, .ro)]⟩
noncomputable def kr (n : Nat) (v : AVs ash) : Env → Option (RVs rsh) := endK (cx n) d (avEnc ash v) (rvDec rsh)
noncomputable def c0 : Code := (Code.l (Code.r (Code.l (Code.r code))))
noncomputable def b0 : Code := Code.l c0
def an : An := .seq .nil (.seq (.seq .nil (.block (some [1]) (.cut 0 [0, 1, 5]))) (.seq .nil .nil))
def an0 : An := .seq (.seq .nil (.cond .nil .nil)) (.seq (.block (some [0, 1, 5]) (.seq (.seq .nil (.cond (.seq .nil .nil) .nil)) .nil)) .nil)
abbrev sh0 : ES := ⟨[(0, .v (.sl (.int .i64))), (1, .v (.int .i64)), (5, .v (.int .i64))], []⟩
abbrev sh0_0 : ES := ⟨[(1, .v (.int .i64))], []⟩
def T0 (n m : Nat) (e : Env) (kn : Env → Option (RVs rsh)) (kx : Nat → Env → Option (RVs rsh)) : Option (RVs rsh) := ES.on sh0 e fun x => l0 n x.1.1 (fun y0 => kx 0 (sh0_0.enc ((y0, ()), (())))) m x.1.2.1 x.1.2.2.1
def T (n : Nat) : Tab (RVs rsh) := fun j e kn kx => match j with
  | 0 => T0 n n e kn kx
  | _ => none
theorem co (n : Nat) : CtxOk (cx n) := mkCtx_cok TYS_ok
theorem mx (n : Nat) : (cx n).P.follows .mixedOrders = true := mkCtx_mix MIX
theorem mk (n : Nat) : MOk (cx n) := mkCtx_ok (mem_nil)
theorem us0 : units b0 an0 = [] := by kernel_rfl
theorem e0 (n m : Nat) (v : AVs ash) (x : sh0.V) (kn : Env → Option (RVs rsh)) (kx : Nat → Env → Option (RVs rsh)) : aevT (cx n) 21 (T n) (kr n v) b0 an0 [(0, [1])] (meet (some [0, 1, 5]) fun e => T0 n m e kn kx) kx (sh0.enc x) = l0 n x.1.1 (fun y0 => kx 0 (sh0_0.enc ((y0, ()), (())))) (m + 1) x.1.2.1 x.1.2.2.1 := by kernel_rfl
theorem cl0 : c0 = .loop b0 := by kernel_rfl
theorem u0 (n : Nat) (v : AVs ash) : UnitOk (cx n) 21 (T n) (kr n v) 0 c0 := by
  rw [cl0]
  exact loop_unit (n := n) (co n) (mk n) (mx n) an0 [(0, [1])] [0, 1, 5] (T0 n) (fun _ _ _ => rfl) (fun e kn kx out h => by obtain ⟨x, _, h⟩ := ES.on_inv h; cases h) (fun m e kn kx out h => by obtain ⟨x, rfl, h⟩ := ES.on_inv h; exact (e0 n m v x kn kx).trans h) (units_of us0 (mem_nil))
theorem us : units code an = [(0, c0)] := by kernel_rfl
theorem eqn (n : Nat) (v : AVs ash) : fnEvT (cx n) d an (T n) (avEnc ash v) (rvDec rsh) = F n v.1 v.2.1 := by kernel_rfl
theorem ok (n : Nat) : EntOk Try.prog 31 (ent n) :=
  ent_ok (c := cx n) (e := ent n) (d := d) (an := an) (fn := Try.f31) (co n) (mk n) (mx n) (by kernel_rfl) (by kernel_rfl) (by kernel_rfl) (by kernel_rfl) (by kernel_rfl) (fun _ => T n) (fun v => units_of us (mem_cons (u0 n v) mem_nil)) (eqn n)
end laws_heldIntS
/-! laws.FnExactInlines -/
namespace laws_FnExactInlines
def j0 (n : Nat) (t12 : List Int) (t13 : (List (ByteArray × List (ByteArray × List ByteArray))) × (List (ByteArray × (List ByteArray) × Int)) × List ((List (Int × ByteArray × List Int)) × (Int × ByteArray × List Int) × List (Int × ByteArray × List Int))) (t14 : List Int) : Option Bool :=
  (laws_markIntS.F n t14 1).bind fun r15 =>
  (laws_heldIntS.F n r15.2 1).bind fun r16 =>
  if decide (r16 < 0) = true then
    some false
  else
    if (!decide (r16 = r15.1)) = true then
      some false
    else
      (laws_toProg.F n t13).bind fun r17 =>
      (impl_Inlines.F n r17).bind fun r18 =>
      (laws_eqIntS.F n r18 t12).bind fun r19 =>
      if (!r19) = true then
        some false
      else
        (laws_heldIntS.F n r15.2 1).bind fun r20 =>
        if decide (r20 < 0) = true then
          some false
        else
          if (!decide (r20 = r15.1)) = true then
            some false
          else
            some true
def F (n : Nat) (t1 : (List (ByteArray × List (ByteArray × List ByteArray))) × (List (ByteArray × (List ByteArray) × Int)) × List ((List (Int × ByteArray × List Int)) × (Int × ByteArray × List Int) × List (Int × ByteArray × List Int))) : Option Bool :=
  (laws_szProg.F n t1 1048576).bind fun r2 =>
  if decide (r2 < 0) = true then
    some true
  else
    (laws_toProg.F n t1).bind fun r3 =>
    (spec_Inlines.F n r3).bind fun r4 =>
    (laws_toProg.F n t1).bind fun r5 =>
    (impl_Inlines.F n r5).bind fun r6 =>
    (laws_eqIntS.F n r6 r4).bind fun r7 =>
    if (!r7) = true then
      some false
    else
      (laws_toProg.F n t1).bind fun r8 =>
      (laws_eqProg.F n r5 r8).bind fun r9 =>
      if (!r9) = true then
        some false
      else
        (laws_markProg.F n r5 1).bind fun r10 =>
        if (decide (r10.1 < 0)) = false then
          (laws_eqIntS.F n r6 r4).bind fun r11 =>
          if (!r11) = true then
            some false
          else
            j0 n r4 t1 r6
        else
          some false
noncomputable def code : Code := Try.f6.body.getD .skip
abbrev ash : List ASh := [.ro (.st (.pair (.sl (.st (.pair (.str) (.sl (.st (.pair (.str) (.sl (.str)))))))) (.pair (.sl (.st (.pair (.str) (.pair (.sl (.str)) (.int .i64))))) (.sl (.st (.pair (.sl (.st (.pair (.int .i64) (.pair (.str) (.sl (.int .i64)))))) (.pair (.st (.pair (.int .i64) (.pair (.str) (.sl (.int .i64))))) (.sl (.st (.pair (.int .i64) (.pair (.str) (.sl (.int .i64)))))))))))))]
abbrev rsh : List RSh := [.ro .bool]
def ent (n : Nat) : FEnt := ⟨ash, rsh, fun v => F n v.1⟩
noncomputable def cx (n : Nat) : Ctx := mkCtx Try.prog TYS [(23, laws_szProg.ent n), (24, spec_Inlines.ent n), (25, laws_toProg.ent n), (26, impl_Inlines.ent n), (27, laws_eqIntS.ent n), (28, laws_eqProg.ent n), (29, laws_markProg.ent n), (30, laws_markIntS.ent n), (31, laws_heldIntS.ent n)]
noncomputable def d : FnD := ⟨code, 69, .nil, [(.tmp 2, .bool, .ro)]⟩
noncomputable def kr (n : Nat) (v : AVs ash) : Env → Option (RVs rsh) := endK (cx n) d (avEnc ash v) (rvDec rsh)
noncomputable def c0 : Code := (Code.r (Code.r (Code.r (Code.r (Code.r (Code.r (Code.r (Code.r (Code.r (Code.r (Code.r (Code.r code))))))))))))
def an : An := .seq .nil (.seq .nil (.seq .nil (.seq (.seq .nil (.cond (.seq .nil .nil) .nil)) (.seq .nil (.seq (.reg [(20, .pr (.own (.pr .ro (.own (.pr .ro (.own .ro))))) (.pr (.own (.pr .ro (.pr (.own .ro) .ro))) (.own (.pr (.own (.pr .ro (.pr .ro (.own .ro)))) (.pr (.pr .ro (.pr .ro (.own .ro))) (.own (.pr .ro (.pr .ro (.own .ro))))))))), (5, .pr (.own (.pr .ro (.own (.pr .ro (.own .ro))))) (.pr (.own (.pr .ro (.pr (.own .ro) .ro))) (.own (.pr (.own (.pr .ro (.pr .ro (.own .ro)))) (.pr (.pr .ro (.pr .ro (.own .ro))) (.own (.pr .ro (.pr .ro (.own .ro)))))))))]) (.seq (.reg [(22, .own .ro)]) (.seq (.seq .nil (.cond (.seq .nil .nil) .nil)) (.seq (.seq .nil (.cond (.seq .nil .nil) .nil)) (.seq .nil (.seq .nil (.seq (.seq .nil (.cond (.seq .nil .nil) .nil)) (.cut 0 [1, 4, 6]))))))))))))
def an0 : An := .seq .nil (.seq .nil (.seq .nil (.seq .nil (.seq (.seq .nil (.cond (.seq .nil .nil) .nil)) (.seq (.seq .nil (.cond (.seq .nil .nil) .nil)) (.seq .nil (.seq (.seq .nil (.cond (.seq .nil .nil) .nil)) (.seq .nil (.seq .nil (.seq (.seq .nil (.cond (.seq .nil .nil) .nil)) (.seq (.seq .nil (.cond (.seq .nil .nil) .nil)) (.seq .nil .nil))))))))))))
abbrev sh0 : ES := ⟨[(1, .pt 1 []), (4, .v (.sl (.int .i64))), (6, .al 6 [])], [⟨1, .st (.pair (.sl (.st (.pair (.str) (.sl (.st (.pair (.str) (.sl (.str)))))))) (.pair (.sl (.st (.pair (.str) (.pair (.sl (.str)) (.int .i64))))) (.sl (.st (.pair (.sl (.st (.pair (.int .i64) (.pair (.str) (.sl (.int .i64)))))) (.pair (.st (.pair (.int .i64) (.pair (.str) (.sl (.int .i64))))) (.sl (.st (.pair (.int .i64) (.pair (.str) (.sl (.int .i64)))))))))))), .ro, true, false⟩, ⟨6, .sl (.int .i64), .own .ro, false, false⟩]⟩
def T0 (n m : Nat) (e : Env) (kn : Env → Option (RVs rsh)) (kx : Nat → Env → Option (RVs rsh)) : Option (RVs rsh) := ES.on sh0 e fun x => j0 n x.1.2.1 x.2.1 x.2.2.1 
def T (n : Nat) : Tab (RVs rsh) := fun j e kn kx => match j with
  | 0 => T0 n n e kn kx
  | _ => none
theorem co (n : Nat) : CtxOk (cx n) := mkCtx_cok TYS_ok
theorem mx (n : Nat) : (cx n).P.follows .mixedOrders = true := mkCtx_mix MIX
theorem mk (n : Nat) : MOk (cx n) := mkCtx_ok (mem_cons (laws_szProg.ok n) (mem_cons (spec_Inlines.ok n) (mem_cons (laws_toProg.ok n) (mem_cons (impl_Inlines.ok n) (mem_cons (laws_eqIntS.ok n) (mem_cons (laws_eqProg.ok n) (mem_cons (laws_markProg.ok n) (mem_cons (laws_markIntS.ok n) (mem_cons (laws_heldIntS.ok n) mem_nil)))))))))
theorem us0 : units c0 an0 = [] := by kernel_rfl
theorem e0 (n m : Nat) (v : AVs ash) (x : sh0.V) (kn : Env → Option (RVs rsh)) (kx : Nat → Env → Option (RVs rsh)) : aevT (cx n) 69 (T n) (kr n v) c0 an0 [] (meet (some [2]) kn) kx (sh0.enc x) = j0 n x.1.2.1 x.2.1 x.2.2.1  := by kernel_rfl
theorem u0 (n : Nat) (v : AVs ash) : UnitOk (cx n) 69 (T n) (kr n v) 0 c0 :=
  join_unit (co n) (mk n) (mx n) an0 [] (some [2]) (fun e kn kx out h => by obtain ⟨x, rfl, h⟩ := ES.on_inv (show T0 n n e kn kx = some out from h); exact (e0 n n v x kn kx).trans h) (units_of us0 (mem_nil))
theorem us : units code an = [(0, c0)] := by kernel_rfl
theorem eqn (n : Nat) (v : AVs ash) : fnEvT (cx n) d an (T n) (avEnc ash v) (rvDec rsh) = F n v.1 := by kernel_rfl
theorem ok (n : Nat) : EntOk Try.prog 6 (ent n) :=
  ent_ok (c := cx n) (e := ent n) (d := d) (an := an) (fn := Try.f6) (co n) (mk n) (mx n) (by kernel_rfl) (by kernel_rfl) (by kernel_rfl) (by kernel_rfl) (by kernel_rfl) (fun _ => T n) (fun v => units_of us (mem_cons (u0 n v) mem_nil)) (eqn n)
end laws_FnExactInlines
end Go.Abs
