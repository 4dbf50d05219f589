/- The functions, and that a call of each comes to it. Conditions: none. -/
import Derived.Test.YtahdigojpapcdaaGreatDoorLb
namespace Go.Abs
open Go.Proofs
set_option linter.unusedVariables false
/-! laws.szStringS -/
namespace laws_szStringS
def l0 (n : Nat) (a3 : List ByteArray) (K0 : Int → Option Int) : Nat → Int → Int → Option Int
  | 0, _, _ => none
  | k + 1, left4, i5 =>
    if decide (i5 < (List.length a3 : Int)) = true then
      if (0 : Int) ≤ i5 ∧ i5 < (List.length a3 : Int) then
        if decide ((IntKind.i64.wrap (left4 - (ByteArray.size (List.getD a3 (Int.toNat i5) ByteArray.empty) : Int))) < 0) = true then
          some (-1)
        else
          l0 n a3 K0 k (IntKind.i64.wrap (left4 - (ByteArray.size (List.getD a3 (Int.toNat i5) ByteArray.empty) : Int))) (IntKind.i64.wrap (i5 + 1))
      else
        none
    else
      K0 left4
def F (n : Nat) (a1 : List ByteArray) (left2 : Int) : Option Int :=
  if decide ((IntKind.i64.wrap (left2 - (List.length a1 : Int))) < 0) = true then
    some (-1)
  else
    l0 n a1 (fun left6 =>
      some left6) n (IntKind.i64.wrap (left2 - (List.length a1 : Int))) 0
noncomputable def code : Code := Tryz.f132.body.getD .skip
abbrev ash : List ASh := [.ro (.sl (.str)), .ro (.int .i64)]
abbrev rsh : List RSh := [.ro (.int .i64)]
def ent (n : Nat) : FEnt := ⟨ash, rsh, fun v => F n v.1 v.2.1⟩
noncomputable def cx (n : Nat) : Ctx := mkCtx Tryz.prog TYS []
noncomputable def d : FnD := ⟨code, 28, .nil, [(.tmp 4, .int .i64, .ro)]⟩
noncomputable def kr (n : Nat) (v : AVs ash) : Env → Option (RVs rsh) := endK (cx n) d (avEnc ash v) (rvDec rsh)
noncomputable def c0 : Code := (Code.l (Code.r (Code.l (Code.r (Code.r (Code.r code))))))
noncomputable def b0 : Code := Code.l c0
def an : An := .seq .nil (.seq .nil (.seq (.seq .nil (.cond (.seq .nil .nil) .nil)) (.seq (.seq .nil (.block (some [1]) (.cut 0 [0, 1, 5]))) (.seq .nil .nil))))
def an0 : An := .seq (.seq .nil (.cond .nil .nil)) (.seq (.block (some [0, 1, 5]) (.seq .nil (.seq .nil (.cond (.seq .nil .nil) .nil)))) .nil)
abbrev sh0 : ES := ⟨[(0, .v (.sl (.str))), (1, .v (.int .i64)), (5, .v (.int .i64))], []⟩
abbrev sh0_0 : ES := ⟨[(1, .v (.int .i64))], []⟩
def T0 (n m : Nat) (e : Env) (kn : Env → Option (RVs rsh)) (kx : Nat → Env → Option (RVs rsh)) : Option (RVs rsh) := ES.on sh0 e fun x => l0 n x.1.1 (fun y0 => kx 0 (sh0_0.enc ((y0, ()), (())))) m x.1.2.1 x.1.2.2.1
def T (n : Nat) : Tab (RVs rsh) := fun j e kn kx => match j with
  | 0 => T0 n n e kn kx
  | _ => none
theorem co (n : Nat) : CtxOk (cx n) := mkCtx_cok TYS_ok
theorem mx (n : Nat) : (cx n).P.follows .mixedOrders = true := mkCtx_mix MIX
theorem mk (n : Nat) : MOk (cx n) := mkCtx_ok (mem_nil)
theorem us0 : units b0 an0 = [] := by kernel_rfl
theorem e0 (n m : Nat) (v : AVs ash) (x : sh0.V) (kn : Env → Option (RVs rsh)) (kx : Nat → Env → Option (RVs rsh)) : aevT (cx n) 28 (T n) (kr n v) b0 an0 [(0, [1])] (meet (some [0, 1, 5]) fun e => T0 n m e kn kx) kx (sh0.enc x) = l0 n x.1.1 (fun y0 => kx 0 (sh0_0.enc ((y0, ()), (())))) (m + 1) x.1.2.1 x.1.2.2.1 := by kernel_rfl
theorem cl0 : c0 = .loop b0 := by kernel_rfl
theorem u0 (n : Nat) (v : AVs ash) : UnitOk (cx n) 28 (T n) (kr n v) 0 c0 := by
  rw [cl0]
  exact loop_unit (n := n) (co n) (mk n) (mx n) an0 [(0, [1])] [0, 1, 5] (T0 n) (fun _ _ _ => rfl) (fun e kn kx out h => by obtain ⟨x, _, h⟩ := ES.on_inv h; cases h) (fun m e kn kx out h => by obtain ⟨x, rfl, h⟩ := ES.on_inv h; exact (e0 n m v x kn kx).trans h) (units_of us0 (mem_nil))
theorem us : units code an = [(0, c0)] := by kernel_rfl
theorem eqn (n : Nat) (v : AVs ash) : fnEvT (cx n) d an (T n) (avEnc ash v) (rvDec rsh) = F n v.1 v.2.1 := by kernel_rfl
theorem ok (n : Nat) : EntOk Tryz.prog 132 (ent n) :=
  ent_ok (c := cx n) (e := ent n) (d := d) (an := an) (fn := Tryz.f132) (co n) (mk n) (mx n) (by kernel_rfl) (by kernel_rfl) (by kernel_rfl) (by kernel_rfl) (by kernel_rfl) (fun _ => T n) (fun v => units_of us (mem_cons (u0 n v) mem_nil)) (eqn n)
end laws_szStringS
/-! laws.szTuple -/
namespace laws_szTuple
def F (n : Nat) (a1 : List ByteArray) (left2 : Int) : Option Int :=
  (laws_szStringS.F n a1 left2).bind fun r3 =>
  if decide (r3 < 0) = true then
    some (-1)
  else
    some r3
noncomputable def code : Code := Tryz.f104.body.getD .skip
abbrev ash : List ASh := [.ro (.st (.sl (.str))), .ro (.int .i64)]
abbrev rsh : List RSh := [.ro (.int .i64)]
def ent (n : Nat) : FEnt := ⟨ash, rsh, fun v => F n v.1 v.2.1⟩
noncomputable def cx (n : Nat) : Ctx := mkCtx Tryz.prog TYS [(132, laws_szStringS.ent n)]
noncomputable def d : FnD := ⟨code, 12, .nil, [(.tmp 4, .int .i64, .ro)]⟩
noncomputable def kr (n : Nat) (v : AVs ash) : Env → Option (RVs rsh) := endK (cx n) d (avEnc ash v) (rvDec rsh)
def an : An := .seq .nil (.seq .nil (.seq (.seq .nil (.cond (.seq .nil .nil) .nil)) (.seq .nil .nil)))
def T (n : Nat) : Tab (RVs rsh) := fun j e kn kx => match j with
  | _ => none
theorem co (n : Nat) : CtxOk (cx n) := mkCtx_cok TYS_ok
theorem mx (n : Nat) : (cx n).P.follows .mixedOrders = true := mkCtx_mix MIX
theorem mk (n : Nat) : MOk (cx n) := mkCtx_ok (mem_cons (laws_szStringS.ok n) mem_nil)
theorem us : units code an = [] := by kernel_rfl
theorem eqn (n : Nat) (v : AVs ash) : fnEvT (cx n) d an (T n) (avEnc ash v) (rvDec rsh) = F n v.1 v.2.1 := by kernel_rfl
theorem ok (n : Nat) : EntOk Tryz.prog 104 (ent n) :=
  ent_ok (c := cx n) (e := ent n) (d := d) (an := an) (fn := Tryz.f104) (co n) (mk n) (mx n) (by kernel_rfl) (by kernel_rfl) (by kernel_rfl) (by kernel_rfl) (by kernel_rfl) (fun _ => T n) (fun v => units_of us (mem_nil)) (eqn n)
end laws_szTuple
/-! laws.szTupleS -/
namespace laws_szTupleS
def l0 (n : Nat) (a3 : List (List ByteArray)) (K0 : Int → Option Int) : Nat → Int → Int → Option Int
  | 0, _, _ => none
  | k + 1, left4, i5 =>
    if decide (i5 < (List.length a3 : Int)) = true then
      if (0 : Int) ≤ i5 ∧ i5 < (List.length a3 : Int) then
        (laws_szTuple.F n (List.getD a3 (Int.toNat i5) []) left4).bind fun r6 =>
        if decide (r6 < 0) = true then
          some (-1)
        else
          l0 n a3 K0 k r6 (IntKind.i64.wrap (i5 + 1))
      else
        none
    else
      K0 left4
def F (n : Nat) (a1 : List (List ByteArray)) (left2 : Int) : Option Int :=
  if decide ((IntKind.i64.wrap (left2 - (List.length a1 : Int))) < 0) = true then
    some (-1)
  else
    l0 n a1 (fun left7 =>
      some left7) n (IntKind.i64.wrap (left2 - (List.length a1 : Int))) 0
noncomputable def code : Code := Tryz.f76.body.getD .skip
abbrev ash : List ASh := [.ro (.sl (.st (.sl (.str)))), .ro (.int .i64)]
abbrev rsh : List RSh := [.ro (.int .i64)]
def ent (n : Nat) : FEnt := ⟨ash, rsh, fun v => F n v.1 v.2.1⟩
noncomputable def cx (n : Nat) : Ctx := mkCtx Tryz.prog TYS [(104, laws_szTuple.ent n)]
noncomputable def d : FnD := ⟨code, 27, .nil, [(.tmp 4, .int .i64, .ro)]⟩
noncomputable def kr (n : Nat) (v : AVs ash) : Env → Option (RVs rsh) := endK (cx n) d (avEnc ash v) (rvDec rsh)
noncomputable def c0 : Code := (Code.l (Code.r (Code.l (Code.r (Code.r (Code.r code))))))
noncomputable def b0 : Code := Code.l c0
def an : An := .seq .nil (.seq .nil (.seq (.seq .nil (.cond (.seq .nil .nil) .nil)) (.seq (.seq .nil (.block (some [1]) (.cut 0 [0, 1, 5]))) (.seq .nil .nil))))
def an0 : An := .seq (.seq .nil (.cond .nil .nil)) (.seq (.block (some [0, 1, 5]) (.seq .nil (.seq .nil (.cond (.seq .nil .nil) .nil)))) .nil)
abbrev sh0 : ES := ⟨[(0, .v (.sl (.st (.sl (.str))))), (1, .v (.int .i64)), (5, .v (.int .i64))], []⟩
abbrev sh0_0 : ES := ⟨[(1, .v (.int .i64))], []⟩
def T0 (n m : Nat) (e : Env) (kn : Env → Option (RVs rsh)) (kx : Nat → Env → Option (RVs rsh)) : Option (RVs rsh) := ES.on sh0 e fun x => l0 n x.1.1 (fun y0 => kx 0 (sh0_0.enc ((y0, ()), (())))) m x.1.2.1 x.1.2.2.1
def T (n : Nat) : Tab (RVs rsh) := fun j e kn kx => match j with
  | 0 => T0 n n e kn kx
  | _ => none
theorem co (n : Nat) : CtxOk (cx n) := mkCtx_cok TYS_ok
theorem mx (n : Nat) : (cx n).P.follows .mixedOrders = true := mkCtx_mix MIX
theorem mk (n : Nat) : MOk (cx n) := mkCtx_ok (mem_cons (laws_szTuple.ok n) mem_nil)
theorem us0 : units b0 an0 = [] := by kernel_rfl
theorem e0 (n m : Nat) (v : AVs ash) (x : sh0.V) (kn : Env → Option (RVs rsh)) (kx : Nat → Env → Option (RVs rsh)) : aevT (cx n) 27 (T n) (kr n v) b0 an0 [(0, [1])] (meet (some [0, 1, 5]) fun e => T0 n m e kn kx) kx (sh0.enc x) = l0 n x.1.1 (fun y0 => kx 0 (sh0_0.enc ((y0, ()), (())))) (m + 1) x.1.2.1 x.1.2.2.1 := by kernel_rfl
theorem cl0 : c0 = .loop b0 := by kernel_rfl
theorem u0 (n : Nat) (v : AVs ash) : UnitOk (cx n) 27 (T n) (kr n v) 0 c0 := by
  rw [cl0]
  exact loop_unit (n := n) (co n) (mk n) (mx n) an0 [(0, [1])] [0, 1, 5] (T0 n) (fun _ _ _ => rfl) (fun e kn kx out h => by obtain ⟨x, _, h⟩ := ES.on_inv h; cases h) (fun m e kn kx out h => by obtain ⟨x, rfl, h⟩ := ES.on_inv h; exact (e0 n m v x kn kx).trans h) (units_of us0 (mem_nil))
theorem us : units code an = [(0, c0)] := by kernel_rfl
theorem eqn (n : Nat) (v : AVs ash) : fnEvT (cx n) d an (T n) (avEnc ash v) (rvDec rsh) = F n v.1 v.2.1 := by kernel_rfl
theorem ok (n : Nat) : EntOk Tryz.prog 76 (ent n) :=
  ent_ok (c := cx n) (e := ent n) (d := d) (an := an) (fn := Tryz.f76) (co n) (mk n) (mx n) (by kernel_rfl) (by kernel_rfl) (by kernel_rfl) (by kernel_rfl) (by kernel_rfl) (fun _ => T n) (fun v => units_of us (mem_cons (u0 n v) mem_nil)) (eqn n)
end laws_szTupleS
/-! laws.szRel -/
namespace laws_szRel
def F (n : Nat) (a1 : Int × List (List ByteArray)) (left2 : Int) : Option Int :=
  (laws_szTupleS.F n a1.2 left2).bind fun r3 =>
  if decide (r3 < 0) = true then
    some (-1)
  else
    some r3
noncomputable def code : Code := Tryz.f27.body.getD .skip
abbrev ash : List ASh := [.ro (.st (.pair (.int .i64) (.sl (.st (.sl (.str)))))), .ro (.int .i64)]
abbrev rsh : List RSh := [.ro (.int .i64)]
def ent (n : Nat) : FEnt := ⟨ash, rsh, fun v => F n v.1 v.2.1⟩
noncomputable def cx (n : Nat) : Ctx := mkCtx Tryz.prog TYS [(76, laws_szTupleS.ent n)]
noncomputable def d : FnD := ⟨code, 12, .nil, [(.tmp 4, .int .i64, .ro)]⟩
noncomputable def kr (n : Nat) (v : AVs ash) : Env → Option (RVs rsh) := endK (cx n) d (avEnc ash v) (rvDec rsh)
def an : An := .seq .nil (.seq .nil (.seq (.seq .nil (.cond (.seq .nil .nil) .nil)) (.seq .nil .nil)))
def T (n : Nat) : Tab (RVs rsh) := fun j e kn kx => match j with
  | _ => none
theorem co (n : Nat) : CtxOk (cx n) := mkCtx_cok TYS_ok
theorem mx (n : Nat) : (cx n).P.follows .mixedOrders = true := mkCtx_mix MIX
theorem mk (n : Nat) : MOk (cx n) := mkCtx_ok (mem_cons (laws_szTupleS.ok n) mem_nil)
theorem us : units code an = [] := by kernel_rfl
theorem eqn (n : Nat) (v : AVs ash) : fnEvT (cx n) d an (T n) (avEnc ash v) (rvDec rsh) = F n v.1 v.2.1 := by kernel_rfl
theorem ok (n : Nat) : EntOk Tryz.prog 27 (ent n) :=
  ent_ok (c := cx n) (e := ent n) (d := d) (an := an) (fn := Tryz.f27) (co n) (mk n) (mx n) (by kernel_rfl) (by kernel_rfl) (by kernel_rfl) (by kernel_rfl) (by kernel_rfl) (fun _ => T n) (fun v => units_of us (mem_nil)) (eqn n)
end laws_szRel
/-! laws.szRelS -/
namespace laws_szRelS
def l0 (n : Nat) (a3 : List (Int × List (List ByteArray))) (K0 : Int → Option Int) : Nat → Int → Int → Option Int
  | 0, _, _ => none
  | k + 1, left4, i5 =>
    if decide (i5 < (List.length a3 : Int)) = true then
      if (0 : Int) ≤ i5 ∧ i5 < (List.length a3 : Int) then
        (laws_szRel.F n (List.getD a3 (Int.toNat i5) (0, [])) left4).bind fun r6 =>
        if decide (r6 < 0) = true then
          some (-1)
        else
          l0 n a3 K0 k r6 (IntKind.i64.wrap (i5 + 1))
      else
        none
    else
      K0 left4
def F (n : Nat) (a1 : List (Int × List (List ByteArray))) (left2 : Int) : Option Int :=
  if decide ((IntKind.i64.wrap (left2 - (List.length a1 : Int))) < 0) = true then
    some (-1)
  else
    l0 n a1 (fun left7 =>
      some left7) n (IntKind.i64.wrap (left2 - (List.length a1 : Int))) 0
noncomputable def code : Code := Tryz.f48.body.getD .skip
abbrev ash : List ASh := [.ro (.sl (.st (.pair (.int .i64) (.sl (.st (.sl (.str))))))), .ro (.int .i64)]
abbrev rsh : List RSh := [.ro (.int .i64)]
def ent (n : Nat) : FEnt := ⟨ash, rsh, fun v => F n v.1 v.2.1⟩
noncomputable def cx (n : Nat) : Ctx := mkCtx Tryz.prog TYS [(27, laws_szRel.ent n)]
noncomputable def d : FnD := ⟨code, 27, .nil, [(.tmp 4, .int .i64, .ro)]⟩
noncomputable def kr (n : Nat) (v : AVs ash) : Env → Option (RVs rsh) := endK (cx n) d (avEnc ash v) (rvDec rsh)
noncomputable def c0 : Code := (Code.l (Code.r (Code.l (Code.r (Code.r (Code.r code))))))
noncomputable def b0 : Code := Code.l c0
def an : An := .seq .nil (.seq .nil (.seq (.seq .nil (.cond (.seq .nil .nil) .nil)) (.seq (.seq .nil (.block (some [1]) (.cut 0 [0, 1, 5]))) (.seq .nil .nil))))
def an0 : An := .seq (.seq .nil (.cond .nil .nil)) (.seq (.block (some [0, 1, 5]) (.seq .nil (.seq .nil (.cond (.seq .nil .nil) .nil)))) .nil)
abbrev sh0 : ES := ⟨[(0, .v (.sl (.st (.pair (.int .i64) (.sl (.st (.sl (.str)))))))), (1, .v (.int .i64)), (5, .v (.int .i64))], []⟩
abbrev sh0_0 : ES := ⟨[(1, .v (.int .i64))], []⟩
def T0 (n m : Nat) (e : Env) (kn : Env → Option (RVs rsh)) (kx : Nat → Env → Option (RVs rsh)) : Option (RVs rsh) := ES.on sh0 e fun x => l0 n x.1.1 (fun y0 => kx 0 (sh0_0.enc ((y0, ()), (())))) m x.1.2.1 x.1.2.2.1
def T (n : Nat) : Tab (RVs rsh) := fun j e kn kx => match j with
  | 0 => T0 n n e kn kx
  | _ => none
theorem co (n : Nat) : CtxOk (cx n) := mkCtx_cok TYS_ok
theorem mx (n : Nat) : (cx n).P.follows .mixedOrders = true := mkCtx_mix MIX
theorem mk (n : Nat) : MOk (cx n) := mkCtx_ok (mem_cons (laws_szRel.ok n) mem_nil)
theorem us0 : units b0 an0 = [] := by kernel_rfl
theorem e0 (n m : Nat) (v : AVs ash) (x : sh0.V) (kn : Env → Option (RVs rsh)) (kx : Nat → Env → Option (RVs rsh)) : aevT (cx n) 27 (T n) (kr n v) b0 an0 [(0, [1])] (meet (some [0, 1, 5]) fun e => T0 n m e kn kx) kx (sh0.enc x) = l0 n x.1.1 (fun y0 => kx 0 (sh0_0.enc ((y0, ()), (())))) (m + 1) x.1.2.1 x.1.2.2.1 := by kernel_rfl
theorem cl0 : c0 = .loop b0 := by kernel_rfl
theorem u0 (n : Nat) (v : AVs ash) : UnitOk (cx n) 27 (T n) (kr n v) 0 c0 := by
  rw [cl0]
  exact loop_unit (n := n) (co n) (mk n) (mx n) an0 [(0, [1])] [0, 1, 5] (T0 n) (fun _ _ _ => rfl) (fun e kn kx out h => by obtain ⟨x, _, h⟩ := ES.on_inv h; cases h) (fun m e kn kx out h => by obtain ⟨x, rfl, h⟩ := ES.on_inv h; exact (e0 n m v x kn kx).trans h) (units_of us0 (mem_nil))
theorem us : units code an = [(0, c0)] := by kernel_rfl
theorem eqn (n : Nat) (v : AVs ash) : fnEvT (cx n) d an (T n) (avEnc ash v) (rvDec rsh) = F n v.1 v.2.1 := by kernel_rfl
theorem ok (n : Nat) : EntOk Tryz.prog 48 (ent n) :=
  ent_ok (c := cx n) (e := ent n) (d := d) (an := an) (fn := Tryz.f48) (co n) (mk n) (mx n) (by kernel_rfl) (by kernel_rfl) (by kernel_rfl) (by kernel_rfl) (by kernel_rfl) (fun _ => T n) (fun v => units_of us (mem_cons (u0 n v) mem_nil)) (eqn n)
end laws_szRelS
/-! laws.szDb -/
namespace laws_szDb
def F (n : Nat) (a1 : List (Int × List (List ByteArray))) (left2 : Int) : Option Int :=
  (laws_szRelS.F n a1 left2).bind fun r3 =>
  if decide (r3 < 0) = true then
    some (-1)
  else
    some r3
noncomputable def code : Code := Tryz.f11.body.getD .skip
abbrev ash : List ASh := [.ro (.st (.sl (.st (.pair (.int .i64) (.sl (.st (.sl (.str)))))))), .ro (.int .i64)]
abbrev rsh : List RSh := [.ro (.int .i64)]
def ent (n : Nat) : FEnt := ⟨ash, rsh, fun v => F n v.1 v.2.1⟩
noncomputable def cx (n : Nat) : Ctx := mkCtx Tryz.prog TYS [(48, laws_szRelS.ent n)]
noncomputable def d : FnD := ⟨code, 12, .nil, [(.tmp 4, .int .i64, .ro)]⟩
noncomputable def kr (n : Nat) (v : AVs ash) : Env → Option (RVs rsh) := endK (cx n) d (avEnc ash v) (rvDec rsh)
def an : An := .seq .nil (.seq .nil (.seq (.seq .nil (.cond (.seq .nil .nil) .nil)) (.seq .nil .nil)))
def T (n : Nat) : Tab (RVs rsh) := fun j e kn kx => match j with
  | _ => none
theorem co (n : Nat) : CtxOk (cx n) := mkCtx_cok TYS_ok
theorem mx (n : Nat) : (cx n).P.follows .mixedOrders = true := mkCtx_mix MIX
theorem mk (n : Nat) : MOk (cx n) := mkCtx_ok (mem_cons (laws_szRelS.ok n) mem_nil)
theorem us : units code an = [] := by kernel_rfl
theorem eqn (n : Nat) (v : AVs ash) : fnEvT (cx n) d an (T n) (avEnc ash v) (rvDec rsh) = F n v.1 v.2.1 := by kernel_rfl
theorem ok (n : Nat) : EntOk Tryz.prog 11 (ent n) :=
  ent_ok (c := cx n) (e := ent n) (d := d) (an := an) (fn := Tryz.f11) (co n) (mk n) (mx n) (by kernel_rfl) (by kernel_rfl) (by kernel_rfl) (by kernel_rfl) (by kernel_rfl) (fun _ => T n) (fun v => units_of us (mem_nil)) (eqn n)
end laws_szDb
/-! laws.toStringS -/
namespace laws_toStringS
def l0 (n : Nat) (a2 : List ByteArray) (K0 : (List ByteArray) → Option (List ByteArray)) : Nat → Int → (List ByteArray) → Option (List ByteArray)
  | 0, _, _ => none
  | k + 1, i3, out4 =>
    if decide (i3 < (List.length a2 : Int)) = true then
      if (0 : Int) ≤ i3 ∧ i3 < (List.length a2 : Int) then
        if (0 : Int) ≤ i3 ∧ i3 < (List.length out4 : Int) then
          let w5 : List ByteArray := List.set out4 (Int.toNat i3) (List.getD a2 (Int.toNat i3) ByteArray.empty)
          l0 n a2 K0 k (IntKind.i64.wrap (i3 + 1)) w5
        else
          none
      else
        none
    else
      K0 out4
def F (n : Nat) (a1 : List ByteArray) : Option (List ByteArray) :=
  if (0 : Int) ≤ (List.length a1 : Int) ∧ (List.length a1 : Int) ≤ (List.length a1 : Int) ∧ (List.length a1 : Int) ≤ (lim : Int) then
    l0 n a1 (fun out6 =>
      some out6) n 0 (List.replicate (Int.toNat (List.length a1 : Int)) ByteArray.empty)
  else
    none
noncomputable def code : Code := Tryz.f135.body.getD .skip
abbrev ash : List ASh := [.ro (.sl (.str))]
abbrev rsh : List RSh := [.ro (.sl (.str))]
def ent (n : Nat) : FEnt := ⟨ash, rsh, fun v => F n v.1⟩
noncomputable def cx (n : Nat) : Ctx := mkCtx Tryz.prog TYS []
noncomputable def d : FnD := ⟨code, 22, .nil, [(.tmp 2, .sl (.str), .ro)]⟩
noncomputable def kr (n : Nat) (v : AVs ash) : Env → Option (RVs rsh) := endK (cx n) d (avEnc ash v) (rvDec rsh)
noncomputable def c0 : Code := (Code.l (Code.r (Code.l (Code.r (Code.r code)))))
noncomputable def b0 : Code := Code.l c0
def an : An := .seq .nil (.seq (.reg [(7, .own .ro)]) (.seq (.seq .nil (.block (some [3]) (.cut 0 [0, 3, 4]))) (.seq .nil .nil)))
def an0 : An := .seq (.seq .nil (.cond .nil .nil)) (.seq (.block (some [0, 3, 4]) .nil) .nil)
abbrev sh0 : ES := ⟨[(0, .v (.sl (.str))), (3, .al 3 []), (4, .v (.int .i64))], [⟨3, .sl (.str), .own .ro, false, false⟩]⟩
abbrev sh0_0 : ES := ⟨[(3, .al 3 [])], [⟨3, .sl (.str), .own .ro, false, false⟩]⟩
def T0 (n m : Nat) (e : Env) (kn : Env → Option (RVs rsh)) (kx : Nat → Env → Option (RVs rsh)) : Option (RVs rsh) := ES.on sh0 e fun x => l0 n x.1.1 (fun y0 => kx 0 (sh0_0.enc (((()), ()), (y0, ())))) m x.1.2.2.1 x.2.1
def T (n : Nat) : Tab (RVs rsh) := fun j e kn kx => match j with
  | 0 => T0 n n e kn kx
  | _ => none
theorem co (n : Nat) : CtxOk (cx n) := mkCtx_cok TYS_ok
theorem mx (n : Nat) : (cx n).P.follows .mixedOrders = true := mkCtx_mix MIX
theorem mk (n : Nat) : MOk (cx n) := mkCtx_ok (mem_nil)
theorem us0 : units b0 an0 = [] := by kernel_rfl
theorem e0 (n m : Nat) (v : AVs ash) (x : sh0.V) (kn : Env → Option (RVs rsh)) (kx : Nat → Env → Option (RVs rsh)) : aevT (cx n) 22 (T n) (kr n v) b0 an0 [(0, [3])] (meet (some [0, 3, 4]) fun e => T0 n m e kn kx) kx (sh0.enc x) = l0 n x.1.1 (fun y0 => kx 0 (sh0_0.enc (((()), ()), (y0, ())))) (m + 1) x.1.2.2.1 x.2.1 := by kernel_rfl
theorem cl0 : c0 = .loop b0 := by kernel_rfl
theorem u0 (n : Nat) (v : AVs ash) : UnitOk (cx n) 22 (T n) (kr n v) 0 c0 := by
  rw [cl0]
  exact loop_unit (n := n) (co n) (mk n) (mx n) an0 [(0, [3])] [0, 3, 4] (T0 n) (fun _ _ _ => rfl) (fun e kn kx out h => by obtain ⟨x, _, h⟩ := ES.on_inv h; cases h) (fun m e kn kx out h => by obtain ⟨x, rfl, h⟩ := ES.on_inv h; exact (e0 n m v x kn kx).trans h) (units_of us0 (mem_nil))
theorem us : units code an = [(0, c0)] := by kernel_rfl
theorem eqn (n : Nat) (v : AVs ash) : fnEvT (cx n) d an (T n) (avEnc ash v) (rvDec rsh) = F n v.1 := by kernel_rfl
theorem ok (n : Nat) : EntOk Tryz.prog 135 (ent n) :=
  ent_ok (c := cx n) (e := ent n) (d := d) (an := an) (fn := Tryz.f135) (co n) (mk n) (mx n) (by kernel_rfl) (by kernel_rfl) (by kernel_rfl) (by kernel_rfl) (by kernel_rfl) (fun _ => T n) (fun v => units_of us (mem_cons (u0 n v) mem_nil)) (eqn n)
end laws_toStringS
/-! laws.toTuple -/
namespace laws_toTuple
def F (n : Nat) (a1 : List ByteArray) : Option (List ByteArray) :=
  (laws_toStringS.F n a1).bind fun r2 =>
  some r2
noncomputable def code : Code := Tryz.f107.body.getD .skip
abbrev ash : List ASh := [.ro (.st (.sl (.str)))]
abbrev rsh : List RSh := [.ro (.st (.sl (.str)))]
def ent (n : Nat) : FEnt := ⟨ash, rsh, fun v => F n v.1⟩
noncomputable def cx (n : Nat) : Ctx := mkCtx Tryz.prog TYS [(135, laws_toStringS.ent n)]
noncomputable def d : FnD := ⟨code, 9, .nil, [(.cell 2 76, .st (.sl (.str)), .ro)]⟩
noncomputable def kr (n : Nat) (v : AVs ash) : Env → Option (RVs rsh) := endK (cx n) d (avEnc ash v) (rvDec rsh)
def an : An := .seq .nil (.seq .nil (.seq .nil (.seq .nil .nil)))
def T (n : Nat) : Tab (RVs rsh) := fun j e kn kx => match j with
  | _ => none
theorem co (n : Nat) : CtxOk (cx n) := mkCtx_cok TYS_ok
theorem mx (n : Nat) : (cx n).P.follows .mixedOrders = true := mkCtx_mix MIX
theorem mk (n : Nat) : MOk (cx n) := mkCtx_ok (mem_cons (laws_toStringS.ok n) mem_nil)
theorem us : units code an = [] := by kernel_rfl
theorem eqn (n : Nat) (v : AVs ash) : fnEvT (cx n) d an (T n) (avEnc ash v) (rvDec rsh) = F n v.1 := by kernel_rfl
theorem ok (n : Nat) : EntOk Tryz.prog 107 (ent n) :=
  ent_ok (c := cx n) (e := ent n) (d := d) (an := an) (fn := Tryz.f107) (co n) (mk n) (mx n) (by kernel_rfl) (by kernel_rfl) (by kernel_rfl) (by kernel_rfl) (by kernel_rfl) (fun _ => T n) (fun v => units_of us (mem_nil)) (eqn n)
end laws_toTuple
/-! laws.toTupleS -/
namespace laws_toTupleS
def l0 (n : Nat) (a2 : List (List ByteArray)) (K0 : (List (List ByteArray)) → Option (List (List ByteArray))) : Nat → Int → (List (List ByteArray)) → Option (List (List ByteArray))
  | 0, _, _ => none
  | k + 1, i3, out4 =>
    if decide (i3 < (List.length a2 : Int)) = true then
      if (0 : Int) ≤ i3 ∧ i3 < (List.length a2 : Int) then
        (laws_toTuple.F n (List.getD a2 (Int.toNat i3) [])).bind fun r5 =>
        if (0 : Int) ≤ i3 ∧ i3 < (List.length out4 : Int) then
          l0 n a2 K0 k (IntKind.i64.wrap (i3 + 1)) (List.set out4 (Int.toNat i3) r5)
        else
          none
      else
        none
    else
      K0 out4
def F (n : Nat) (a1 : List (List ByteArray)) : Option (List (List ByteArray)) :=
  if (0 : Int) ≤ (List.length a1 : Int) ∧ (List.length a1 : Int) ≤ (List.length a1 : Int) ∧ (List.length a1 : Int) ≤ (lim : Int) then
    l0 n a1 (fun out6 =>
      some out6) n 0 (List.replicate (Int.toNat (List.length a1 : Int)) [])
  else
    none
noncomputable def code : Code := Tryz.f79.body.getD .skip
abbrev ash : List ASh := [.ro (.sl (.st (.sl (.str))))]
abbrev rsh : List RSh := [.ro (.sl (.st (.sl (.str))))]
def ent (n : Nat) : FEnt := ⟨ash, rsh, fun v => F n v.1⟩
noncomputable def cx (n : Nat) : Ctx := mkCtx Tryz.prog TYS [(107, laws_toTuple.ent n)]
noncomputable def d : FnD := ⟨code, 23, .nil, [(.tmp 2, .sl (.st (.sl (.str))), .ro)]⟩
noncomputable def kr (n : Nat) (v : AVs ash) : Env → Option (RVs rsh) := endK (cx n) d (avEnc ash v) (rvDec rsh)
noncomputable def c0 : Code := (Code.l (Code.r (Code.l (Code.r (Code.r code)))))
noncomputable def b0 : Code := Code.l c0
def an : An := .seq .nil (.seq (.reg [(7, .own .ro)]) (.seq (.seq .nil (.block (some [3]) (.cut 0 [0, 3, 4]))) (.seq .nil .nil)))
def an0 : An := .seq (.seq .nil (.cond .nil .nil)) (.seq (.block (some [0, 3, 4]) .nil) .nil)
abbrev sh0 : ES := ⟨[(0, .v (.sl (.st (.sl (.str))))), (3, .al 3 []), (4, .v (.int .i64))], [⟨3, .sl (.st (.sl (.str))), .own .ro, false, false⟩]⟩
abbrev sh0_0 : ES := ⟨[(3, .al 3 [])], [⟨3, .sl (.st (.sl (.str))), .own .ro, false, false⟩]⟩
def T0 (n m : Nat) (e : Env) (kn : Env → Option (RVs rsh)) (kx : Nat → Env → Option (RVs rsh)) : Option (RVs rsh) := ES.on sh0 e fun x => l0 n x.1.1 (fun y0 => kx 0 (sh0_0.enc (((()), ()), (y0, ())))) m x.1.2.2.1 x.2.1
def T (n : Nat) : Tab (RVs rsh) := fun j e kn kx => match j with
  | 0 => T0 n n e kn kx
  | _ => none
theorem co (n : Nat) : CtxOk (cx n) := mkCtx_cok TYS_ok
theorem mx (n : Nat) : (cx n).P.follows .mixedOrders = true := mkCtx_mix MIX
theorem mk (n : Nat) : MOk (cx n) := mkCtx_ok (mem_cons (laws_toTuple.ok n) mem_nil)
theorem us0 : units b0 an0 = [] := by kernel_rfl
theorem e0 (n m : Nat) (v : AVs ash) (x : sh0.V) (kn : Env → Option (RVs rsh)) (kx : Nat → Env → Option (RVs rsh)) : aevT (cx n) 23 (T n) (kr n v) b0 an0 [(0, [3])] (meet (some [0, 3, 4]) fun e => T0 n m e kn kx) kx (sh0.enc x) = l0 n x.1.1 (fun y0 => kx 0 (sh0_0.enc (((()), ()), (y0, ())))) (m + 1) x.1.2.2.1 x.2.1 := by kernel_rfl
theorem cl0 : c0 = .loop b0 := by kernel_rfl
theorem u0 (n : Nat) (v : AVs ash) : UnitOk (cx n) 23 (T n) (kr n v) 0 c0 := by
  rw [cl0]
  exact loop_unit (n := n) (co n) (mk n) (mx n) an0 [(0, [3])] [0, 3, 4] (T0 n) (fun _ _ _ => rfl) (fun e kn kx out h => by obtain ⟨x, _, h⟩ := ES.on_inv h; cases h) (fun m e kn kx out h => by obtain ⟨x, rfl, h⟩ := ES.on_inv h; exact (e0 n m v x kn kx).trans h) (units_of us0 (mem_nil))
theorem us : units code an = [(0, c0)] := by kernel_rfl
theorem eqn (n : Nat) (v : AVs ash) : fnEvT (cx n) d an (T n) (avEnc ash v) (rvDec rsh) = F n v.1 := by kernel_rfl
theorem ok (n : Nat) : EntOk Tryz.prog 79 (ent n) :=
  ent_ok (c := cx n) (e := ent n) (d := d) (an := an) (fn := Tryz.f79) (co n) (mk n) (mx n) (by kernel_rfl) (by kernel_rfl) (by kernel_rfl) (by kernel_rfl) (by kernel_rfl) (fun _ => T n) (fun v => units_of us (mem_cons (u0 n v) mem_nil)) (eqn n)
end laws_toTupleS
/-! laws.toRel -/
namespace laws_toRel
def F (n : Nat) (a1 : Int × List (List ByteArray)) : Option (Int × List (List ByteArray)) :=
  (laws_toTupleS.F n a1.2).bind fun r2 =>
  some (a1.1, r2)
noncomputable def code : Code := Tryz.f29.body.getD .skip
abbrev ash : List ASh := [.ro (.st (.pair (.int .i64) (.sl (.st (.sl (.str))))))]
abbrev rsh : List RSh := [.ro (.st (.pair (.int .i64) (.sl (.st (.sl (.str))))))]
def ent (n : Nat) : FEnt := ⟨ash, rsh, fun v => F n v.1⟩
noncomputable def cx (n : Nat) : Ctx := mkCtx Tryz.prog TYS [(79, laws_toTupleS.ent n)]
noncomputable def d : FnD := ⟨code, 12, .nil, [(.cell 2 53, .st (.pair (.int .i64) (.sl (.st (.sl (.str))))), .ro)]⟩
noncomputable def kr (n : Nat) (v : AVs ash) : Env → Option (RVs rsh) := endK (cx n) d (avEnc ash v) (rvDec rsh)
def an : An := .seq .nil (.seq .nil (.seq .nil (.seq .nil (.seq .nil .nil))))
def T (n : Nat) : Tab (RVs rsh) := fun j e kn kx => match j with
  | _ => none
theorem co (n : Nat) : CtxOk (cx n) := mkCtx_cok TYS_ok
theorem mx (n : Nat) : (cx n).P.follows .mixedOrders = true := mkCtx_mix MIX
theorem mk (n : Nat) : MOk (cx n) := mkCtx_ok (mem_cons (laws_toTupleS.ok n) mem_nil)
theorem us : units code an = [] := by kernel_rfl
theorem eqn (n : Nat) (v : AVs ash) : fnEvT (cx n) d an (T n) (avEnc ash v) (rvDec rsh) = F n v.1 := by kernel_rfl
theorem ok (n : Nat) : EntOk Tryz.prog 29 (ent n) :=
  ent_ok (c := cx n) (e := ent n) (d := d) (an := an) (fn := Tryz.f29) (co n) (mk n) (mx n) (by kernel_rfl) (by kernel_rfl) (by kernel_rfl) (by kernel_rfl) (by kernel_rfl) (fun _ => T n) (fun v => units_of us (mem_nil)) (eqn n)
end laws_toRel
/-! laws.toRelS -/
namespace laws_toRelS
def l0 (n : Nat) (a2 : List (Int × List (List ByteArray))) (K0 : (List (Int × List (List ByteArray))) → Option (List (Int × List (List ByteArray)))) : Nat → Int → (List (Int × List (List ByteArray))) → Option (List (Int × List (List ByteArray)))
  | 0, _, _ => none
  | k + 1, i3, out4 =>
    if decide (i3 < (List.length a2 : Int)) = true then
      if (0 : Int) ≤ i3 ∧ i3 < (List.length a2 : Int) then
        (laws_toRel.F n (List.getD a2 (Int.toNat i3) (0, []))).bind fun r5 =>
        if (0 : Int) ≤ i3 ∧ i3 < (List.length out4 : Int) then
          l0 n a2 K0 k (IntKind.i64.wrap (i3 + 1)) (List.set out4 (Int.toNat i3) r5)
        else
          none
      else
        none
    else
      K0 out4
def F (n : Nat) (a1 : List (Int × List (List ByteArray))) : Option (List (Int × List (List ByteArray))) :=
  if (0 : Int) ≤ (List.length a1 : Int) ∧ (List.length a1 : Int) ≤ (List.length a1 : Int) ∧ (List.length a1 : Int) ≤ (lim : Int) then
    l0 n a1 (fun out6 =>
      some out6) n 0 (List.replicate (Int.toNat (List.length a1 : Int)) (0, []))
  else
    none
noncomputable def code : Code := Tryz.f50.body.getD .skip
abbrev ash : List ASh := [.ro (.sl (.st (.pair (.int .i64) (.sl (.st (.sl (.str)))))))]
abbrev rsh : List RSh := [.ro (.sl (.st (.pair (.int .i64) (.sl (.st (.sl (.str)))))))]
def ent (n : Nat) : FEnt := ⟨ash, rsh, fun v => F n v.1⟩
noncomputable def cx (n : Nat) : Ctx := mkCtx Tryz.prog TYS [(29, laws_toRel.ent n)]
noncomputable def d : FnD := ⟨code, 23, .nil, [(.tmp 2, .sl (.st (.pair (.int .i64) (.sl (.st (.sl (.str)))))), .ro)]⟩
noncomputable def kr (n : Nat) (v : AVs ash) : Env → Option (RVs rsh) := endK (cx n) d (avEnc ash v) (rvDec rsh)
noncomputable def c0 : Code := (Code.l (Code.r (Code.l (Code.r (Code.r code)))))
noncomputable def b0 : Code := Code.l c0
def an : An := .seq .nil (.seq (.reg [(7, .own .ro)]) (.seq (.seq .nil (.block (some [3]) (.cut 0 [0, 3, 4]))) (.seq .nil .nil)))
def an0 : An := .seq (.seq .nil (.cond .nil .nil)) (.seq (.block (some [0, 3, 4]) .nil) .nil)
abbrev sh0 : ES := ⟨[(0, .v (.sl (.st (.pair (.int .i64) (.sl (.st (.sl (.str)))))))), (3, .al 3 []), (4, .v (.int .i64))], [⟨3, .sl (.st (.pair (.int .i64) (.sl (.st (.sl (.str)))))), .own .ro, false, false⟩]⟩
abbrev sh0_0 : ES := ⟨[(3, .al 3 [])], [⟨3, .sl (.st (.pair (.int .i64) (.sl (.st (.sl (.str)))))), .own .ro, false, false⟩]⟩
def T0 (n m : Nat) (e : Env) (kn : Env → Option (RVs rsh)) (kx : Nat → Env → Option (RVs rsh)) : Option (RVs rsh) := ES.on sh0 e fun x => l0 n x.1.1 (fun y0 => kx 0 (sh0_0.enc (((()), ()), (y0, ())))) m x.1.2.2.1 x.2.1
def T (n : Nat) : Tab (RVs rsh) := fun j e kn kx => match j with
  | 0 => T0 n n e kn kx
  | _ => none
theorem co (n : Nat) : CtxOk (cx n) := mkCtx_cok TYS_ok
theorem mx (n : Nat) : (cx n).P.follows .mixedOrders = true := mkCtx_mix MIX
theorem mk (n : Nat) : MOk (cx n) := mkCtx_ok (mem_cons (laws_toRel.ok n) mem_nil)
theorem us0 : units b0 an0 = [] := by kernel_rfl
theorem e0 (n m : Nat) (v : AVs ash) (x : sh0.V) (kn : Env → Option (RVs rsh)) (kx : Nat → Env → Option (RVs rsh)) : aevT (cx n) 23 (T n) (kr n v) b0 an0 [(0, [3])] (meet (some [0, 3, 4]) fun e => T0 n m e kn kx) kx (sh0.enc x) = l0 n x.1.1 (fun y0 => kx 0 (sh0_0.enc (((()), ()), (y0, ())))) (m + 1) x.1.2.2.1 x.2.1 := by kernel_rfl
theorem cl0 : c0 = .loop b0 := by kernel_rfl
theorem u0 (n : Nat) (v : AVs ash) : UnitOk (cx n) 23 (T n) (kr n v) 0 c0 := by
  rw [cl0]
  exact loop_unit (n := n) (co n) (mk n) (mx n) an0 [(0, [3])] [0, 3, 4] (T0 n) (fun _ _ _ => rfl) (fun e kn kx out h => by obtain ⟨x, _, h⟩ := ES.on_inv h; cases h) (fun m e kn kx out h => by obtain ⟨x, rfl, h⟩ := ES.on_inv h; exact (e0 n m v x kn kx).trans h) (units_of us0 (mem_nil))
theorem us : units code an = [(0, c0)] := by kernel_rfl
theorem eqn (n : Nat) (v : AVs ash) : fnEvT (cx n) d an (T n) (avEnc ash v) (rvDec rsh) = F n v.1 := by kernel_rfl
theorem ok (n : Nat) : EntOk Tryz.prog 50 (ent n) :=
  ent_ok (c := cx n) (e := ent n) (d := d) (an := an) (fn := Tryz.f50) (co n) (mk n) (mx n) (by kernel_rfl) (by kernel_rfl) (by kernel_rfl) (by kernel_rfl) (by kernel_rfl) (fun _ => T n) (fun v => units_of us (mem_cons (u0 n v) mem_nil)) (eqn n)
end laws_toRelS
/-! laws.toDb -/
namespace laws_toDb
def F (n : Nat) (a1 : List (Int × List (List ByteArray))) : Option (List (Int × List (List ByteArray))) :=
  (laws_toRelS.F n a1).bind fun r2 =>
  some r2
noncomputable def code : Code := Tryz.f13.body.getD .skip
abbrev ash : List ASh := [.ro (.st (.sl (.st (.pair (.int .i64) (.sl (.st (.sl (.str))))))))]
abbrev rsh : List RSh := [.ro (.st (.sl (.st (.pair (.int .i64) (.sl (.st (.sl (.str))))))))]
def ent (n : Nat) : FEnt := ⟨ash, rsh, fun v => F n v.1⟩
noncomputable def cx (n : Nat) : Ctx := mkCtx Tryz.prog TYS [(50, laws_toRelS.ent n)]
noncomputable def d : FnD := ⟨code, 9, .nil, [(.cell 2 29, .st (.sl (.st (.pair (.int .i64) (.sl (.st (.sl (.str))))))), .ro)]⟩
noncomputable def kr (n : Nat) (v : AVs ash) : Env → Option (RVs rsh) := endK (cx n) d (avEnc ash v) (rvDec rsh)
def an : An := .seq .nil (.seq .nil (.seq .nil (.seq .nil .nil)))
def T (n : Nat) : Tab (RVs rsh) := fun j e kn kx => match j with
  | _ => none
theorem co (n : Nat) : CtxOk (cx n) := mkCtx_cok TYS_ok
theorem mx (n : Nat) : (cx n).P.follows .mixedOrders = true := mkCtx_mix MIX
theorem mk (n : Nat) : MOk (cx n) := mkCtx_ok (mem_cons (laws_toRelS.ok n) mem_nil)
theorem us : units code an = [] := by kernel_rfl
theorem eqn (n : Nat) (v : AVs ash) : fnEvT (cx n) d an (T n) (avEnc ash v) (rvDec rsh) = F n v.1 := by kernel_rfl
theorem ok (n : Nat) : EntOk Tryz.prog 13 (ent n) :=
  ent_ok (c := cx n) (e := ent n) (d := d) (an := an) (fn := Tryz.f13) (co n) (mk n) (mx n) (by kernel_rfl) (by kernel_rfl) (by kernel_rfl) (by kernel_rfl) (by kernel_rfl) (fun _ => T n) (fun v => units_of us (mem_nil)) (eqn n)
end laws_toDb
/-! spec.l01Between -/
namespace spec_l01Between
def F (n : Nat) (t1 : Int) (lo2 : Int) (hi3 : Int) : Option Bool :=
  if (decide (t1 ≥ lo2)) = true then
    some (decide (t1 ≤ hi3))
  else
    some false
noncomputable def code : Code := Tryz.f63.body.getD .skip
abbrev ash : List ASh := [.ro (.int .i64), .ro (.int .i64), .ro (.int .i64)]
abbrev rsh : List RSh := [.ro .bool]
def ent (n : Nat) : FEnt := ⟨ash, rsh, fun v => F n v.1 v.2.1 v.2.2.1⟩
noncomputable def cx (n : Nat) : Ctx := mkCtx Tryz.prog TYS []
noncomputable def d : FnD := ⟨code, 15, .nil, [(.tmp 6, .bool, .ro)]⟩
noncomputable def kr (n : Nat) (v : AVs ash) : Env → Option (RVs rsh) := endK (cx n) d (avEnc ash v) (rvDec rsh)
def an : An := .seq .nil (.seq .nil .nil)
def T (n : Nat) : Tab (RVs rsh) := fun j e kn kx => match j with
  | _ => none
theorem co (n : Nat) : CtxOk (cx n) := mkCtx_cok TYS_ok
theorem mx (n : Nat) : (cx n).P.follows .mixedOrders = true := mkCtx_mix MIX
theorem mk (n : Nat) : MOk (cx n) := mkCtx_ok (mem_nil)
theorem us : units code an = [] := by kernel_rfl
theorem eqn (n : Nat) (v : AVs ash) : fnEvT (cx n) d an (T n) (avEnc ash v) (rvDec rsh) = F n v.1 v.2.1 v.2.2.1 := by kernel_rfl
theorem ok (n : Nat) : EntOk Tryz.prog 63 (ent n) :=
  ent_ok (c := cx n) (e := ent n) (d := d) (an := an) (fn := Tryz.f63) (co n) (mk n) (mx n) (by kernel_rfl) (by kernel_rfl) (by kernel_rfl) (by kernel_rfl) (by kernel_rfl) (fun _ => T n) (fun v => units_of us (mem_nil)) (eqn n)
end spec_l01Between
/-! spec.l01Digit -/
namespace spec_l01Digit
def F (n : Nat) (b1 : Int) : Option Bool :=
  if (decide (b1 ≥ 48)) = true then
    some (decide (b1 ≤ 57))
  else
    some false
noncomputable def code : Code := Tryz.f147.body.getD .skip
abbrev ash : List ASh := [.ro (.int .u8)]
abbrev rsh : List RSh := [.ro .bool]
def ent (n : Nat) : FEnt := ⟨ash, rsh, fun v => F n v.1⟩
noncomputable def cx (n : Nat) : Ctx := mkCtx Tryz.prog TYS []
noncomputable def d : FnD := ⟨code, 9, .nil, [(.tmp 2, .bool, .ro)]⟩
noncomputable def kr (n : Nat) (v : AVs ash) : Env → Option (RVs rsh) := endK (cx n) d (avEnc ash v) (rvDec rsh)
def an : An := .seq .nil (.seq .nil .nil)
def T (n : Nat) : Tab (RVs rsh) := fun j e kn kx => match j with
  | _ => none
theorem co (n : Nat) : CtxOk (cx n) := mkCtx_cok TYS_ok
theorem mx (n : Nat) : (cx n).P.follows .mixedOrders = true := mkCtx_mix MIX
theorem mk (n : Nat) : MOk (cx n) := mkCtx_ok (mem_nil)
theorem us : units code an = [] := by kernel_rfl
theorem eqn (n : Nat) (v : AVs ash) : fnEvT (cx n) d an (T n) (avEnc ash v) (rvDec rsh) = F n v.1 := by kernel_rfl
theorem ok (n : Nat) : EntOk Tryz.prog 147 (ent n) :=
  ent_ok (c := cx n) (e := ent n) (d := d) (an := an) (fn := Tryz.f147) (co n) (mk n) (mx n) (by kernel_rfl) (by kernel_rfl) (by kernel_rfl) (by kernel_rfl) (by kernel_rfl) (fun _ => T n) (fun v => units_of us (mem_nil)) (eqn n)
end spec_l01Digit
/-! spec.NumText -/
namespace spec_NumText
def l0 (n : Nat) (t2 : Int) (K0 : (List Int) → Option ByteArray) : Nat → Int → (List Int) → Option ByteArray
  | 0, _, _ => none
  | k + 1, m3, out4 =>
    if (!decide (m3 = 0)) = true then
      if decide ((Int.tmod m3 10) < 0) = true then
        if List.length [IntKind.u8.wrap (IntKind.i64.wrap (48 + (IntKind.i64.wrap (0 - (Int.tmod m3 10)))))] + List.length out4 ≤ lim then
          l0 n t2 K0 k (IntKind.i64.wrap (Int.tdiv m3 10)) ([IntKind.u8.wrap (IntKind.i64.wrap (48 + (IntKind.i64.wrap (0 - (Int.tmod m3 10)))))] ++ out4)
        else
          none
      else
        if List.length [IntKind.u8.wrap (IntKind.i64.wrap (48 + (Int.tmod m3 10)))] + List.length out4 ≤ lim then
          l0 n t2 K0 k (IntKind.i64.wrap (Int.tdiv m3 10)) ([IntKind.u8.wrap (IntKind.i64.wrap (48 + (Int.tmod m3 10)))] ++ out4)
        else
          none
    else
      K0 out4
def F (n : Nat) (t1 : Int) : Option ByteArray :=
  if decide (t1 = 0) = true then
    some ⟨#[48]⟩
  else
    l0 n t1 (fun out5 =>
      if decide (t1 < 0) = true then
        if List.length [45] + List.length out5 ≤ lim then
          some (bstr ([45] ++ out5))
        else
          none
      else
        some (bstr out5)) n t1 []
noncomputable def code : Code := Tryz.f78.body.getD .skip
abbrev ash : List ASh := [.ro (.int .i64)]
abbrev rsh : List RSh := [.ro .str]
def ent (n : Nat) : FEnt := ⟨ash, rsh, fun v => F n v.1⟩
noncomputable def cx (n : Nat) : Ctx := mkCtx Tryz.prog TYS []
noncomputable def d : FnD := ⟨code, 33, .nil, [(.tmp 2, .str, .ro)]⟩
noncomputable def kr (n : Nat) (v : AVs ash) : Env → Option (RVs rsh) := endK (cx n) d (avEnc ash v) (rvDec rsh)
noncomputable def c0 : Code := (Code.l (Code.r (Code.l (Code.r (Code.r (Code.r code))))))
noncomputable def b0 : Code := Code.l c0
def an : An := .seq .nil (.seq (.seq .nil (.cond (.seq .nil .nil) .nil)) (.seq (.reg [(8, .own .ro)]) (.seq (.seq .nil (.block (some [0, 3]) (.cut 0 [0, 3, 4]))) (.seq (.seq .nil (.cond (.reg [(28, .own .ro)]) .nil)) (.seq .nil .nil)))))
def an0 : An := .seq (.seq .nil (.cond .nil .nil)) (.seq (.block (some [0, 3, 4]) (.seq .nil (.seq (.seq .nil (.cond .nil .nil)) (.reg [(23, .own .ro)])))) .nil)
abbrev sh0 : ES := ⟨[(0, .v (.int .i64)), (3, .al 3 []), (4, .v (.int .i64))], [⟨3, .sl (.int .u8), .own .ro, false, false⟩]⟩
abbrev sh0_0 : ES := ⟨[(0, .v (.int .i64)), (3, .al 3 [])], [⟨3, .sl (.int .u8), .own .ro, false, false⟩]⟩
def T0 (n m : Nat) (e : Env) (kn : Env → Option (RVs rsh)) (kx : Nat → Env → Option (RVs rsh)) : Option (RVs rsh) := ES.on sh0 e fun x => l0 n x.1.1 (fun y0 => kx 0 (sh0_0.enc ((x.1.1, (()), ()), (y0, ())))) m x.1.2.2.1 x.2.1
def T (n : Nat) : Tab (RVs rsh) := fun j e kn kx => match j with
  | 0 => T0 n n e kn kx
  | _ => none
theorem co (n : Nat) : CtxOk (cx n) := mkCtx_cok TYS_ok
theorem mx (n : Nat) : (cx n).P.follows .mixedOrders = true := mkCtx_mix MIX
theorem mk (n : Nat) : MOk (cx n) := mkCtx_ok (mem_nil)
theorem us0 : units b0 an0 = [] := by kernel_rfl
theorem e0 (n m : Nat) (v : AVs ash) (x : sh0.V) (kn : Env → Option (RVs rsh)) (kx : Nat → Env → Option (RVs rsh)) : aevT (cx n) 33 (T n) (kr n v) b0 an0 [(0, [0, 3])] (meet (some [0, 3, 4]) fun e => T0 n m e kn kx) kx (sh0.enc x) = l0 n x.1.1 (fun y0 => kx 0 (sh0_0.enc ((x.1.1, (()), ()), (y0, ())))) (m + 1) x.1.2.2.1 x.2.1 := by kernel_rfl
theorem cl0 : c0 = .loop b0 := by kernel_rfl
theorem u0 (n : Nat) (v : AVs ash) : UnitOk (cx n) 33 (T n) (kr n v) 0 c0 := by
  rw [cl0]
  exact loop_unit (n := n) (co n) (mk n) (mx n) an0 [(0, [0, 3])] [0, 3, 4] (T0 n) (fun _ _ _ => rfl) (fun e kn kx out h => by obtain ⟨x, _, h⟩ := ES.on_inv h; cases h) (fun m e kn kx out h => by obtain ⟨x, rfl, h⟩ := ES.on_inv h; exact (e0 n m v x kn kx).trans h) (units_of us0 (mem_nil))
theorem us : units code an = [(0, c0)] := by kernel_rfl
theorem eqn (n : Nat) (v : AVs ash) : fnEvT (cx n) d an (T n) (avEnc ash v) (rvDec rsh) = F n v.1 := by kernel_rfl
theorem ok (n : Nat) : EntOk Tryz.prog 78 (ent n) :=
  ent_ok (c := cx n) (e := ent n) (d := d) (an := an) (fn := Tryz.f78) (co n) (mk n) (mx n) (by kernel_rfl) (by kernel_rfl) (by kernel_rfl) (by kernel_rfl) (by kernel_rfl) (fun _ => T n) (fun v => units_of us (mem_cons (u0 n v) mem_nil)) (eqn n)
end spec_NumText
/-! spec.l01Number -/
namespace spec_l01Number
def l1 (n : Nat) (s6 : ByteArray) (digits8 : ByteArray) (K0 : Int → Option (Int × Bool)) : Nat → Int → Int → Option (Int × Bool)
  | 0, _, _ => none
  | k + 1, t7, i9 =>
    if decide (i9 < (ByteArray.size digits8 : Int)) = true then
      if (0 : Int) ≤ i9 ∧ i9 < (ByteArray.size digits8 : Int) then
        (spec_l01Digit.F n (byteAt digits8 i9)).bind fun r10 =>
        if (!r10) = true then
          some (0, false)
        else
          if (0 : Int) ≤ i9 ∧ i9 < (ByteArray.size digits8 : Int) then
            l1 n s6 digits8 K0 k (IntKind.i64.wrap ((IntKind.i64.wrap (10 * t7)) + (IntKind.i64.wrap (IntKind.u8.wrap ((byteAt digits8 i9) - 48))))) (IntKind.i64.wrap (i9 + 1))
          else
            none
      else
        none
    else
      K0 t7
def j0 (n : Nat) (s2 : ByteArray) (t3 : Int) (digits4 : ByteArray) : Option (Int × Bool) :=
  (spec_l01Between.F n (ByteArray.size digits4 : Int) 1 7).bind fun r5 =>
  if (!r5) = true then
    some (0, false)
  else
    l1 n s2 digits4 (fun t11 =>
      if (!(Abs.seq digits4 s2)) = true then
        (spec_NumText.F n (IntKind.i64.wrap (0 - t11))).bind fun r12 =>
        if (Abs.seq r12 s2) = true then
          (spec_l01Between.F n (IntKind.i64.wrap (0 - t11)) (-1000000) 1000000).bind fun r13 =>
          some (IntKind.i64.wrap (0 - t11), r13)
        else
          some (IntKind.i64.wrap (0 - t11), false)
      else
        (spec_NumText.F n t11).bind fun r14 =>
        if (Abs.seq r14 s2) = true then
          (spec_l01Between.F n t11 (-1000000) 1000000).bind fun r15 =>
          some (t11, r15)
        else
          some (t11, false)) n t3 0
def F (n : Nat) (s1 : ByteArray) : Option (Int × Bool) :=
  if (decide ((ByteArray.size s1 : Int) > 0)) = true then
    if (0 : Int) ≤ 0 ∧ 0 < (ByteArray.size s1 : Int) then
      if decide ((byteAt s1 0) = 45) = true then
        if (0 : Int) ≤ 1 ∧ (1 : Int) ≤ (ByteArray.size s1 : Int) ∧ (ByteArray.size s1 : Int) ≤ (ByteArray.size s1 : Int) then
          j0 n s1 0 (ByteArray.extract s1 (Int.toNat 1) (Int.toNat (ByteArray.size s1 : Int)))
        else
          none
      else
        j0 n s1 0 s1
    else
      none
  else
    j0 n s1 0 s1
noncomputable def code : Code := Tryz.f126.body.getD .skip
abbrev ash : List ASh := [.ro .str]
abbrev rsh : List RSh := [.ro (.int .i64), .ro .bool]
def ent (n : Nat) : FEnt := ⟨ash, rsh, fun v => F n v.1⟩
noncomputable def cx (n : Nat) : Ctx := mkCtx Tryz.prog TYS [(63, spec_l01Between.ent n), (78, spec_NumText.ent n), (147, spec_l01Digit.ent n)]
noncomputable def d : FnD := ⟨code, 55, .nil, [(.tmp 2, .int .i64, .ro), (.tmp 3, .bool, .ro)]⟩
noncomputable def kr (n : Nat) (v : AVs ash) : Env → Option (RVs rsh) := endK (cx n) d (avEnc ash v) (rvDec rsh)
noncomputable def c1 : Code := (Code.l (Code.r (Code.l (Code.r (Code.r (Code.r (Code.r (Code.r code))))))))
noncomputable def b1 : Code := Code.l c1
noncomputable def c0 : Code := (Code.r (Code.r (Code.r (Code.r code))))
def an : An := .seq .nil (.seq .nil (.seq .nil (.seq (.seq .nil (.cond .nil .nil)) (.cut 0 [0, 4, 5]))))
def an1 : An := .seq (.seq .nil (.cond .nil .nil)) (.seq (.block (some [0, 4, 5, 6]) (.seq (.seq .nil (.cond (.seq .nil .nil) .nil)) .nil)) .nil)
abbrev sh1 : ES := ⟨[(0, .v .str), (4, .v (.int .i64)), (5, .v .str), (6, .v (.int .i64))], []⟩
abbrev sh1_0 : ES := ⟨[(0, .v .str), (4, .v (.int .i64)), (5, .v .str)], []⟩
def an0 : An := .seq (.seq .nil (.cond (.seq .nil .nil) .nil)) (.seq (.seq .nil (.block (some [0, 4, 5]) (.cut 1 [0, 4, 5, 6]))) (.seq (.seq .nil (.cond .nil .nil)) (.seq .nil .nil)))
abbrev sh0 : ES := ⟨[(0, .v .str), (4, .v (.int .i64)), (5, .v .str)], []⟩
def T1 (n m : Nat) (e : Env) (kn : Env → Option (RVs rsh)) (kx : Nat → Env → Option (RVs rsh)) : Option (RVs rsh) := ES.on sh1 e fun x => l1 n x.1.1 x.1.2.2.1 (fun y0 => kx 0 (sh1_0.enc ((x.1.1, y0, x.1.2.2.1, ()), (())))) m x.1.2.1 x.1.2.2.2.1
def T0 (n m : Nat) (e : Env) (kn : Env → Option (RVs rsh)) (kx : Nat → Env → Option (RVs rsh)) : Option (RVs rsh) := ES.on sh0 e fun x => j0 n x.1.1 x.1.2.1 x.1.2.2.1 
def T (n : Nat) : Tab (RVs rsh) := fun j e kn kx => match j with
  | 1 => T1 n n e kn kx
  | 0 => T0 n n e kn kx
  | _ => none
theorem co (n : Nat) : CtxOk (cx n) := mkCtx_cok TYS_ok
theorem mx (n : Nat) : (cx n).P.follows .mixedOrders = true := mkCtx_mix MIX
theorem mk (n : Nat) : MOk (cx n) := mkCtx_ok (mem_cons (spec_l01Between.ok n) (mem_cons (spec_NumText.ok n) (mem_cons (spec_l01Digit.ok n) mem_nil)))
theorem us1 : units b1 an1 = [] := by kernel_rfl
theorem e1 (n m : Nat) (v : AVs ash) (x : sh1.V) (kn : Env → Option (RVs rsh)) (kx : Nat → Env → Option (RVs rsh)) : aevT (cx n) 55 (T n) (kr n v) b1 an1 [(0, [0, 4, 5])] (meet (some [0, 4, 5, 6]) fun e => T1 n m e kn kx) kx (sh1.enc x) = l1 n x.1.1 x.1.2.2.1 (fun y0 => kx 0 (sh1_0.enc ((x.1.1, y0, x.1.2.2.1, ()), (())))) (m + 1) x.1.2.1 x.1.2.2.2.1 := by kernel_rfl
theorem cl1 : c1 = .loop b1 := by kernel_rfl
theorem u1 (n : Nat) (v : AVs ash) : UnitOk (cx n) 55 (T n) (kr n v) 1 c1 := by
  rw [cl1]
  exact loop_unit (n := n) (co n) (mk n) (mx n) an1 [(0, [0, 4, 5])] [0, 4, 5, 6] (T1 n) (fun _ _ _ => rfl) (fun e kn kx out h => by obtain ⟨x, _, h⟩ := ES.on_inv h; cases h) (fun m e kn kx out h => by obtain ⟨x, rfl, h⟩ := ES.on_inv h; exact (e1 n m v x kn kx).trans h) (units_of us1 (mem_nil))
theorem us0 : units c0 an0 = [(1, c1)] := by kernel_rfl
theorem e0 (n m : Nat) (v : AVs ash) (x : sh0.V) (kn : Env → Option (RVs rsh)) (kx : Nat → Env → Option (RVs rsh)) : aevT (cx n) 55 (T n) (kr n v) c0 an0 [] (meet (some [2, 3]) kn) kx (sh0.enc x) = j0 n x.1.1 x.1.2.1 x.1.2.2.1  := by kernel_rfl
theorem u0 (n : Nat) (v : AVs ash) : UnitOk (cx n) 55 (T n) (kr n v) 0 c0 :=
  join_unit (co n) (mk n) (mx n) an0 [] (some [2, 3]) (fun e kn kx out h => by obtain ⟨x, rfl, h⟩ := ES.on_inv (show T0 n n e kn kx = some out from h); exact (e0 n n v x kn kx).trans h) (units_of us0 (mem_cons (u1 n v) mem_nil))
theorem us : units code an = [(0, c0)] := by kernel_rfl
theorem eqn (n : Nat) (v : AVs ash) : fnEvT (cx n) d an (T n) (avEnc ash v) (rvDec rsh) = F n v.1 := by kernel_rfl
theorem ok (n : Nat) : EntOk Tryz.prog 126 (ent n) :=
  ent_ok (c := cx n) (e := ent n) (d := d) (an := an) (fn := Tryz.f126) (co n) (mk n) (mx n) (by kernel_rfl) (by kernel_rfl) (by kernel_rfl) (by kernel_rfl) (by kernel_rfl) (fun _ => T n) (fun v => units_of us (mem_cons (u0 n v) mem_nil)) (eqn n)
end spec_l01Number
/-! spec.l01Args -/
namespace spec_l01Args
def l0 (n : Nat) (t2 : ByteArray) (K0 : Int → Option (ByteArray × (List ByteArray) × Bool)) : Nat → Int → Option (ByteArray × (List ByteArray) × Bool)
  | 0, _ => none
  | k + 1, t3 =>
    if (decide (t3 < (ByteArray.size t2 : Int))) = true then
      if (0 : Int) ≤ t3 ∧ t3 < (ByteArray.size t2 : Int) then
        if (!decide ((byteAt t2 t3) = 40)) = true then
          l0 n t2 K0 k (IntKind.i64.wrap (t3 + 1))
        else
          K0 t3
      else
        none
    else
      K0 t3
def l1 (n : Nat) (t5 : ByteArray) (t6 : Int) (K2 : Unit → Option (ByteArray × (List ByteArray) × Bool)) : Nat → Int → Bool → Int → Int → (List ByteArray) → Option (ByteArray × (List ByteArray) × Bool)
  | 0, _, _, _, _, _ => none
  | k + 1, t7, t8, t9, t10, t11 =>
    if decide (t10 < (ByteArray.size t5 : Int)) = true then
      if (0 : Int) ≤ t10 ∧ t10 < (ByteArray.size t5 : Int) then
        if decide ((byteAt t5 t10) = 34) = true then
          l1 n t5 t6 K2 k t7 (!t8) t9 (IntKind.i64.wrap (t10 + 1)) t11
        else
          if t8 = true then
            l1 n t5 t6 K2 k t7 t8 t9 (IntKind.i64.wrap (t10 + 1)) t11
          else
            if (0 : Int) ≤ t10 ∧ t10 < (ByteArray.size t5 : Int) then
              if decide ((byteAt t5 t10) = 40) = true then
                l1 n t5 t6 K2 k (IntKind.i64.wrap (t7 + 1)) t8 t9 (IntKind.i64.wrap (t10 + 1)) t11
              else
                if (0 : Int) ≤ t10 ∧ t10 < (ByteArray.size t5 : Int) then
                  if decide ((byteAt t5 t10) = 41) = true then
                    if decide ((IntKind.i64.wrap (t7 - 1)) = 0) = true then
                      if (0 : Int) ≤ 0 ∧ (0 : Int) ≤ t6 ∧ t6 ≤ (ByteArray.size t5 : Int) then
                        if (0 : Int) ≤ t9 ∧ t9 ≤ t10 ∧ t10 ≤ (ByteArray.size t5 : Int) then
                          if List.length t11 + List.length [ByteArray.extract t5 (Int.toNat t9) (Int.toNat t10)] ≤ lim then
                            some (ByteArray.extract t5 (Int.toNat 0) (Int.toNat t6), t11 ++ [ByteArray.extract t5 (Int.toNat t9) (Int.toNat t10)], decide (t10 = (IntKind.i64.wrap ((ByteArray.size t5 : Int) - 1))))
                          else
                            none
                        else
                          none
                      else
                        none
                    else
                      l1 n t5 t6 K2 k (IntKind.i64.wrap (t7 - 1)) t8 t9 (IntKind.i64.wrap (t10 + 1)) t11
                  else
                    if (0 : Int) ≤ t10 ∧ t10 < (ByteArray.size t5 : Int) then
                      if (decide ((byteAt t5 t10) = 44)) = true then
                        if decide (t7 = 1) = true then
                          if (0 : Int) ≤ t9 ∧ t9 ≤ t10 ∧ t10 ≤ (ByteArray.size t5 : Int) then
                            if List.length t11 + List.length [ByteArray.extract t5 (Int.toNat t9) (Int.toNat t10)] ≤ lim then
                              l1 n t5 t6 K2 k t7 t8 (IntKind.i64.wrap (t10 + 1)) (IntKind.i64.wrap (t10 + 1)) (t11 ++ [ByteArray.extract t5 (Int.toNat t9) (Int.toNat t10)])
                            else
                              none
                          else
                            none
                        else
                          l1 n t5 t6 K2 k t7 t8 t9 (IntKind.i64.wrap (t10 + 1)) t11
                      else
                        l1 n t5 t6 K2 k t7 t8 t9 (IntKind.i64.wrap (t10 + 1)) t11
                    else
                      none
                else
                  none
            else
              none
      else
        none
    else
      K2 ()
def F (n : Nat) (t1 : ByteArray) : Option (ByteArray × (List ByteArray) × Bool) :=
  l0 n t1 (fun t4 =>
    if decide (t4 = (ByteArray.size t1 : Int)) = true then
      some (t1, [], true)
    else
      l1 n t1 t4 (fun _ =>
        some (ByteArray.empty, [], false)) n 0 false (IntKind.i64.wrap (t4 + 1)) t4 []) n 0
noncomputable def code : Code := Tryz.f133.body.getD .skip
abbrev ash : List ASh := [.ro .str]
abbrev rsh : List RSh := [.ro .str, .ro (.sl (.str)), .ro .bool]
def ent (n : Nat) : FEnt := ⟨ash, rsh, fun v => F n v.1⟩
noncomputable def cx (n : Nat) : Ctx := mkCtx Tryz.prog TYS []
noncomputable def d : FnD := ⟨code, 98, .nil, [(.tmp 2, .str, .ro), (.tmp 3, .sl (.str), .ro), (.tmp 4, .bool, .ro)]⟩
noncomputable def kr (n : Nat) (v : AVs ash) : Env → Option (RVs rsh) := endK (cx n) d (avEnc ash v) (rvDec rsh)
noncomputable def c0 : Code := (Code.l (Code.l (Code.r (Code.r code))))
noncomputable def b0 : Code := Code.l c0
noncomputable def c1 : Code := (Code.l (Code.r (Code.l (Code.r (Code.r (Code.r (Code.r (Code.r (Code.r (Code.r (Code.r code)))))))))))
noncomputable def b1 : Code := Code.l c1
def an : An := .seq .nil (.seq .nil (.seq (.block (some [0, 5]) (.cut 0 [0, 5])) (.seq (.seq .nil (.cond (.seq .nil .nil) .nil)) (.seq (.reg [(29, .own .ro)]) (.seq .nil (.seq .nil (.seq .nil (.seq (.seq .nil (.block (some []) (.cut 1 [0, 5, 6, 7, 8, 9, 10]))) (.seq .nil .nil)))))))))
def an0 : An := .seq (.seq .nil (.cond .nil .nil)) (.block (some [0, 5]) .nil)
abbrev sh0 : ES := ⟨[(0, .v .str), (5, .v (.int .i64))], []⟩
abbrev sh0_0 : ES := ⟨[(0, .v .str), (5, .v (.int .i64))], []⟩
def an1 : An := .seq (.seq .nil (.cond .nil .nil)) (.seq (.block (some [0, 5, 6, 7, 8, 9, 10]) (.block (some [0, 5, 6, 7, 8, 9, 10]) (.seq .nil (.cond .nil (.seq .nil (.cond .nil (.seq .nil (.cond .nil (.seq .nil (.cond (.seq .nil (.seq .nil (.cond (.seq .nil .nil) .nil))) (.seq .nil (.cond (.seq .nil .nil) .nil)))))))))))) .nil)
abbrev sh1 : ES := ⟨[(0, .v .str), (5, .v (.int .i64)), (6, .al 6 []), (7, .v (.int .i64)), (8, .v .bool), (9, .v (.int .i64)), (10, .v (.int .i64))], [⟨6, .sl (.str), .own .ro, false, false⟩]⟩
abbrev sh1_2 : ES := ⟨[], []⟩
def T0 (n m : Nat) (e : Env) (kn : Env → Option (RVs rsh)) (kx : Nat → Env → Option (RVs rsh)) : Option (RVs rsh) := ES.on sh0 e fun x => l0 n x.1.1 (fun y0 => kx 0 (sh0_0.enc ((x.1.1, y0, ()), (())))) m x.1.2.1
def T1 (n m : Nat) (e : Env) (kn : Env → Option (RVs rsh)) (kx : Nat → Env → Option (RVs rsh)) : Option (RVs rsh) := ES.on sh1 e fun x => l1 n x.1.1 x.1.2.1 (fun _ => kx 2 (sh1_2.enc ((()), (())))) m x.1.2.2.2.1 x.1.2.2.2.2.1 x.1.2.2.2.2.2.1 x.1.2.2.2.2.2.2.1 x.2.1
def T (n : Nat) : Tab (RVs rsh) := fun j e kn kx => match j with
  | 0 => T0 n n e kn kx
  | 1 => T1 n n e kn kx
  | _ => none
theorem co (n : Nat) : CtxOk (cx n) := mkCtx_cok TYS_ok
theorem mx (n : Nat) : (cx n).P.follows .mixedOrders = true := mkCtx_mix MIX
theorem mk (n : Nat) : MOk (cx n) := mkCtx_ok (mem_nil)
theorem us0 : units b0 an0 = [] := by kernel_rfl
theorem e0 (n m : Nat) (v : AVs ash) (x : sh0.V) (kn : Env → Option (RVs rsh)) (kx : Nat → Env → Option (RVs rsh)) : aevT (cx n) 98 (T n) (kr n v) b0 an0 [(0, [0, 5])] (meet (some [0, 5]) fun e => T0 n m e kn kx) kx (sh0.enc x) = l0 n x.1.1 (fun y0 => kx 0 (sh0_0.enc ((x.1.1, y0, ()), (())))) (m + 1) x.1.2.1 := by kernel_rfl
theorem cl0 : c0 = .loop b0 := by kernel_rfl
theorem u0 (n : Nat) (v : AVs ash) : UnitOk (cx n) 98 (T n) (kr n v) 0 c0 := by
  rw [cl0]
  exact loop_unit (n := n) (co n) (mk n) (mx n) an0 [(0, [0, 5])] [0, 5] (T0 n) (fun _ _ _ => rfl) (fun e kn kx out h => by obtain ⟨x, _, h⟩ := ES.on_inv h; cases h) (fun m e kn kx out h => by obtain ⟨x, rfl, h⟩ := ES.on_inv h; exact (e0 n m v x kn kx).trans h) (units_of us0 (mem_nil))
theorem us1 : units b1 an1 = [] := by kernel_rfl
theorem e1 (n m : Nat) (v : AVs ash) (x : sh1.V) (kn : Env → Option (RVs rsh)) (kx : Nat → Env → Option (RVs rsh)) : aevT (cx n) 98 (T n) (kr n v) b1 an1 [(2, [])] (meet (some [0, 5, 6, 7, 8, 9, 10]) fun e => T1 n m e kn kx) kx (sh1.enc x) = l1 n x.1.1 x.1.2.1 (fun _ => kx 2 (sh1_2.enc ((()), (())))) (m + 1) x.1.2.2.2.1 x.1.2.2.2.2.1 x.1.2.2.2.2.2.1 x.1.2.2.2.2.2.2.1 x.2.1 := by kernel_rfl
theorem cl1 : c1 = .loop b1 := by kernel_rfl
theorem u1 (n : Nat) (v : AVs ash) : UnitOk (cx n) 98 (T n) (kr n v) 1 c1 := by
  rw [cl1]
  exact loop_unit (n := n) (co n) (mk n) (mx n) an1 [(2, [])] [0, 5, 6, 7, 8, 9, 10] (T1 n) (fun _ _ _ => rfl) (fun e kn kx out h => by obtain ⟨x, _, h⟩ := ES.on_inv h; cases h) (fun m e kn kx out h => by obtain ⟨x, rfl, h⟩ := ES.on_inv h; exact (e1 n m v x kn kx).trans h) (units_of us1 (mem_nil))
theorem us : units code an = [(0, c0), (1, c1)] := by kernel_rfl
theorem eqn (n : Nat) (v : AVs ash) : fnEvT (cx n) d an (T n) (avEnc ash v) (rvDec rsh) = F n v.1 := by kernel_rfl
theorem ok (n : Nat) : EntOk Tryz.prog 133 (ent n) :=
  ent_ok (c := cx n) (e := ent n) (d := d) (an := an) (fn := Tryz.f133) (co n) (mk n) (mx n) (by kernel_rfl) (by kernel_rfl) (by kernel_rfl) (by kernel_rfl) (by kernel_rfl) (fun _ => T n) (fun v => units_of us (mem_cons (u0 n v) (mem_cons (u1 n v) mem_nil))) (eqn n)
end spec_l01Args
/-! spec.l01Big -/
namespace spec_l01Big
def F (n : Nat) (b1 : Int) : Option Bool :=
  if (decide (b1 ≥ 65)) = true then
    some (decide (b1 ≤ 90))
  else
    some false
noncomputable def code : Code := Tryz.f155.body.getD .skip
abbrev ash : List ASh := [.ro (.int .u8)]
abbrev rsh : List RSh := [.ro .bool]
def ent (n : Nat) : FEnt := ⟨ash, rsh, fun v => F n v.1⟩
noncomputable def cx (n : Nat) : Ctx := mkCtx Tryz.prog TYS []
noncomputable def d : FnD := ⟨code, 9, .nil, [(.tmp 2, .bool, .ro)]⟩
noncomputable def kr (n : Nat) (v : AVs ash) : Env → Option (RVs rsh) := endK (cx n) d (avEnc ash v) (rvDec rsh)
def an : An := .seq .nil (.seq .nil .nil)
def T (n : Nat) : Tab (RVs rsh) := fun j e kn kx => match j with
  | _ => none
theorem co (n : Nat) : CtxOk (cx n) := mkCtx_cok TYS_ok
theorem mx (n : Nat) : (cx n).P.follows .mixedOrders = true := mkCtx_mix MIX
theorem mk (n : Nat) : MOk (cx n) := mkCtx_ok (mem_nil)
theorem us : units code an = [] := by kernel_rfl
theorem eqn (n : Nat) (v : AVs ash) : fnEvT (cx n) d an (T n) (avEnc ash v) (rvDec rsh) = F n v.1 := by kernel_rfl
theorem ok (n : Nat) : EntOk Tryz.prog 155 (ent n) :=
  ent_ok (c := cx n) (e := ent n) (d := d) (an := an) (fn := Tryz.f155) (co n) (mk n) (mx n) (by kernel_rfl) (by kernel_rfl) (by kernel_rfl) (by kernel_rfl) (by kernel_rfl) (fun _ => T n) (fun v => units_of us (mem_nil)) (eqn n)
end spec_l01Big
/-! spec.l01Small -/
namespace spec_l01Small
def F (n : Nat) (b1 : Int) : Option Bool :=
  if (decide (b1 ≥ 97)) = true then
    some (decide (b1 ≤ 122))
  else
    some false
noncomputable def code : Code := Tryz.f156.body.getD .skip
abbrev ash : List ASh := [.ro (.int .u8)]
abbrev rsh : List RSh := [.ro .bool]
def ent (n : Nat) : FEnt := ⟨ash, rsh, fun v => F n v.1⟩
noncomputable def cx (n : Nat) : Ctx := mkCtx Tryz.prog TYS []
noncomputable def d : FnD := ⟨code, 9, .nil, [(.tmp 2, .bool, .ro)]⟩
noncomputable def kr (n : Nat) (v : AVs ash) : Env → Option (RVs rsh) := endK (cx n) d (avEnc ash v) (rvDec rsh)
def an : An := .seq .nil (.seq .nil .nil)
def T (n : Nat) : Tab (RVs rsh) := fun j e kn kx => match j with
  | _ => none
theorem co (n : Nat) : CtxOk (cx n) := mkCtx_cok TYS_ok
theorem mx (n : Nat) : (cx n).P.follows .mixedOrders = true := mkCtx_mix MIX
theorem mk (n : Nat) : MOk (cx n) := mkCtx_ok (mem_nil)
theorem us : units code an = [] := by kernel_rfl
theorem eqn (n : Nat) (v : AVs ash) : fnEvT (cx n) d an (T n) (avEnc ash v) (rvDec rsh) = F n v.1 := by kernel_rfl
theorem ok (n : Nat) : EntOk Tryz.prog 156 (ent n) :=
  ent_ok (c := cx n) (e := ent n) (d := d) (an := an) (fn := Tryz.f156) (co n) (mk n) (mx n) (by kernel_rfl) (by kernel_rfl) (by kernel_rfl) (by kernel_rfl) (by kernel_rfl) (fun _ => T n) (fun v => units_of us (mem_nil)) (eqn n)
end spec_l01Small
/-! spec.l01Letter -/
namespace spec_l01Letter
def F (n : Nat) (b1 : Int) : Option Bool :=
  (spec_l01Small.F n b1).bind fun r2 =>
  if r2 = false then
    (spec_l01Big.F n b1).bind fun r3 =>
    if r3 = false then
      (spec_l01Digit.F n b1).bind fun r4 =>
      if r4 = false then
        some (decide (b1 = 95))
      else
        some true
    else
      some true
  else
    some true
noncomputable def code : Code := Tryz.f157.body.getD .skip
abbrev ash : List ASh := [.ro (.int .u8)]
abbrev rsh : List RSh := [.ro .bool]
def ent (n : Nat) : FEnt := ⟨ash, rsh, fun v => F n v.1⟩
noncomputable def cx (n : Nat) : Ctx := mkCtx Tryz.prog TYS [(147, spec_l01Digit.ent n), (155, spec_l01Big.ent n), (156, spec_l01Small.ent n)]
noncomputable def d : FnD := ⟨code, 17, .nil, [(.tmp 2, .bool, .ro)]⟩
noncomputable def kr (n : Nat) (v : AVs ash) : Env → Option (RVs rsh) := endK (cx n) d (avEnc ash v) (rvDec rsh)
def an : An := .seq .nil (.seq .nil .nil)
def T (n : Nat) : Tab (RVs rsh) := fun j e kn kx => match j with
  | _ => none
theorem co (n : Nat) : CtxOk (cx n) := mkCtx_cok TYS_ok
theorem mx (n : Nat) : (cx n).P.follows .mixedOrders = true := mkCtx_mix MIX
theorem mk (n : Nat) : MOk (cx n) := mkCtx_ok (mem_cons (spec_l01Digit.ok n) (mem_cons (spec_l01Big.ok n) (mem_cons (spec_l01Small.ok n) mem_nil)))
theorem us : units code an = [] := by kernel_rfl
theorem eqn (n : Nat) (v : AVs ash) : fnEvT (cx n) d an (T n) (avEnc ash v) (rvDec rsh) = F n v.1 := by kernel_rfl
theorem ok (n : Nat) : EntOk Tryz.prog 157 (ent n) :=
  ent_ok (c := cx n) (e := ent n) (d := d) (an := an) (fn := Tryz.f157) (co n) (mk n) (mx n) (by kernel_rfl) (by kernel_rfl) (by kernel_rfl) (by kernel_rfl) (by kernel_rfl) (fun _ => T n) (fun v => units_of us (mem_nil)) (eqn n)
end spec_l01Letter
/-! spec.l01Name -/
namespace spec_l01Name
def l1 (n : Nat) (s7 : ByteArray) (K0 : Unit → Option Bool) : Nat → Int → Option Bool
  | 0, _ => none
  | k + 1, i8 =>
    if decide (i8 < (ByteArray.size s7 : Int)) = true then
      if (0 : Int) ≤ i8 ∧ i8 < (ByteArray.size s7 : Int) then
        (spec_l01Letter.F n (byteAt s7 i8)).bind fun r9 =>
        if (!r9) = true then
          some false
        else
          l1 n s7 K0 k (IntKind.i64.wrap (i8 + 1))
      else
        none
    else
      K0 ()
def j0 (n : Nat) (s6 : ByteArray) : Option Bool :=
  l1 n s6 (fun _ =>
    some true) n 0
def F (n : Nat) (s1 : ByteArray) (big2 : Bool) : Option Bool :=
  (spec_l01Between.F n (ByteArray.size s1 : Int) 1 20).bind fun r3 =>
  if (!r3) = false then
    if big2 = true then
      if (0 : Int) ≤ 0 ∧ 0 < (ByteArray.size s1 : Int) then
        (spec_l01Big.F n (byteAt s1 0)).bind fun r4 =>
        if (!r4) = false then
          if (!big2) = true then
            if (0 : Int) ≤ 0 ∧ 0 < (ByteArray.size s1 : Int) then
              (spec_l01Small.F n (byteAt s1 0)).bind fun r5 =>
              if (!r5) = true then
                some false
              else
                j0 n s1
            else
              none
          else
            j0 n s1
        else
          some false
      else
        none
    else
      if (!big2) = true then
        if (0 : Int) ≤ 0 ∧ 0 < (ByteArray.size s1 : Int) then
          (spec_l01Small.F n (byteAt s1 0)).bind fun r10 =>
          if (!r10) = true then
            some false
          else
            j0 n s1
        else
          none
      else
        j0 n s1
  else
    some false
noncomputable def code : Code := Tryz.f134.body.getD .skip
abbrev ash : List ASh := [.ro .str, .ro .bool]
abbrev rsh : List RSh := [.ro .bool]
def ent (n : Nat) : FEnt := ⟨ash, rsh, fun v => F n v.1 v.2.1⟩
noncomputable def cx (n : Nat) : Ctx := mkCtx Tryz.prog TYS [(63, spec_l01Between.ent n), (155, spec_l01Big.ent n), (156, spec_l01Small.ent n), (157, spec_l01Letter.ent n)]
noncomputable def d : FnD := ⟨code, 40, .nil, [(.tmp 4, .bool, .ro)]⟩
noncomputable def kr (n : Nat) (v : AVs ash) : Env → Option (RVs rsh) := endK (cx n) d (avEnc ash v) (rvDec rsh)
noncomputable def c1 : Code := (Code.l (Code.r (Code.l (Code.r (Code.r code)))))
noncomputable def b1 : Code := Code.l c1
noncomputable def c0 : Code := (Code.r (Code.r code))
def an : An := .seq .nil (.seq (.seq .nil (.cond (.seq .nil .nil) .nil)) (.cut 0 [0]))
def an1 : An := .seq (.seq .nil (.cond .nil .nil)) (.seq (.block (some [0, 5]) (.seq .nil (.cond (.seq .nil .nil) .nil))) .nil)
abbrev sh1 : ES := ⟨[(0, .v .str), (5, .v (.int .i64))], []⟩
abbrev sh1_0 : ES := ⟨[], []⟩
def an0 : An := .seq (.seq .nil (.block (some []) (.cut 1 [0, 5]))) (.seq .nil .nil)
abbrev sh0 : ES := ⟨[(0, .v .str)], []⟩
def T1 (n m : Nat) (e : Env) (kn : Env → Option (RVs rsh)) (kx : Nat → Env → Option (RVs rsh)) : Option (RVs rsh) := ES.on sh1 e fun x => l1 n x.1.1 (fun _ => kx 0 (sh1_0.enc ((()), (())))) m x.1.2.1
def T0 (n m : Nat) (e : Env) (kn : Env → Option (RVs rsh)) (kx : Nat → Env → Option (RVs rsh)) : Option (RVs rsh) := ES.on sh0 e fun x => j0 n x.1.1 
def T (n : Nat) : Tab (RVs rsh) := fun j e kn kx => match j with
  | 1 => T1 n n e kn kx
  | 0 => T0 n n e kn kx
  | _ => none
theorem co (n : Nat) : CtxOk (cx n) := mkCtx_cok TYS_ok
theorem mx (n : Nat) : (cx n).P.follows .mixedOrders = true := mkCtx_mix MIX
theorem mk (n : Nat) : MOk (cx n) := mkCtx_ok (mem_cons (spec_l01Between.ok n) (mem_cons (spec_l01Big.ok n) (mem_cons (spec_l01Small.ok n) (mem_cons (spec_l01Letter.ok n) mem_nil))))
theorem us1 : units b1 an1 = [] := by kernel_rfl
theorem e1 (n m : Nat) (v : AVs ash) (x : sh1.V) (kn : Env → Option (RVs rsh)) (kx : Nat → Env → Option (RVs rsh)) : aevT (cx n) 40 (T n) (kr n v) b1 an1 [(0, [])] (meet (some [0, 5]) fun e => T1 n m e kn kx) kx (sh1.enc x) = l1 n x.1.1 (fun _ => kx 0 (sh1_0.enc ((()), (())))) (m + 1) x.1.2.1 := by kernel_rfl
theorem cl1 : c1 = .loop b1 := by kernel_rfl
theorem u1 (n : Nat) (v : AVs ash) : UnitOk (cx n) 40 (T n) (kr n v) 1 c1 := by
  rw [cl1]
  exact loop_unit (n := n) (co n) (mk n) (mx n) an1 [(0, [])] [0, 5] (T1 n) (fun _ _ _ => rfl) (fun e kn kx out h => by obtain ⟨x, _, h⟩ := ES.on_inv h; cases h) (fun m e kn kx out h => by obtain ⟨x, rfl, h⟩ := ES.on_inv h; exact (e1 n m v x kn kx).trans h) (units_of us1 (mem_nil))
theorem us0 : units c0 an0 = [(1, c1)] := by kernel_rfl
theorem e0 (n m : Nat) (v : AVs ash) (x : sh0.V) (kn : Env → Option (RVs rsh)) (kx : Nat → Env → Option (RVs rsh)) : aevT (cx n) 40 (T n) (kr n v) c0 an0 [] (meet (some [4]) kn) kx (sh0.enc x) = j0 n x.1.1  := by kernel_rfl
theorem u0 (n : Nat) (v : AVs ash) : UnitOk (cx n) 40 (T n) (kr n v) 0 c0 :=
  join_unit (co n) (mk n) (mx n) an0 [] (some [4]) (fun e kn kx out h => by obtain ⟨x, rfl, h⟩ := ES.on_inv (show T0 n n e kn kx = some out from h); exact (e0 n n v x kn kx).trans h) (units_of us0 (mem_cons (u1 n v) mem_nil))
theorem us : units code an = [(0, c0)] := by kernel_rfl
theorem eqn (n : Nat) (v : AVs ash) : fnEvT (cx n) d an (T n) (avEnc ash v) (rvDec rsh) = F n v.1 v.2.1 := by kernel_rfl
theorem ok (n : Nat) : EntOk Tryz.prog 134 (ent n) :=
  ent_ok (c := cx n) (e := ent n) (d := d) (an := an) (fn := Tryz.f134) (co n) (mk n) (mx n) (by kernel_rfl) (by kernel_rfl) (by kernel_rfl) (by kernel_rfl) (by kernel_rfl) (fun _ => T n) (fun v => units_of us (mem_cons (u0 n v) mem_nil)) (eqn n)
end spec_l01Name
/-! spec.TermKind -/
namespace spec_TermKind
def l2 (n : Nat) (self : ByteArray → Option Int) (t6 : ByteArray) (K0 : Unit → Option Int) : Nat → Int → Option Int
  | 0, _ => none
  | k + 1, t7 =>
    if decide ((IntKind.i64.wrap (t7 + 1)) < (ByteArray.size t6 : Int)) = true then
      if (0 : Int) ≤ t7 ∧ t7 < (ByteArray.size t6 : Int) then
        (spec_l01Between.F n (IntKind.i64.wrap (byteAt t6 t7)) 32 126).bind fun r8 =>
        if (!r8) = false then
          if (0 : Int) ≤ t7 ∧ t7 < (ByteArray.size t6 : Int) then
            if (decide ((byteAt t6 t7) = 34)) = false then
              if (0 : Int) ≤ t7 ∧ t7 < (ByteArray.size t6 : Int) then
                if decide ((byteAt t6 t7) = 92) = true then
                  some 0
                else
                  l2 n self t6 K0 k (IntKind.i64.wrap (t7 + 1))
              else
                none
            else
              some 0
          else
            none
        else
          some 0
      else
        none
    else
      K0 ()
def j1 (n : Nat) (self : ByteArray → Option Int) (t5 : ByteArray) : Option Int :=
  l2 n self t5 (fun _ =>
    some 2) n 1
def l4 (n : Nat) (self : ByteArray → Option Int) (t12 : List ByteArray) (K2 : Unit → Option Int) : Nat → Int → Option Int
  | 0, _ => none
  | k + 1, t13 =>
    if decide (t13 < (List.length t12 : Int)) = true then
      if (0 : Int) ≤ t13 ∧ t13 < (List.length t12 : Int) then
        (self (List.getD t12 (Int.toNat t13) ByteArray.empty)).bind fun r14 =>
        if decide (r14 = 0) = true then
          some 0
        else
          l4 n self t12 K2 k (IntKind.i64.wrap (t13 + 1))
      else
        none
    else
      K2 ()
def j3 (n : Nat) (self : ByteArray → Option Int) (t11 : List ByteArray) : Option Int :=
  l4 n self t11 (fun _ =>
    some 3) n 0
def j0 (n : Nat) (self : ByteArray → Option Int) (t2 : ByteArray) : Option Int :=
  (spec_l01Number.F n t2).bind fun r3 =>
  if r3.2 = true then
    some 1
  else
    if (0 : Int) ≤ 0 ∧ 0 < (ByteArray.size t2 : Int) then
      if decide ((byteAt t2 0) = 34) = true then
        (spec_l01Between.F n (ByteArray.size t2 : Int) 2 22).bind fun r4 =>
        if (!r4) = false then
          if (0 : Int) ≤ (IntKind.i64.wrap ((ByteArray.size t2 : Int) - 1)) ∧ (IntKind.i64.wrap ((ByteArray.size t2 : Int) - 1)) < (ByteArray.size t2 : Int) then
            if (!decide ((byteAt t2 (IntKind.i64.wrap ((ByteArray.size t2 : Int) - 1))) = 34)) = true then
              some 0
            else
              j1 n self t2
          else
            none
        else
          some 0
      else
        (spec_l01Args.F n t2).bind fun r9 =>
        if (!r9.2.2) = false then
          (spec_l01Name.F n r9.1 true).bind fun r10 =>
          if (!r10) = true then
            some 0
          else
            j3 n self r9.2.1
        else
          some 0
    else
      none
def G (n : Nat) (self : ByteArray → Option Int) (t1 : ByteArray) : Option Int :=
  if (Abs.seq t1 ByteArray.empty) = false then
    if decide ((ByteArray.size t1 : Int) > 200) = true then
      some 0
    else
      j0 n self t1
  else
    some 0
def F : Nat → ByteArray → Option Int
  | 0 => fun _ => none
  | n + 1 => G n (F n)
noncomputable def code : Code := Tryz.f106.body.getD .skip
abbrev ash : List ASh := [.ro .str]
abbrev rsh : List RSh := [.ro (.int .i64)]
def ent (n : Nat) : FEnt := ⟨ash, rsh, fun v => F n v.1⟩
noncomputable def cx (n : Nat) : Ctx := mkCtx Tryz.prog TYS [(63, spec_l01Between.ent n), (126, spec_l01Number.ent n), (133, spec_l01Args.ent n), (134, spec_l01Name.ent n), (106, ent n)]
noncomputable def d : FnD := ⟨code, 88, .nil, [(.tmp 2, .int .i64, .ro)]⟩
noncomputable def kr (n : Nat) (v : AVs ash) : Env → Option (RVs rsh) := endK (cx n) d (avEnc ash v) (rvDec rsh)
noncomputable def c2 : Code := (Code.l (Code.r (Code.l (Code.r (Code.l (Code.r (Code.l (Code.r (Code.r (Code.r (Code.r code)))))))))))
noncomputable def b2 : Code := Code.l c2
noncomputable def c1 : Code := (Code.r (Code.l (Code.r (Code.l (Code.r (Code.r (Code.r (Code.r code))))))))
noncomputable def c4 : Code := (Code.l (Code.r (Code.l (Code.r (Code.r (Code.r (Code.r (Code.r (Code.r (Code.r code))))))))))
noncomputable def b4 : Code := Code.l c4
noncomputable def c3 : Code := (Code.r (Code.r (Code.r (Code.r (Code.r (Code.r (Code.r code)))))))
noncomputable def c0 : Code := (Code.r (Code.r code))
def an : An := .seq .nil (.seq (.seq .nil (.cond (.seq .nil .nil) .nil)) (.cut 0 [0]))
def an2 : An := .seq (.seq .nil (.cond .nil .nil)) (.seq (.block (some [0, 5]) (.seq .nil (.cond (.seq .nil .nil) .nil))) .nil)
abbrev sh2 : ES := ⟨[(0, .v .str), (5, .v (.int .i64))], []⟩
abbrev sh2_0 : ES := ⟨[], []⟩
def an1 : An := .seq (.seq .nil (.block (some []) (.cut 2 [0, 5]))) (.seq .nil .nil)
abbrev sh1 : ES := ⟨[(0, .v .str)], []⟩
def an4 : An := .seq (.seq .nil (.cond .nil .nil)) (.seq (.block (some [7, 9]) (.seq .nil (.cond (.seq .nil .nil) .nil))) .nil)
abbrev sh4 : ES := ⟨[(7, .v (.sl (.str))), (9, .v (.int .i64))], []⟩
abbrev sh4_2 : ES := ⟨[], []⟩
def an3 : An := .seq (.seq .nil (.block (some []) (.cut 4 [7, 9]))) (.seq .nil .nil)
abbrev sh3 : ES := ⟨[(7, .v (.sl (.str)))], []⟩
def an0 : An := .seq .nil (.seq (.seq .nil (.cond (.seq .nil .nil) .nil)) (.seq (.seq .nil (.cond (.seq (.seq .nil (.cond (.seq .nil .nil) .nil)) (.cut 1 [0])) .nil)) (.seq .nil (.seq (.seq .nil (.cond (.seq .nil .nil) .nil)) (.cut 3 [7])))))
abbrev sh0 : ES := ⟨[(0, .v .str)], []⟩
def T2 (n m : Nat) (e : Env) (kn : Env → Option (RVs rsh)) (kx : Nat → Env → Option (RVs rsh)) : Option (RVs rsh) := ES.on sh2 e fun x => l2 n (F n) x.1.1 (fun _ => kx 0 (sh2_0.enc ((()), (())))) m x.1.2.1
def T1 (n m : Nat) (e : Env) (kn : Env → Option (RVs rsh)) (kx : Nat → Env → Option (RVs rsh)) : Option (RVs rsh) := ES.on sh1 e fun x => j1 n (F n) x.1.1 
def T4 (n m : Nat) (e : Env) (kn : Env → Option (RVs rsh)) (kx : Nat → Env → Option (RVs rsh)) : Option (RVs rsh) := ES.on sh4 e fun x => l4 n (F n) x.1.1 (fun _ => kx 2 (sh4_2.enc ((()), (())))) m x.1.2.1
def T3 (n m : Nat) (e : Env) (kn : Env → Option (RVs rsh)) (kx : Nat → Env → Option (RVs rsh)) : Option (RVs rsh) := ES.on sh3 e fun x => j3 n (F n) x.1.1 
def T0 (n m : Nat) (e : Env) (kn : Env → Option (RVs rsh)) (kx : Nat → Env → Option (RVs rsh)) : Option (RVs rsh) := ES.on sh0 e fun x => j0 n (F n) x.1.1 
def T (n : Nat) : Tab (RVs rsh) := fun j e kn kx => match j with
  | 2 => T2 n n e kn kx
  | 1 => T1 n n e kn kx
  | 4 => T4 n n e kn kx
  | 3 => T3 n n e kn kx
  | 0 => T0 n n e kn kx
  | _ => none
theorem co (n : Nat) : CtxOk (cx n) := mkCtx_cok TYS_ok
theorem mx (n : Nat) : (cx n).P.follows .mixedOrders = true := mkCtx_mix MIX
theorem mk (n : Nat) (ih : EntOk Tryz.prog 106 (ent n)) : MOk (cx n) := mkCtx_ok (mem_cons (spec_l01Between.ok n) (mem_cons (spec_l01Number.ok n) (mem_cons (spec_l01Args.ok n) (mem_cons (spec_l01Name.ok n) (mem_cons ih mem_nil)))))
theorem us2 : units b2 an2 = [] := by kernel_rfl
theorem e2 (n m : Nat) (v : AVs ash) (x : sh2.V) (kn : Env → Option (RVs rsh)) (kx : Nat → Env → Option (RVs rsh)) : aevT (cx n) 88 (T n) (kr n v) b2 an2 [(0, [])] (meet (some [0, 5]) fun e => T2 n m e kn kx) kx (sh2.enc x) = l2 n (F n) x.1.1 (fun _ => kx 0 (sh2_0.enc ((()), (())))) (m + 1) x.1.2.1 := by kernel_rfl
theorem cl2 : c2 = .loop b2 := by kernel_rfl
theorem u2 (n : Nat) (v : AVs ash) (ih : EntOk Tryz.prog 106 (ent n)) : UnitOk (cx n) 88 (T n) (kr n v) 2 c2 := by
  rw [cl2]
  exact loop_unit (n := n) (co n) (mk n ih) (mx n) an2 [(0, [])] [0, 5] (T2 n) (fun _ _ _ => rfl) (fun e kn kx out h => by obtain ⟨x, _, h⟩ := ES.on_inv h; cases h) (fun m e kn kx out h => by obtain ⟨x, rfl, h⟩ := ES.on_inv h; exact (e2 n m v x kn kx).trans h) (units_of us2 (mem_nil))
theorem us1 : units c1 an1 = [(2, c2)] := by kernel_rfl
theorem e1 (n m : Nat) (v : AVs ash) (x : sh1.V) (kn : Env → Option (RVs rsh)) (kx : Nat → Env → Option (RVs rsh)) : aevT (cx n) 88 (T n) (kr n v) c1 an1 [] (meet (some [0]) kn) kx (sh1.enc x) = j1 n (F n) x.1.1  := by kernel_rfl
theorem u1 (n : Nat) (v : AVs ash) (ih : EntOk Tryz.prog 106 (ent n)) : UnitOk (cx n) 88 (T n) (kr n v) 1 c1 :=
  join_unit (co n) (mk n ih) (mx n) an1 [] (some [0]) (fun e kn kx out h => by obtain ⟨x, rfl, h⟩ := ES.on_inv (show T1 n n e kn kx = some out from h); exact (e1 n n v x kn kx).trans h) (units_of us1 (mem_cons (u2 n v ih) mem_nil))
theorem us4 : units b4 an4 = [] := by kernel_rfl
theorem e4 (n m : Nat) (v : AVs ash) (x : sh4.V) (kn : Env → Option (RVs rsh)) (kx : Nat → Env → Option (RVs rsh)) : aevT (cx n) 88 (T n) (kr n v) b4 an4 [(2, [])] (meet (some [7, 9]) fun e => T4 n m e kn kx) kx (sh4.enc x) = l4 n (F n) x.1.1 (fun _ => kx 2 (sh4_2.enc ((()), (())))) (m + 1) x.1.2.1 := by kernel_rfl
theorem cl4 : c4 = .loop b4 := by kernel_rfl
theorem u4 (n : Nat) (v : AVs ash) (ih : EntOk Tryz.prog 106 (ent n)) : UnitOk (cx n) 88 (T n) (kr n v) 4 c4 := by
  rw [cl4]
  exact loop_unit (n := n) (co n) (mk n ih) (mx n) an4 [(2, [])] [7, 9] (T4 n) (fun _ _ _ => rfl) (fun e kn kx out h => by obtain ⟨x, _, h⟩ := ES.on_inv h; cases h) (fun m e kn kx out h => by obtain ⟨x, rfl, h⟩ := ES.on_inv h; exact (e4 n m v x kn kx).trans h) (units_of us4 (mem_nil))
theorem us3 : units c3 an3 = [(4, c4)] := by kernel_rfl
theorem e3 (n m : Nat) (v : AVs ash) (x : sh3.V) (kn : Env → Option (RVs rsh)) (kx : Nat → Env → Option (RVs rsh)) : aevT (cx n) 88 (T n) (kr n v) c3 an3 [] (meet (some [2]) kn) kx (sh3.enc x) = j3 n (F n) x.1.1  := by kernel_rfl
theorem u3 (n : Nat) (v : AVs ash) (ih : EntOk Tryz.prog 106 (ent n)) : UnitOk (cx n) 88 (T n) (kr n v) 3 c3 :=
  join_unit (co n) (mk n ih) (mx n) an3 [] (some [2]) (fun e kn kx out h => by obtain ⟨x, rfl, h⟩ := ES.on_inv (show T3 n n e kn kx = some out from h); exact (e3 n n v x kn kx).trans h) (units_of us3 (mem_cons (u4 n v ih) mem_nil))
theorem us0 : units c0 an0 = [(1, c1), (3, c3)] := by kernel_rfl
theorem e0 (n m : Nat) (v : AVs ash) (x : sh0.V) (kn : Env → Option (RVs rsh)) (kx : Nat → Env → Option (RVs rsh)) : aevT (cx n) 88 (T n) (kr n v) c0 an0 [] (meet (some [2]) kn) kx (sh0.enc x) = j0 n (F n) x.1.1  := by kernel_rfl
theorem u0 (n : Nat) (v : AVs ash) (ih : EntOk Tryz.prog 106 (ent n)) : UnitOk (cx n) 88 (T n) (kr n v) 0 c0 :=
  join_unit (co n) (mk n ih) (mx n) an0 [] (some [2]) (fun e kn kx out h => by obtain ⟨x, rfl, h⟩ := ES.on_inv (show T0 n n e kn kx = some out from h); exact (e0 n n v x kn kx).trans h) (units_of us0 (mem_cons (u1 n v ih) (mem_cons (u3 n v ih) mem_nil)))
theorem us : units code an = [(0, c0)] := by kernel_rfl
theorem eqn (n : Nat) (v : AVs ash) : fnEvT (cx n) d an (T n) (avEnc ash v) (rvDec rsh) = F (n + 1) v.1 := by kernel_rfl
theorem ok : (n : Nat) → EntOk Tryz.prog 106 (ent n)
  | 0 => ent_none Tryz.f106 (by kernel_rfl) (by kernel_rfl) (by kernel_rfl) (fun _ => rfl)
  | n + 1 => have ih := ok n
    ent_ok (c := cx n) (e := ent (n + 1)) (d := d) (an := an) (fn := Tryz.f106) (co n) (mk n ih) (mx n) (by kernel_rfl) (by kernel_rfl) (by kernel_rfl) (by kernel_rfl) (by kernel_rfl) (fun _ => T n) (fun v => units_of us (mem_cons (u0 n v ih) mem_nil)) (eqn n)
end spec_TermKind
/-! spec.TupleOk -/
namespace spec_TupleOk
def l0 (n : Nat) (t3 : List ByteArray) (K0 : Unit → Option Bool) : Nat → Int → Option Bool
  | 0, _ => none
  | k + 1, i2 =>
    if decide (i2 < (List.length t3 : Int)) = true then
      if (0 : Int) ≤ i2 ∧ i2 < (List.length t3 : Int) then
        (spec_TermKind.F n (List.getD t3 (Int.toNat i2) ByteArray.empty)).bind fun r4 =>
        if decide (r4 = 0) = true then
          some false
        else
          l0 n t3 K0 k (IntKind.i64.wrap (i2 + 1))
      else
        none
    else
      K0 ()
def F (n : Nat) (t1 : List ByteArray) : Option Bool :=
  if decide ((List.length t1 : Int) > 6) = true then
    some false
  else
    l0 n t1 (fun _ =>
      some true) n 0
noncomputable def code : Code := Tryz.f64.body.getD .skip
abbrev ash : List ASh := [.ro (.st (.sl (.str)))]
abbrev rsh : List RSh := [.ro .bool]
def ent (n : Nat) : FEnt := ⟨ash, rsh, fun v => F n v.1⟩
noncomputable def cx (n : Nat) : Ctx := mkCtx Tryz.prog TYS [(106, spec_TermKind.ent n)]
noncomputable def d : FnD := ⟨code, 22, .nil, [(.tmp 2, .bool, .ro)]⟩
noncomputable def kr (n : Nat) (v : AVs ash) : Env → Option (RVs rsh) := endK (cx n) d (avEnc ash v) (rvDec rsh)
noncomputable def c0 : Code := (Code.l (Code.r (Code.l (Code.r (Code.r code)))))
noncomputable def b0 : Code := Code.l c0
def an : An := .seq .nil (.seq (.seq .nil (.cond (.seq .nil .nil) .nil)) (.seq (.seq .nil (.block (some []) (.cut 0 [1, 3]))) (.seq .nil .nil)))
def an0 : An := .seq (.seq .nil (.cond .nil .nil)) (.seq (.block (some [1, 3]) (.seq .nil (.cond (.seq .nil .nil) .nil))) .nil)
abbrev sh0 : ES := ⟨[(1, .pt 1 []), (3, .v (.int .i64))], [⟨1, .st (.sl (.str)), .ro, true, false⟩]⟩
abbrev sh0_0 : ES := ⟨[], []⟩
def T0 (n m : Nat) (e : Env) (kn : Env → Option (RVs rsh)) (kx : Nat → Env → Option (RVs rsh)) : Option (RVs rsh) := ES.on sh0 e fun x => l0 n x.2.1 (fun _ => kx 0 (sh0_0.enc ((()), (())))) m x.1.2.1
def T (n : Nat) : Tab (RVs rsh) := fun j e kn kx => match j with
  | 0 => T0 n n e kn kx
  | _ => none
theorem co (n : Nat) : CtxOk (cx n) := mkCtx_cok TYS_ok
theorem mx (n : Nat) : (cx n).P.follows .mixedOrders = true := mkCtx_mix MIX
theorem mk (n : Nat) : MOk (cx n) := mkCtx_ok (mem_cons (spec_TermKind.ok n) mem_nil)
theorem us0 : units b0 an0 = [] := by kernel_rfl
theorem e0 (n m : Nat) (v : AVs ash) (x : sh0.V) (kn : Env → Option (RVs rsh)) (kx : Nat → Env → Option (RVs rsh)) : aevT (cx n) 22 (T n) (kr n v) b0 an0 [(0, [])] (meet (some [1, 3]) fun e => T0 n m e kn kx) kx (sh0.enc x) = l0 n x.2.1 (fun _ => kx 0 (sh0_0.enc ((()), (())))) (m + 1) x.1.2.1 := by kernel_rfl
theorem cl0 : c0 = .loop b0 := by kernel_rfl
theorem u0 (n : Nat) (v : AVs ash) : UnitOk (cx n) 22 (T n) (kr n v) 0 c0 := by
  rw [cl0]
  exact loop_unit (n := n) (co n) (mk n) (mx n) an0 [(0, [])] [1, 3] (T0 n) (fun _ _ _ => rfl) (fun e kn kx out h => by obtain ⟨x, _, h⟩ := ES.on_inv h; cases h) (fun m e kn kx out h => by obtain ⟨x, rfl, h⟩ := ES.on_inv h; exact (e0 n m v x kn kx).trans h) (units_of us0 (mem_nil))
theorem us : units code an = [(0, c0)] := by kernel_rfl
theorem eqn (n : Nat) (v : AVs ash) : fnEvT (cx n) d an (T n) (avEnc ash v) (rvDec rsh) = F n v.1 := by kernel_rfl
theorem ok (n : Nat) : EntOk Tryz.prog 64 (ent n) :=
  ent_ok (c := cx n) (e := ent n) (d := d) (an := an) (fn := Tryz.f64) (co n) (mk n) (mx n) (by kernel_rfl) (by kernel_rfl) (by kernel_rfl) (by kernel_rfl) (by kernel_rfl) (fun _ => T n) (fun v => units_of us (mem_cons (u0 n v) mem_nil)) (eqn n)
end spec_TupleOk
/-! spec.l01Sign -/
namespace spec_l01Sign
def F (n : Nat) (t1 : Int) : Option Int :=
  if decide (t1 < 0) = true then
    some (-1)
  else
    if decide (t1 > 0) = true then
      some 1
    else
      some 0
noncomputable def code : Code := Tryz.f130.body.getD .skip
abbrev ash : List ASh := [.ro (.int .i64)]
abbrev rsh : List RSh := [.ro (.int .i64)]
def ent (n : Nat) : FEnt := ⟨ash, rsh, fun v => F n v.1⟩
noncomputable def cx (n : Nat) : Ctx := mkCtx Tryz.prog TYS []
noncomputable def d : FnD := ⟨code, 9, .nil, [(.tmp 2, .int .i64, .ro)]⟩
noncomputable def kr (n : Nat) (v : AVs ash) : Env → Option (RVs rsh) := endK (cx n) d (avEnc ash v) (rvDec rsh)
def an : An := .seq .nil (.seq (.block (some []) (.seq .nil (.cond (.seq .nil .nil) (.seq .nil (.cond (.seq .nil .nil) .nil))))) (.seq .nil .nil))
def T (n : Nat) : Tab (RVs rsh) := fun j e kn kx => match j with
  | _ => none
theorem co (n : Nat) : CtxOk (cx n) := mkCtx_cok TYS_ok
theorem mx (n : Nat) : (cx n).P.follows .mixedOrders = true := mkCtx_mix MIX
theorem mk (n : Nat) : MOk (cx n) := mkCtx_ok (mem_nil)
theorem us : units code an = [] := by kernel_rfl
theorem eqn (n : Nat) (v : AVs ash) : fnEvT (cx n) d an (T n) (avEnc ash v) (rvDec rsh) = F n v.1 := by kernel_rfl
theorem ok (n : Nat) : EntOk Tryz.prog 130 (ent n) :=
  ent_ok (c := cx n) (e := ent n) (d := d) (an := an) (fn := Tryz.f130) (co n) (mk n) (mx n) (by kernel_rfl) (by kernel_rfl) (by kernel_rfl) (by kernel_rfl) (by kernel_rfl) (fun _ => T n) (fun v => units_of us (mem_nil)) (eqn n)
end spec_l01Sign
/-! spec.l01Texts -/
namespace spec_l01Texts
def F (n : Nat) (a1 : ByteArray) (b2 : ByteArray) : Option Int :=
  if (slt a1 b2) = true then
    some (-1)
  else
    if (!(slt a1 b2 || Abs.seq a1 b2)) = true then
      some 1
    else
      some 0
noncomputable def code : Code := Tryz.f153.body.getD .skip
abbrev ash : List ASh := [.ro .str, .ro .str]
abbrev rsh : List RSh := [.ro (.int .i64)]
def ent (n : Nat) : FEnt := ⟨ash, rsh, fun v => F n v.1 v.2.1⟩
noncomputable def cx (n : Nat) : Ctx := mkCtx Tryz.prog TYS []
noncomputable def d : FnD := ⟨code, 13, .nil, [(.tmp 4, .int .i64, .ro)]⟩
noncomputable def kr (n : Nat) (v : AVs ash) : Env → Option (RVs rsh) := endK (cx n) d (avEnc ash v) (rvDec rsh)
def an : An := .seq .nil (.seq (.block (some []) (.seq .nil (.cond (.seq .nil .nil) (.seq .nil (.cond (.seq .nil .nil) .nil))))) (.seq .nil .nil))
def T (n : Nat) : Tab (RVs rsh) := fun j e kn kx => match j with
  | _ => none
theorem co (n : Nat) : CtxOk (cx n) := mkCtx_cok TYS_ok
theorem mx (n : Nat) : (cx n).P.follows .mixedOrders = true := mkCtx_mix MIX
theorem mk (n : Nat) : MOk (cx n) := mkCtx_ok (mem_nil)
theorem us : units code an = [] := by kernel_rfl
theorem eqn (n : Nat) (v : AVs ash) : fnEvT (cx n) d an (T n) (avEnc ash v) (rvDec rsh) = F n v.1 v.2.1 := by kernel_rfl
theorem ok (n : Nat) : EntOk Tryz.prog 153 (ent n) :=
  ent_ok (c := cx n) (e := ent n) (d := d) (an := an) (fn := Tryz.f153) (co n) (mk n) (mx n) (by kernel_rfl) (by kernel_rfl) (by kernel_rfl) (by kernel_rfl) (by kernel_rfl) (fun _ => T n) (fun v => units_of us (mem_nil)) (eqn n)
end spec_l01Texts
/-! spec.TermParts -/
namespace spec_TermParts
def F (n : Nat) (s1 : ByteArray) : Option (ByteArray × List ByteArray) :=
  (spec_TermKind.F n s1).bind fun r2 =>
  if decide (r2 = 0) = true then
    some (ByteArray.empty, [])
  else
    if decide (r2 = 3) = true then
      (spec_l01Args.F n s1).bind fun r3 =>
      some (r3.1, r3.2.1)
    else
      some (s1, [])
noncomputable def code : Code := Tryz.f154.body.getD .skip
abbrev ash : List ASh := [.ro .str]
abbrev rsh : List RSh := [.ro .str, .ro (.sl (.str))]
def ent (n : Nat) : FEnt := ⟨ash, rsh, fun v => F n v.1⟩
noncomputable def cx (n : Nat) : Ctx := mkCtx Tryz.prog TYS [(106, spec_TermKind.ent n), (133, spec_l01Args.ent n)]
noncomputable def d : FnD := ⟨code, 24, .nil, [(.tmp 2, .str, .ro), (.tmp 3, .sl (.str), .ro)]⟩
noncomputable def kr (n : Nat) (v : AVs ash) : Env → Option (RVs rsh) := endK (cx n) d (avEnc ash v) (rvDec rsh)
def an : An := .seq .nil (.seq (.seq .nil (.block (some [0]) (.seq .nil (.cond (.seq .nil .nil) (.seq .nil (.cond (.seq .nil (.seq .nil .nil)) .nil)))))) (.seq .nil .nil))
def T (n : Nat) : Tab (RVs rsh) := fun j e kn kx => match j with
  | _ => none
theorem co (n : Nat) : CtxOk (cx n) := mkCtx_cok TYS_ok
theorem mx (n : Nat) : (cx n).P.follows .mixedOrders = true := mkCtx_mix MIX
theorem mk (n : Nat) : MOk (cx n) := mkCtx_ok (mem_cons (spec_TermKind.ok n) (mem_cons (spec_l01Args.ok n) mem_nil))
theorem us : units code an = [] := by kernel_rfl
theorem eqn (n : Nat) (v : AVs ash) : fnEvT (cx n) d an (T n) (avEnc ash v) (rvDec rsh) = F n v.1 := by kernel_rfl
theorem ok (n : Nat) : EntOk Tryz.prog 154 (ent n) :=
  ent_ok (c := cx n) (e := ent n) (d := d) (an := an) (fn := Tryz.f154) (co n) (mk n) (mx n) (by kernel_rfl) (by kernel_rfl) (by kernel_rfl) (by kernel_rfl) (by kernel_rfl) (fun _ => T n) (fun v => units_of us (mem_nil)) (eqn n)
end spec_TermParts
/-! spec.l01Cmp -/
namespace spec_l01Cmp
def l0 (n : Nat) (self : ByteArray → ByteArray → Option Int) (t14 : List ByteArray) (t15 : List ByteArray) (K1 : Unit → Option Int) : Nat → Int → Option Int
  | 0, _ => none
  | k + 1, t16 =>
    if decide (t16 < (List.length t14 : Int)) = true then
      if (0 : Int) ≤ t16 ∧ t16 < (List.length t14 : Int) then
        if (0 : Int) ≤ t16 ∧ t16 < (List.length t15 : Int) then
          (self (List.getD t14 (Int.toNat t16) ByteArray.empty) (List.getD t15 (Int.toNat t16) ByteArray.empty)).bind fun r17 =>
          if (!decide (r17 = 0)) = true then
            some r17
          else
            l0 n self t14 t15 K1 k (IntKind.i64.wrap (t16 + 1))
        else
          none
      else
        none
    else
      K1 ()
def G (n : Nat) (self : ByteArray → ByteArray → Option Int) (t1 : ByteArray) (t2 : ByteArray) : Option Int :=
  (spec_TermKind.F n t1).bind fun r3 =>
  (spec_TermKind.F n t2).bind fun r4 =>
  if (!decide (r3 = r4)) = true then
    (spec_l01Sign.F n (IntKind.i64.wrap (r3 - r4))).bind fun r5 =>
    some r5
  else
    if decide (r3 = 1) = true then
      (spec_l01Number.F n t1).bind fun r6 =>
      (spec_l01Number.F n t2).bind fun r7 =>
      (spec_l01Sign.F n (IntKind.i64.wrap (r6.1 - r7.1))).bind fun r8 =>
      some r8
    else
      if decide (r3 = 2) = true then
        if (0 : Int) ≤ 1 ∧ (1 : Int) ≤ (IntKind.i64.wrap ((ByteArray.size t1 : Int) - 1)) ∧ (IntKind.i64.wrap ((ByteArray.size t1 : Int) - 1)) ≤ (ByteArray.size t1 : Int) then
          if (0 : Int) ≤ 1 ∧ (1 : Int) ≤ (IntKind.i64.wrap ((ByteArray.size t2 : Int) - 1)) ∧ (IntKind.i64.wrap ((ByteArray.size t2 : Int) - 1)) ≤ (ByteArray.size t2 : Int) then
            (spec_l01Texts.F n (ByteArray.extract t1 (Int.toNat 1) (Int.toNat (IntKind.i64.wrap ((ByteArray.size t1 : Int) - 1)))) (ByteArray.extract t2 (Int.toNat 1) (Int.toNat (IntKind.i64.wrap ((ByteArray.size t2 : Int) - 1))))).bind fun r9 =>
            some r9
          else
            none
        else
          none
      else
        (spec_TermParts.F n t1).bind fun r10 =>
        (spec_TermParts.F n t2).bind fun r11 =>
        if (!(Abs.seq r10.1 r11.1)) = true then
          (spec_l01Texts.F n r10.1 r11.1).bind fun r12 =>
          some r12
        else
          if (!decide ((List.length r10.2 : Int) = (List.length r11.2 : Int))) = true then
            (spec_l01Sign.F n (IntKind.i64.wrap ((List.length r10.2 : Int) - (List.length r11.2 : Int)))).bind fun r13 =>
            some r13
          else
            l0 n self r10.2 r11.2 (fun _ =>
              some 0) n 0
def F : Nat → ByteArray → ByteArray → Option Int
  | 0 => fun _ _ => none
  | n + 1 => G n (F n)
noncomputable def code : Code := Tryz.f129.body.getD .skip
abbrev ash : List ASh := [.ro .str, .ro .str]
abbrev rsh : List RSh := [.ro (.int .i64)]
def ent (n : Nat) : FEnt := ⟨ash, rsh, fun v => F n v.1 v.2.1⟩
noncomputable def cx (n : Nat) : Ctx := mkCtx Tryz.prog TYS [(106, spec_TermKind.ent n), (126, spec_l01Number.ent n), (130, spec_l01Sign.ent n), (153, spec_l01Texts.ent n), (154, spec_TermParts.ent n), (129, ent n)]
noncomputable def d : FnD := ⟨code, 103, .nil, [(.tmp 4, .int .i64, .ro)]⟩
noncomputable def kr (n : Nat) (v : AVs ash) : Env → Option (RVs rsh) := endK (cx n) d (avEnc ash v) (rvDec rsh)
noncomputable def c0 : Code := (Code.l (Code.r (Code.l (Code.r (Code.r (Code.r (Code.r (Code.r (Code.r (Code.r (Code.r code)))))))))))
noncomputable def b0 : Code := Code.l c0
def an : An := .seq .nil (.seq .nil (.seq (.seq .nil (.cond (.seq .nil .nil) .nil)) (.seq (.seq .nil (.block (some [0, 1]) (.seq .nil (.cond (.seq .nil (.seq .nil (.seq .nil .nil))) (.seq .nil (.cond (.seq .nil .nil) .nil)))))) (.seq .nil (.seq .nil (.seq (.seq .nil (.cond (.seq .nil .nil) .nil)) (.seq (.seq .nil (.cond (.seq .nil .nil) .nil)) (.seq (.seq .nil (.block (some []) (.cut 0 [12, 14, 15]))) (.seq .nil .nil)))))))))
def an0 : An := .seq (.seq .nil (.cond .nil .nil)) (.seq (.block (some [12, 14, 15]) (.seq .nil (.seq .nil (.cond (.seq .nil .nil) .nil)))) .nil)
abbrev sh0 : ES := ⟨[(12, .v (.sl (.str))), (14, .v (.sl (.str))), (15, .v (.int .i64))], []⟩
abbrev sh0_1 : ES := ⟨[], []⟩
def T0 (n m : Nat) (e : Env) (kn : Env → Option (RVs rsh)) (kx : Nat → Env → Option (RVs rsh)) : Option (RVs rsh) := ES.on sh0 e fun x => l0 n (F n) x.1.1 x.1.2.1 (fun _ => kx 1 (sh0_1.enc ((()), (())))) m x.1.2.2.1
def T (n : Nat) : Tab (RVs rsh) := fun j e kn kx => match j with
  | 0 => T0 n n e kn kx
  | _ => none
theorem co (n : Nat) : CtxOk (cx n) := mkCtx_cok TYS_ok
theorem mx (n : Nat) : (cx n).P.follows .mixedOrders = true := mkCtx_mix MIX
theorem mk (n : Nat) (ih : EntOk Tryz.prog 129 (ent n)) : MOk (cx n) := mkCtx_ok (mem_cons (spec_TermKind.ok n) (mem_cons (spec_l01Number.ok n) (mem_cons (spec_l01Sign.ok n) (mem_cons (spec_l01Texts.ok n) (mem_cons (spec_TermParts.ok n) (mem_cons ih mem_nil))))))
theorem us0 : units b0 an0 = [] := by kernel_rfl
theorem e0 (n m : Nat) (v : AVs ash) (x : sh0.V) (kn : Env → Option (RVs rsh)) (kx : Nat → Env → Option (RVs rsh)) : aevT (cx n) 103 (T n) (kr n v) b0 an0 [(1, [])] (meet (some [12, 14, 15]) fun e => T0 n m e kn kx) kx (sh0.enc x) = l0 n (F n) x.1.1 x.1.2.1 (fun _ => kx 1 (sh0_1.enc ((()), (())))) (m + 1) x.1.2.2.1 := by kernel_rfl
theorem cl0 : c0 = .loop b0 := by kernel_rfl
theorem u0 (n : Nat) (v : AVs ash) (ih : EntOk Tryz.prog 129 (ent n)) : UnitOk (cx n) 103 (T n) (kr n v) 0 c0 := by
  rw [cl0]
  exact loop_unit (n := n) (co n) (mk n ih) (mx n) an0 [(1, [])] [12, 14, 15] (T0 n) (fun _ _ _ => rfl) (fun e kn kx out h => by obtain ⟨x, _, h⟩ := ES.on_inv h; cases h) (fun m e kn kx out h => by obtain ⟨x, rfl, h⟩ := ES.on_inv h; exact (e0 n m v x kn kx).trans h) (units_of us0 (mem_nil))
theorem us : units code an = [(0, c0)] := by kernel_rfl
theorem eqn (n : Nat) (v : AVs ash) : fnEvT (cx n) d an (T n) (avEnc ash v) (rvDec rsh) = F (n + 1) v.1 v.2.1 := by kernel_rfl
theorem ok : (n : Nat) → EntOk Tryz.prog 129 (ent n)
  | 0 => ent_none Tryz.f129 (by kernel_rfl) (by kernel_rfl) (by kernel_rfl) (fun _ => rfl)
  | n + 1 => have ih := ok n
    ent_ok (c := cx n) (e := ent (n + 1)) (d := d) (an := an) (fn := Tryz.f129) (co n) (mk n ih) (mx n) (by kernel_rfl) (by kernel_rfl) (by kernel_rfl) (by kernel_rfl) (by kernel_rfl) (fun _ => T n) (fun v => units_of us (mem_cons (u0 n v ih) mem_nil)) (eqn n)
end spec_l01Cmp
/-! spec.l02Cmp -/
namespace spec_l02Cmp
def j1 (n : Nat) (i6 : Int) (a7 : List ByteArray) (b8 : List ByteArray) (Kn : Int → Option Int) : Option Int :=
  if (0 : Int) ≤ i6 ∧ i6 < (List.length a7 : Int) then
    if (0 : Int) ≤ i6 ∧ i6 < (List.length b8 : Int) then
      (spec_l01Cmp.F n (List.getD a7 (Int.toNat i6) ByteArray.empty) (List.getD b8 (Int.toNat i6) ByteArray.empty)).bind fun r9 =>
      if (!decide (r9 = 0)) = true then
        some r9
      else
        Kn (IntKind.i64.wrap (i6 + 1))
    else
      none
  else
    none
def l0 (n : Nat) (a4 : List ByteArray) (b5 : List ByteArray) (K0 : Unit → Option Int) : Nat → Int → Option Int
  | 0, _ => none
  | k + 1, i3 =>
    if (decide (i3 < (List.length a4 : Int))) = true then
      if decide (i3 < (List.length b5 : Int)) = true then
        j1 n i3 a4 b5 (fun i10 =>
          l0 n a4 b5 K0 k i10)
      else
        K0 ()
    else
      K0 ()
def F (n : Nat) (a1 : List ByteArray) (b2 : List ByteArray) : Option Int :=
  l0 n a1 b2 (fun _ =>
    (spec_l01Sign.F n (IntKind.i64.wrap ((List.length a1 : Int) - (List.length b2 : Int)))).bind fun r11 =>
    some r11) n 0
noncomputable def code : Code := Tryz.f97.body.getD .skip
abbrev ash : List ASh := [.ro (.st (.sl (.str))), .ro (.st (.sl (.str)))]
abbrev rsh : List RSh := [.ro (.int .i64)]
def ent (n : Nat) : FEnt := ⟨ash, rsh, fun v => F n v.1 v.2.1⟩
noncomputable def cx (n : Nat) : Ctx := mkCtx Tryz.prog TYS [(129, spec_l01Cmp.ent n), (130, spec_l01Sign.ent n)]
noncomputable def d : FnD := ⟨code, 43, .nil, [(.tmp 4, .int .i64, .ro)]⟩
noncomputable def kr (n : Nat) (v : AVs ash) : Env → Option (RVs rsh) := endK (cx n) d (avEnc ash v) (rvDec rsh)
noncomputable def c1 : Code := (Code.r (Code.l (Code.l (Code.r (Code.l (Code.r code))))))
noncomputable def c0 : Code := (Code.l (Code.r (Code.l (Code.r code))))
noncomputable def b0 : Code := Code.l c0
def an : An := .seq .nil (.seq (.seq .nil (.block (some [2, 3]) (.cut 0 [2, 3, 5]))) (.seq .nil .nil))
def an1 : An := .seq (.block (some [2, 3, 5]) (.seq .nil (.seq .nil (.cond (.seq .nil .nil) .nil)))) .nil
abbrev sh1 : ES := ⟨[(2, .pt 2 []), (3, .pt 3 []), (5, .v (.int .i64))], [⟨2, .st (.sl (.str)), .ro, true, false⟩, ⟨3, .st (.sl (.str)), .ro, true, false⟩]⟩
abbrev sh1_n : ES := ⟨[(2, .pt 2 []), (3, .pt 3 []), (5, .v (.int .i64))], [⟨2, .st (.sl (.str)), .ro, true, false⟩, ⟨3, .st (.sl (.str)), .ro, true, false⟩]⟩
def an0 : An := .seq (.seq .nil (.cond .nil .nil)) (.cut 1 [2, 3, 5])
abbrev sh0 : ES := ⟨[(2, .pt 2 []), (3, .pt 3 []), (5, .v (.int .i64))], [⟨2, .st (.sl (.str)), .ro, true, false⟩, ⟨3, .st (.sl (.str)), .ro, true, false⟩]⟩
abbrev sh0_0 : ES := ⟨[(2, .pt 2 []), (3, .pt 3 [])], [⟨2, .st (.sl (.str)), .ro, true, false⟩, ⟨3, .st (.sl (.str)), .ro, true, false⟩]⟩
def T1 (n m : Nat) (e : Env) (kn : Env → Option (RVs rsh)) (kx : Nat → Env → Option (RVs rsh)) : Option (RVs rsh) := ES.on sh1 e fun x => j1 n x.1.2.2.1 x.2.1 x.2.2.1 (fun y0 => kn (sh1_n.enc (((()), (()), y0, ()), (x.2.1, x.2.2.1, ()))))
def T0 (n m : Nat) (e : Env) (kn : Env → Option (RVs rsh)) (kx : Nat → Env → Option (RVs rsh)) : Option (RVs rsh) := ES.on sh0 e fun x => l0 n x.2.1 x.2.2.1 (fun _ => kx 0 (sh0_0.enc (((()), (()), ()), (x.2.1, x.2.2.1, ())))) m x.1.2.2.1
def T (n : Nat) : Tab (RVs rsh) := fun j e kn kx => match j with
  | 1 => T1 n n e kn kx
  | 0 => T0 n n e kn kx
  | _ => none
theorem co (n : Nat) : CtxOk (cx n) := mkCtx_cok TYS_ok
theorem mx (n : Nat) : (cx n).P.follows .mixedOrders = true := mkCtx_mix MIX
theorem mk (n : Nat) : MOk (cx n) := mkCtx_ok (mem_cons (spec_l01Cmp.ok n) (mem_cons (spec_l01Sign.ok n) mem_nil))
theorem us1 : units c1 an1 = [] := by kernel_rfl
theorem e1 (n m : Nat) (v : AVs ash) (x : sh1.V) (kn : Env → Option (RVs rsh)) (kx : Nat → Env → Option (RVs rsh)) : aevT (cx n) 43 (T n) (kr n v) c1 an1 [(0, [2, 3])] (meet (some [2, 3, 5]) kn) kx (sh1.enc x) = j1 n x.1.2.2.1 x.2.1 x.2.2.1 (fun y0 => kn (sh1_n.enc (((()), (()), y0, ()), (x.2.1, x.2.2.1, ())))) := by kernel_rfl
theorem u1 (n : Nat) (v : AVs ash) : UnitOk (cx n) 43 (T n) (kr n v) 1 c1 :=
  join_unit (co n) (mk n) (mx n) an1 [(0, [2, 3])] (some [2, 3, 5]) (fun e kn kx out h => by obtain ⟨x, rfl, h⟩ := ES.on_inv (show T1 n n e kn kx = some out from h); exact (e1 n n v x kn kx).trans h) (units_of us1 (mem_nil))
theorem us0 : units b0 an0 = [(1, c1)] := by kernel_rfl
theorem e0 (n m : Nat) (v : AVs ash) (x : sh0.V) (kn : Env → Option (RVs rsh)) (kx : Nat → Env → Option (RVs rsh)) : aevT (cx n) 43 (T n) (kr n v) b0 an0 [(0, [2, 3])] (meet (some [2, 3, 5]) fun e => T0 n m e kn kx) kx (sh0.enc x) = l0 n x.2.1 x.2.2.1 (fun _ => kx 0 (sh0_0.enc (((()), (()), ()), (x.2.1, x.2.2.1, ())))) (m + 1) x.1.2.2.1 := by kernel_rfl
theorem cl0 : c0 = .loop b0 := by kernel_rfl
theorem u0 (n : Nat) (v : AVs ash) : UnitOk (cx n) 43 (T n) (kr n v) 0 c0 := by
  rw [cl0]
  exact loop_unit (n := n) (co n) (mk n) (mx n) an0 [(0, [2, 3])] [2, 3, 5] (T0 n) (fun _ _ _ => rfl) (fun e kn kx out h => by obtain ⟨x, _, h⟩ := ES.on_inv h; cases h) (fun m e kn kx out h => by obtain ⟨x, rfl, h⟩ := ES.on_inv h; exact (e0 n m v x kn kx).trans h) (units_of us0 (mem_cons (u1 n v) mem_nil))
theorem us : units code an = [(0, c0)] := by kernel_rfl
theorem eqn (n : Nat) (v : AVs ash) : fnEvT (cx n) d an (T n) (avEnc ash v) (rvDec rsh) = F n v.1 v.2.1 := by kernel_rfl
theorem ok (n : Nat) : EntOk Tryz.prog 97 (ent n) :=
  ent_ok (c := cx n) (e := ent n) (d := d) (an := an) (fn := Tryz.f97) (co n) (mk n) (mx n) (by kernel_rfl) (by kernel_rfl) (by kernel_rfl) (by kernel_rfl) (by kernel_rfl) (fun _ => T n) (fun v => units_of us (mem_cons (u0 n v) mem_nil)) (eqn n)
end spec_l02Cmp
/-! spec.RelOk -/
namespace spec_RelOk
def l1 (n : Nat) (r5 : Int × List (List ByteArray)) (K0 : Unit → Option Bool) : Nat → Int → Option Bool
  | 0, _ => none
  | k + 1, i4 =>
    if decide (i4 < (List.length r5.2 : Int)) = true then
      if (0 : Int) ≤ i4 ∧ i4 < (List.length r5.2 : Int) then
        if (!decide ((List.length (List.getD r5.2 (Int.toNat i4) []) : Int) = r5.1)) = false then
          if (0 : Int) ≤ i4 ∧ i4 < (List.length r5.2 : Int) then
            (spec_TupleOk.F n (List.getD r5.2 (Int.toNat i4) [])).bind fun r6 =>
            if (!r6) = false then
              if (decide (i4 > 0)) = true then
                if (0 : Int) ≤ (IntKind.i64.wrap (i4 - 1)) ∧ (IntKind.i64.wrap (i4 - 1)) < (List.length r5.2 : Int) then
                  if (0 : Int) ≤ i4 ∧ i4 < (List.length r5.2 : Int) then
                    (spec_l02Cmp.F n (List.getD r5.2 (Int.toNat (IntKind.i64.wrap (i4 - 1))) []) (List.getD r5.2 (Int.toNat i4) [])).bind fun r7 =>
                    if decide (r7 ≥ 0) = true then
                      some false
                    else
                      l1 n r5 K0 k (IntKind.i64.wrap (i4 + 1))
                  else
                    none
                else
                  none
              else
                l1 n r5 K0 k (IntKind.i64.wrap (i4 + 1))
            else
              some false
          else
            none
        else
          some false
      else
        none
    else
      K0 ()
def j0 (n : Nat) (r3 : Int × List (List ByteArray)) : Option Bool :=
  l1 n r3 (fun _ =>
    some true) n 0
def F (n : Nat) (r1 : Int × List (List ByteArray)) : Option Bool :=
  (spec_l01Between.F n r1.1 0 6).bind fun r2 =>
  if (!r2) = false then
    if decide ((List.length r1.2 : Int) > 400) = true then
      some false
    else
      j0 n r1
  else
    some false
noncomputable def code : Code := Tryz.f49.body.getD .skip
abbrev ash : List ASh := [.ro (.st (.pair (.int .i64) (.sl (.st (.sl (.str))))))]
abbrev rsh : List RSh := [.ro .bool]
def ent (n : Nat) : FEnt := ⟨ash, rsh, fun v => F n v.1⟩
noncomputable def cx (n : Nat) : Ctx := mkCtx Tryz.prog TYS [(63, spec_l01Between.ent n), (64, spec_TupleOk.ent n), (97, spec_l02Cmp.ent n)]
noncomputable def d : FnD := ⟨code, 59, .nil, [(.tmp 2, .bool, .ro)]⟩
noncomputable def kr (n : Nat) (v : AVs ash) : Env → Option (RVs rsh) := endK (cx n) d (avEnc ash v) (rvDec rsh)
noncomputable def c1 : Code := (Code.l (Code.r (Code.l (Code.r (Code.r code)))))
noncomputable def b1 : Code := Code.l c1
noncomputable def c0 : Code := (Code.r (Code.r code))
def an : An := .seq .nil (.seq (.seq .nil (.cond (.seq .nil .nil) .nil)) (.cut 0 [1]))
def an1 : An := .seq (.seq .nil (.cond .nil .nil)) (.seq (.block (some [1, 3]) (.seq .nil (.cond (.seq .nil .nil) .nil))) .nil)
abbrev sh1 : ES := ⟨[(1, .pt 1 []), (3, .v (.int .i64))], [⟨1, .st (.pair (.int .i64) (.sl (.st (.sl (.str))))), .ro, true, false⟩]⟩
abbrev sh1_0 : ES := ⟨[], []⟩
def an0 : An := .seq (.seq .nil (.block (some []) (.cut 1 [1, 3]))) (.seq .nil .nil)
abbrev sh0 : ES := ⟨[(1, .pt 1 [])], [⟨1, .st (.pair (.int .i64) (.sl (.st (.sl (.str))))), .ro, true, false⟩]⟩
def T1 (n m : Nat) (e : Env) (kn : Env → Option (RVs rsh)) (kx : Nat → Env → Option (RVs rsh)) : Option (RVs rsh) := ES.on sh1 e fun x => l1 n x.2.1 (fun _ => kx 0 (sh1_0.enc ((()), (())))) m x.1.2.1
def T0 (n m : Nat) (e : Env) (kn : Env → Option (RVs rsh)) (kx : Nat → Env → Option (RVs rsh)) : Option (RVs rsh) := ES.on sh0 e fun x => j0 n x.2.1 
def T (n : Nat) : Tab (RVs rsh) := fun j e kn kx => match j with
  | 1 => T1 n n e kn kx
  | 0 => T0 n n e kn kx
  | _ => none
theorem co (n : Nat) : CtxOk (cx n) := mkCtx_cok TYS_ok
theorem mx (n : Nat) : (cx n).P.follows .mixedOrders = true := mkCtx_mix MIX
theorem mk (n : Nat) : MOk (cx n) := mkCtx_ok (mem_cons (spec_l01Between.ok n) (mem_cons (spec_TupleOk.ok n) (mem_cons (spec_l02Cmp.ok n) mem_nil)))
theorem us1 : units b1 an1 = [] := by kernel_rfl
theorem e1 (n m : Nat) (v : AVs ash) (x : sh1.V) (kn : Env → Option (RVs rsh)) (kx : Nat → Env → Option (RVs rsh)) : aevT (cx n) 59 (T n) (kr n v) b1 an1 [(0, [])] (meet (some [1, 3]) fun e => T1 n m e kn kx) kx (sh1.enc x) = l1 n x.2.1 (fun _ => kx 0 (sh1_0.enc ((()), (())))) (m + 1) x.1.2.1 := by kernel_rfl
theorem cl1 : c1 = .loop b1 := by kernel_rfl
theorem u1 (n : Nat) (v : AVs ash) : UnitOk (cx n) 59 (T n) (kr n v) 1 c1 := by
  rw [cl1]
  exact loop_unit (n := n) (co n) (mk n) (mx n) an1 [(0, [])] [1, 3] (T1 n) (fun _ _ _ => rfl) (fun e kn kx out h => by obtain ⟨x, _, h⟩ := ES.on_inv h; cases h) (fun m e kn kx out h => by obtain ⟨x, rfl, h⟩ := ES.on_inv h; exact (e1 n m v x kn kx).trans h) (units_of us1 (mem_nil))
theorem us0 : units c0 an0 = [(1, c1)] := by kernel_rfl
theorem e0 (n m : Nat) (v : AVs ash) (x : sh0.V) (kn : Env → Option (RVs rsh)) (kx : Nat → Env → Option (RVs rsh)) : aevT (cx n) 59 (T n) (kr n v) c0 an0 [] (meet (some [2]) kn) kx (sh0.enc x) = j0 n x.2.1  := by kernel_rfl
theorem u0 (n : Nat) (v : AVs ash) : UnitOk (cx n) 59 (T n) (kr n v) 0 c0 :=
  join_unit (co n) (mk n) (mx n) an0 [] (some [2]) (fun e kn kx out h => by obtain ⟨x, rfl, h⟩ := ES.on_inv (show T0 n n e kn kx = some out from h); exact (e0 n n v x kn kx).trans h) (units_of us0 (mem_cons (u1 n v) mem_nil))
theorem us : units code an = [(0, c0)] := by kernel_rfl
theorem eqn (n : Nat) (v : AVs ash) : fnEvT (cx n) d an (T n) (avEnc ash v) (rvDec rsh) = F n v.1 := by kernel_rfl
theorem ok (n : Nat) : EntOk Tryz.prog 49 (ent n) :=
  ent_ok (c := cx n) (e := ent n) (d := d) (an := an) (fn := Tryz.f49) (co n) (mk n) (mx n) (by kernel_rfl) (by kernel_rfl) (by kernel_rfl) (by kernel_rfl) (by kernel_rfl) (fun _ => T n) (fun v => units_of us (mem_cons (u0 n v) mem_nil)) (eqn n)
end spec_RelOk
/-! spec.DbShape -/
namespace spec_DbShape
def l0 (n : Nat) (d3 : List (Int × List (List ByteArray))) (K0 : Unit → Option Bool) : Nat → Int → Option Bool
  | 0, _ => none
  | k + 1, i2 =>
    if decide (i2 < (List.length d3 : Int)) = true then
      if (0 : Int) ≤ i2 ∧ i2 < (List.length d3 : Int) then
        (spec_RelOk.F n (List.getD d3 (Int.toNat i2) (0, []))).bind fun r4 =>
        if (!r4) = true then
          some false
        else
          l0 n d3 K0 k (IntKind.i64.wrap (i2 + 1))
      else
        none
    else
      K0 ()
def F (n : Nat) (d1 : List (Int × List (List ByteArray))) : Option Bool :=
  if decide ((List.length d1 : Int) > 20) = true then
    some false
  else
    l0 n d1 (fun _ =>
      some true) n 0
noncomputable def code : Code := Tryz.f12.body.getD .skip
abbrev ash : List ASh := [.ro (.st (.sl (.st (.pair (.int .i64) (.sl (.st (.sl (.str))))))))]
abbrev rsh : List RSh := [.ro .bool]
def ent (n : Nat) : FEnt := ⟨ash, rsh, fun v => F n v.1⟩
noncomputable def cx (n : Nat) : Ctx := mkCtx Tryz.prog TYS [(49, spec_RelOk.ent n)]
noncomputable def d : FnD := ⟨code, 22, .nil, [(.tmp 2, .bool, .ro)]⟩
noncomputable def kr (n : Nat) (v : AVs ash) : Env → Option (RVs rsh) := endK (cx n) d (avEnc ash v) (rvDec rsh)
noncomputable def c0 : Code := (Code.l (Code.r (Code.l (Code.r (Code.r code)))))
noncomputable def b0 : Code := Code.l c0
def an : An := .seq .nil (.seq (.seq .nil (.cond (.seq .nil .nil) .nil)) (.seq (.seq .nil (.block (some []) (.cut 0 [1, 3]))) (.seq .nil .nil)))
def an0 : An := .seq (.seq .nil (.cond .nil .nil)) (.seq (.block (some [1, 3]) (.seq .nil (.cond (.seq .nil .nil) .nil))) .nil)
abbrev sh0 : ES := ⟨[(1, .pt 1 []), (3, .v (.int .i64))], [⟨1, .st (.sl (.st (.pair (.int .i64) (.sl (.st (.sl (.str))))))), .ro, true, false⟩]⟩
abbrev sh0_0 : ES := ⟨[], []⟩
def T0 (n m : Nat) (e : Env) (kn : Env → Option (RVs rsh)) (kx : Nat → Env → Option (RVs rsh)) : Option (RVs rsh) := ES.on sh0 e fun x => l0 n x.2.1 (fun _ => kx 0 (sh0_0.enc ((()), (())))) m x.1.2.1
def T (n : Nat) : Tab (RVs rsh) := fun j e kn kx => match j with
  | 0 => T0 n n e kn kx
  | _ => none
theorem co (n : Nat) : CtxOk (cx n) := mkCtx_cok TYS_ok
theorem mx (n : Nat) : (cx n).P.follows .mixedOrders = true := mkCtx_mix MIX
theorem mk (n : Nat) : MOk (cx n) := mkCtx_ok (mem_cons (spec_RelOk.ok n) mem_nil)
theorem us0 : units b0 an0 = [] := by kernel_rfl
theorem e0 (n m : Nat) (v : AVs ash) (x : sh0.V) (kn : Env → Option (RVs rsh)) (kx : Nat → Env → Option (RVs rsh)) : aevT (cx n) 22 (T n) (kr n v) b0 an0 [(0, [])] (meet (some [1, 3]) fun e => T0 n m e kn kx) kx (sh0.enc x) = l0 n x.2.1 (fun _ => kx 0 (sh0_0.enc ((()), (())))) (m + 1) x.1.2.1 := by kernel_rfl
theorem cl0 : c0 = .loop b0 := by kernel_rfl
theorem u0 (n : Nat) (v : AVs ash) : UnitOk (cx n) 22 (T n) (kr n v) 0 c0 := by
  rw [cl0]
  exact loop_unit (n := n) (co n) (mk n) (mx n) an0 [(0, [])] [1, 3] (T0 n) (fun _ _ _ => rfl) (fun e kn kx out h => by obtain ⟨x, _, h⟩ := ES.on_inv h; cases h) (fun m e kn kx out h => by obtain ⟨x, rfl, h⟩ := ES.on_inv h; exact (e0 n m v x kn kx).trans h) (units_of us0 (mem_nil))
theorem us : units code an = [(0, c0)] := by kernel_rfl
theorem eqn (n : Nat) (v : AVs ash) : fnEvT (cx n) d an (T n) (avEnc ash v) (rvDec rsh) = F n v.1 := by kernel_rfl
theorem ok (n : Nat) : EntOk Tryz.prog 12 (ent n) :=
  ent_ok (c := cx n) (e := ent n) (d := d) (an := an) (fn := Tryz.f12) (co n) (mk n) (mx n) (by kernel_rfl) (by kernel_rfl) (by kernel_rfl) (by kernel_rfl) (by kernel_rfl) (fun _ => T n) (fun v => units_of us (mem_cons (u0 n v) mem_nil)) (eqn n)
end spec_DbShape
/-! slices.IndexFunc[[]impl.Rel,impl.Rel] -/
namespace slices_IndexFunc_Rel_Rel
def l0 (n : Nat) (s3 : List (Int × List (List ByteArray))) (f4 : ((Int × List (List ByteArray)) × Unit) → Option Bool) (t5 : Int) (K0 : Unit → Option Int) : Nat → Int → Option Int
  | 0, _ => none
  | k + 1, t6 =>
    if decide (t6 < t5) = true then
      if (0 : Int) ≤ t6 ∧ t6 < (List.length s3 : Int) then
        (f4 (List.getD s3 (Int.toNat t6) (0, []), ())).bind fun r7 =>
        if r7 = true then
          some t6
        else
          l0 n s3 f4 t5 K0 k (IntKind.i64.wrap (t6 + 1))
      else
        none
    else
      K0 ()
def F (n : Nat) (s1 : List (Int × List (List ByteArray))) (f2 : ((Int × List (List ByteArray)) × Unit) → Option Bool) : Option Int :=
  l0 n s1 f2 (List.length s1 : Int) (fun _ =>
    some (-1)) n 0
noncomputable def code : Code := Tryz.f131.body.getD .skip
abbrev ash : List ASh := [.ro (.sl (.st (.pair (.int .i64) (.sl (.st (.sl (.str))))))), .fn [.st (.pair (.int .i64) (.sl (.st (.sl (.str)))))] .bool]
abbrev rsh : List RSh := [.ro (.int .i64)]
def ent (n : Nat) : FEnt := ⟨ash, rsh, fun v => F n v.1 v.2.1⟩
noncomputable def cx (n : Nat) : Ctx := mkCtx Tryz.prog TYS []
noncomputable def d : FnD := ⟨code, 19, .nil, [(.tmp 4, .int .i64, .ro)]⟩
noncomputable def kr (n : Nat) (v : AVs ash) : Env → Option (RVs rsh) := endK (cx n) d (avEnc ash v) (rvDec rsh)
noncomputable def c0 : Code := (Code.l (Code.r (Code.l (Code.r code))))
noncomputable def b0 : Code := Code.l c0
def an : An := .seq .nil (.seq (.seq .nil (.block (some []) (.cut 0 [0, 1, 7, 8]))) (.seq .nil .nil))
def an0 : An := .seq .nil (.seq (.cond .nil .nil) (.seq (.block (some [0, 1, 7, 8]) (.seq .nil (.seq .nil (.cond (.seq .nil .nil) .nil)))) .nil))
abbrev sh0 : ES := ⟨[(0, .v (.sl (.st (.pair (.int .i64) (.sl (.st (.sl (.str)))))))), (1, .clo [.st (.pair (.int .i64) (.sl (.st (.sl (.str)))))] .bool), (7, .v (.int .i64)), (8, .v (.int .i64))], []⟩
abbrev sh0_0 : ES := ⟨[], []⟩
def T0 (n m : Nat) (e : Env) (kn : Env → Option (RVs rsh)) (kx : Nat → Env → Option (RVs rsh)) : Option (RVs rsh) := ES.on sh0 e fun x => l0 n x.1.1 x.1.2.1 x.1.2.2.1 (fun _ => kx 0 (sh0_0.enc ((()), (())))) m x.1.2.2.2.1
def T (n : Nat) : Tab (RVs rsh) := fun j e kn kx => match j with
  | 0 => T0 n n e kn kx
  | _ => none
theorem co (n : Nat) : CtxOk (cx n) := mkCtx_cok TYS_ok
theorem mx (n : Nat) : (cx n).P.follows .mixedOrders = true := mkCtx_mix MIX
theorem mk (n : Nat) : MOk (cx n) := mkCtx_ok (mem_nil)
theorem us0 : units b0 an0 = [] := by kernel_rfl
theorem e0 (n m : Nat) (v : AVs ash) (x : sh0.V) (kn : Env → Option (RVs rsh)) (kx : Nat → Env → Option (RVs rsh)) : aevT (cx n) 19 (T n) (kr n v) b0 an0 [(0, [])] (meet (some [0, 1, 7, 8]) fun e => T0 n m e kn kx) kx (sh0.enc x) = l0 n x.1.1 x.1.2.1 x.1.2.2.1 (fun _ => kx 0 (sh0_0.enc ((()), (())))) (m + 1) x.1.2.2.2.1 := by kernel_rfl
theorem cl0 : c0 = .loop b0 := by kernel_rfl
theorem u0 (n : Nat) (v : AVs ash) : UnitOk (cx n) 19 (T n) (kr n v) 0 c0 := by
  rw [cl0]
  exact loop_unit (n := n) (co n) (mk n) (mx n) an0 [(0, [])] [0, 1, 7, 8] (T0 n) (fun _ _ _ => rfl) (fun e kn kx out h => by obtain ⟨x, _, h⟩ := ES.on_inv h; cases h) (fun m e kn kx out h => by obtain ⟨x, rfl, h⟩ := ES.on_inv h; exact (e0 n m v x kn kx).trans h) (units_of us0 (mem_nil))
theorem us : units code an = [(0, c0)] := by kernel_rfl
theorem eqn (n : Nat) (v : AVs ash) : fnEvT (cx n) d an (T n) (avEnc ash v) (rvDec rsh) = F n v.1 v.2.1 := by kernel_rfl
theorem ok (n : Nat) : EntOk Tryz.prog 131 (ent n) :=
  ent_ok (c := cx n) (e := ent n) (d := d) (an := an) (fn := Tryz.f131) (co n) (mk n) (mx n) (by kernel_rfl) (by kernel_rfl) (by kernel_rfl) (by kernel_rfl) (by kernel_rfl) (fun _ => T n) (fun v => units_of us (mem_cons (u0 n v) mem_nil)) (eqn n)
end slices_IndexFunc_Rel_Rel
/-! slices.ContainsFunc[[]impl.Rel,impl.Rel] -/
namespace slices_ContainsFunc_Rel_Rel
def F (n : Nat) (s1 : List (Int × List (List ByteArray))) (f2 : ((Int × List (List ByteArray)) × Unit) → Option Bool) : Option Bool :=
  (slices_IndexFunc_Rel_Rel.F n s1 f2).bind fun r3 =>
  some (decide (r3 ≥ 0))
noncomputable def code : Code := Tryz.f98.body.getD .skip
abbrev ash : List ASh := [.ro (.sl (.st (.pair (.int .i64) (.sl (.st (.sl (.str))))))), .fn [.st (.pair (.int .i64) (.sl (.st (.sl (.str)))))] .bool]
abbrev rsh : List RSh := [.ro .bool]
def ent (n : Nat) : FEnt := ⟨ash, rsh, fun v => F n v.1 v.2.1⟩
noncomputable def cx (n : Nat) : Ctx := mkCtx Tryz.prog TYS [(131, slices_IndexFunc_Rel_Rel.ent n)]
noncomputable def d : FnD := ⟨code, 9, .nil, [(.tmp 4, .bool, .ro)]⟩
noncomputable def kr (n : Nat) (v : AVs ash) : Env → Option (RVs rsh) := endK (cx n) d (avEnc ash v) (rvDec rsh)
def an : An := .seq .nil (.seq .nil .nil)
def T (n : Nat) : Tab (RVs rsh) := fun j e kn kx => match j with
  | _ => none
theorem co (n : Nat) : CtxOk (cx n) := mkCtx_cok TYS_ok
theorem mx (n : Nat) : (cx n).P.follows .mixedOrders = true := mkCtx_mix MIX
theorem mk (n : Nat) : MOk (cx n) := mkCtx_ok (mem_cons (slices_IndexFunc_Rel_Rel.ok n) mem_nil)
theorem us : units code an = [] := by kernel_rfl
theorem eqn (n : Nat) (v : AVs ash) : fnEvT (cx n) d an (T n) (avEnc ash v) (rvDec rsh) = F n v.1 v.2.1 := by kernel_rfl
theorem ok (n : Nat) : EntOk Tryz.prog 98 (ent n) :=
  ent_ok (c := cx n) (e := ent n) (d := d) (an := an) (fn := Tryz.f98) (co n) (mk n) (mx n) (by kernel_rfl) (by kernel_rfl) (by kernel_rfl) (by kernel_rfl) (by kernel_rfl) (fun _ => T n) (fun v => units_of us (mem_nil)) (eqn n)
end slices_ContainsFunc_Rel_Rel
/-! impl.in -/
namespace impl_in
def F (n : Nat) (t1 : Int) (low2 : Int) (high3 : Int) : Option Bool :=
  if (decide (t1 ≥ low2)) = true then
    some (decide (t1 ≤ high3))
  else
    some false
noncomputable def code : Code := Tryz.f69.body.getD .skip
abbrev ash : List ASh := [.ro (.int .i64), .ro (.int .i64), .ro (.int .i64)]
abbrev rsh : List RSh := [.ro .bool]
def ent (n : Nat) : FEnt := ⟨ash, rsh, fun v => F n v.1 v.2.1 v.2.2.1⟩
noncomputable def cx (n : Nat) : Ctx := mkCtx Tryz.prog TYS []
noncomputable def d : FnD := ⟨code, 15, .nil, [(.tmp 6, .bool, .ro)]⟩
noncomputable def kr (n : Nat) (v : AVs ash) : Env → Option (RVs rsh) := endK (cx n) d (avEnc ash v) (rvDec rsh)
def an : An := .seq .nil (.seq .nil .nil)
def T (n : Nat) : Tab (RVs rsh) := fun j e kn kx => match j with
  | _ => none
theorem co (n : Nat) : CtxOk (cx n) := mkCtx_cok TYS_ok
theorem mx (n : Nat) : (cx n).P.follows .mixedOrders = true := mkCtx_mix MIX
theorem mk (n : Nat) : MOk (cx n) := mkCtx_ok (mem_nil)
theorem us : units code an = [] := by kernel_rfl
theorem eqn (n : Nat) (v : AVs ash) : fnEvT (cx n) d an (T n) (avEnc ash v) (rvDec rsh) = F n v.1 v.2.1 v.2.2.1 := by kernel_rfl
theorem ok (n : Nat) : EntOk Tryz.prog 69 (ent n) :=
  ent_ok (c := cx n) (e := ent n) (d := d) (an := an) (fn := Tryz.f69) (co n) (mk n) (mx n) (by kernel_rfl) (by kernel_rfl) (by kernel_rfl) (by kernel_rfl) (by kernel_rfl) (fun _ => T n) (fun v => units_of us (mem_nil)) (eqn n)
end impl_in
/-! slices.IndexFunc[[]string,string] -/
namespace slices_IndexFunc_string_string
def l0 (n : Nat) (s3 : List ByteArray) (f4 : (ByteArray × Unit) → Option Bool) (t5 : Int) (K0 : Unit → Option Int) : Nat → Int → Option Int
  | 0, _ => none
  | k + 1, t6 =>
    if decide (t6 < t5) = true then
      if (0 : Int) ≤ t6 ∧ t6 < (List.length s3 : Int) then
        (f4 (List.getD s3 (Int.toNat t6) ByteArray.empty, ())).bind fun r7 =>
        if r7 = true then
          some t6
        else
          l0 n s3 f4 t5 K0 k (IntKind.i64.wrap (t6 + 1))
      else
        none
    else
      K0 ()
def F (n : Nat) (s1 : List ByteArray) (f2 : (ByteArray × Unit) → Option Bool) : Option Int :=
  l0 n s1 f2 (List.length s1 : Int) (fun _ =>
    some (-1)) n 0
noncomputable def code : Code := Tryz.f158.body.getD .skip
abbrev ash : List ASh := [.ro (.sl (.str)), .fn [.str] .bool]
abbrev rsh : List RSh := [.ro (.int .i64)]
def ent (n : Nat) : FEnt := ⟨ash, rsh, fun v => F n v.1 v.2.1⟩
noncomputable def cx (n : Nat) : Ctx := mkCtx Tryz.prog TYS []
noncomputable def d : FnD := ⟨code, 19, .nil, [(.tmp 4, .int .i64, .ro)]⟩
noncomputable def kr (n : Nat) (v : AVs ash) : Env → Option (RVs rsh) := endK (cx n) d (avEnc ash v) (rvDec rsh)
noncomputable def c0 : Code := (Code.l (Code.r (Code.l (Code.r code))))
noncomputable def b0 : Code := Code.l c0
def an : An := .seq .nil (.seq (.seq .nil (.block (some []) (.cut 0 [0, 1, 7, 8]))) (.seq .nil .nil))
def an0 : An := .seq .nil (.seq (.cond .nil .nil) (.seq (.block (some [0, 1, 7, 8]) (.seq .nil (.seq .nil (.cond (.seq .nil .nil) .nil)))) .nil))
abbrev sh0 : ES := ⟨[(0, .v (.sl (.str))), (1, .clo [.str] .bool), (7, .v (.int .i64)), (8, .v (.int .i64))], []⟩
abbrev sh0_0 : ES := ⟨[], []⟩
def T0 (n m : Nat) (e : Env) (kn : Env → Option (RVs rsh)) (kx : Nat → Env → Option (RVs rsh)) : Option (RVs rsh) := ES.on sh0 e fun x => l0 n x.1.1 x.1.2.1 x.1.2.2.1 (fun _ => kx 0 (sh0_0.enc ((()), (())))) m x.1.2.2.2.1
def T (n : Nat) : Tab (RVs rsh) := fun j e kn kx => match j with
  | 0 => T0 n n e kn kx
  | _ => none
theorem co (n : Nat) : CtxOk (cx n) := mkCtx_cok TYS_ok
theorem mx (n : Nat) : (cx n).P.follows .mixedOrders = true := mkCtx_mix MIX
theorem mk (n : Nat) : MOk (cx n) := mkCtx_ok (mem_nil)
theorem us0 : units b0 an0 = [] := by kernel_rfl
theorem e0 (n m : Nat) (v : AVs ash) (x : sh0.V) (kn : Env → Option (RVs rsh)) (kx : Nat → Env → Option (RVs rsh)) : aevT (cx n) 19 (T n) (kr n v) b0 an0 [(0, [])] (meet (some [0, 1, 7, 8]) fun e => T0 n m e kn kx) kx (sh0.enc x) = l0 n x.1.1 x.1.2.1 x.1.2.2.1 (fun _ => kx 0 (sh0_0.enc ((()), (())))) (m + 1) x.1.2.2.2.1 := by kernel_rfl
theorem cl0 : c0 = .loop b0 := by kernel_rfl
theorem u0 (n : Nat) (v : AVs ash) : UnitOk (cx n) 19 (T n) (kr n v) 0 c0 := by
  rw [cl0]
  exact loop_unit (n := n) (co n) (mk n) (mx n) an0 [(0, [])] [0, 1, 7, 8] (T0 n) (fun _ _ _ => rfl) (fun e kn kx out h => by obtain ⟨x, _, h⟩ := ES.on_inv h; cases h) (fun m e kn kx out h => by obtain ⟨x, rfl, h⟩ := ES.on_inv h; exact (e0 n m v x kn kx).trans h) (units_of us0 (mem_nil))
theorem us : units code an = [(0, c0)] := by kernel_rfl
theorem eqn (n : Nat) (v : AVs ash) : fnEvT (cx n) d an (T n) (avEnc ash v) (rvDec rsh) = F n v.1 v.2.1 := by kernel_rfl
theorem ok (n : Nat) : EntOk Tryz.prog 158 (ent n) :=
  ent_ok (c := cx n) (e := ent n) (d := d) (an := an) (fn := Tryz.f158) (co n) (mk n) (mx n) (by kernel_rfl) (by kernel_rfl) (by kernel_rfl) (by kernel_rfl) (by kernel_rfl) (fun _ => T n) (fun v => units_of us (mem_cons (u0 n v) mem_nil)) (eqn n)
end slices_IndexFunc_string_string
/-! slices.ContainsFunc[[]string,string] -/
namespace slices_ContainsFunc_string_string
def F (n : Nat) (s1 : List ByteArray) (f2 : (ByteArray × Unit) → Option Bool) : Option Bool :=
  (slices_IndexFunc_string_string.F n s1 f2).bind fun r3 =>
  some (decide (r3 ≥ 0))
noncomputable def code : Code := Tryz.f136.body.getD .skip
abbrev ash : List ASh := [.ro (.sl (.str)), .fn [.str] .bool]
abbrev rsh : List RSh := [.ro .bool]
def ent (n : Nat) : FEnt := ⟨ash, rsh, fun v => F n v.1 v.2.1⟩
noncomputable def cx (n : Nat) : Ctx := mkCtx Tryz.prog TYS [(158, slices_IndexFunc_string_string.ent n)]
noncomputable def d : FnD := ⟨code, 9, .nil, [(.tmp 4, .bool, .ro)]⟩
noncomputable def kr (n : Nat) (v : AVs ash) : Env → Option (RVs rsh) := endK (cx n) d (avEnc ash v) (rvDec rsh)
def an : An := .seq .nil (.seq .nil .nil)
def T (n : Nat) : Tab (RVs rsh) := fun j e kn kx => match j with
  | _ => none
theorem co (n : Nat) : CtxOk (cx n) := mkCtx_cok TYS_ok
theorem mx (n : Nat) : (cx n).P.follows .mixedOrders = true := mkCtx_mix MIX
theorem mk (n : Nat) : MOk (cx n) := mkCtx_ok (mem_cons (slices_IndexFunc_string_string.ok n) mem_nil)
theorem us : units code an = [] := by kernel_rfl
theorem eqn (n : Nat) (v : AVs ash) : fnEvT (cx n) d an (T n) (avEnc ash v) (rvDec rsh) = F n v.1 v.2.1 := by kernel_rfl
theorem ok (n : Nat) : EntOk Tryz.prog 136 (ent n) :=
  ent_ok (c := cx n) (e := ent n) (d := d) (an := an) (fn := Tryz.f136) (co n) (mk n) (mx n) (by kernel_rfl) (by kernel_rfl) (by kernel_rfl) (by kernel_rfl) (by kernel_rfl) (fun _ => T n) (fun v => units_of us (mem_nil)) (eqn n)
end slices_ContainsFunc_string_string
/-! impl.symbolLong -/
namespace impl_symbolLong
def j1 (n : Nat) (s4 : ByteArray) (t5 : Int) (Kn : Int → Option Int) : Option Int :=
  if (0 : Int) ≤ t5 ∧ t5 < (ByteArray.size s4 : Int) then
    if decide ((byteAt s4 t5) = 34) = true then
      some (IntKind.i64.wrap (t5 + 1))
    else
      if (0 : Int) ≤ t5 ∧ t5 < (ByteArray.size s4 : Int) then
        if (decide ((byteAt s4 t5) < 32)) = false then
          if (0 : Int) ≤ t5 ∧ t5 < (ByteArray.size s4 : Int) then
            if (decide ((byteAt s4 t5) > 126)) = false then
              if (0 : Int) ≤ t5 ∧ t5 < (ByteArray.size s4 : Int) then
                if decide ((byteAt s4 t5) = 92) = true then
                  some 0
                else
                  Kn (IntKind.i64.wrap (t5 + 1))
              else
                none
            else
              some 0
          else
            none
        else
          some 0
      else
        none
  else
    none
def l0 (n : Nat) (s2 : ByteArray) (K0 : Unit → Option Int) : Nat → Int → Option Int
  | 0, _ => none
  | k + 1, t3 =>
    if (decide (t3 < (ByteArray.size s2 : Int))) = true then
      if decide (t3 ≤ 21) = true then
        j1 n s2 t3 (fun t6 =>
          l0 n s2 K0 k t6)
      else
        K0 ()
    else
      K0 ()
def F (n : Nat) (s1 : ByteArray) : Option Int :=
  l0 n s1 (fun _ =>
    some 0) n 1
noncomputable def code : Code := Tryz.f148.body.getD .skip
abbrev ash : List ASh := [.ro .str]
abbrev rsh : List RSh := [.ro (.int .i64)]
def ent (n : Nat) : FEnt := ⟨ash, rsh, fun v => F n v.1⟩
noncomputable def cx (n : Nat) : Ctx := mkCtx Tryz.prog TYS []
noncomputable def d : FnD := ⟨code, 38, .nil, [(.tmp 2, .int .i64, .ro)]⟩
noncomputable def kr (n : Nat) (v : AVs ash) : Env → Option (RVs rsh) := endK (cx n) d (avEnc ash v) (rvDec rsh)
noncomputable def c1 : Code := (Code.r (Code.l (Code.l (Code.r (Code.l (Code.r code))))))
noncomputable def c0 : Code := (Code.l (Code.r (Code.l (Code.r code))))
noncomputable def b0 : Code := Code.l c0
def an : An := .seq .nil (.seq (.seq .nil (.block (some []) (.cut 0 [0, 3]))) (.seq .nil .nil))
def an1 : An := .seq (.block (some [0, 3]) (.block (some [0, 3]) (.seq .nil (.cond (.seq .nil .nil) (.seq .nil (.cond (.seq .nil .nil) .nil)))))) .nil
abbrev sh1 : ES := ⟨[(0, .v .str), (3, .v (.int .i64))], []⟩
abbrev sh1_n : ES := ⟨[(0, .v .str), (3, .v (.int .i64))], []⟩
def an0 : An := .seq (.seq .nil (.cond .nil .nil)) (.cut 1 [0, 3])
abbrev sh0 : ES := ⟨[(0, .v .str), (3, .v (.int .i64))], []⟩
abbrev sh0_0 : ES := ⟨[], []⟩
def T1 (n m : Nat) (e : Env) (kn : Env → Option (RVs rsh)) (kx : Nat → Env → Option (RVs rsh)) : Option (RVs rsh) := ES.on sh1 e fun x => j1 n x.1.1 x.1.2.1 (fun y0 => kn (sh1_n.enc ((x.1.1, y0, ()), (()))))
def T0 (n m : Nat) (e : Env) (kn : Env → Option (RVs rsh)) (kx : Nat → Env → Option (RVs rsh)) : Option (RVs rsh) := ES.on sh0 e fun x => l0 n x.1.1 (fun _ => kx 0 (sh0_0.enc ((()), (())))) m x.1.2.1
def T (n : Nat) : Tab (RVs rsh) := fun j e kn kx => match j with
  | 1 => T1 n n e kn kx
  | 0 => T0 n n e kn kx
  | _ => none
theorem co (n : Nat) : CtxOk (cx n) := mkCtx_cok TYS_ok
theorem mx (n : Nat) : (cx n).P.follows .mixedOrders = true := mkCtx_mix MIX
theorem mk (n : Nat) : MOk (cx n) := mkCtx_ok (mem_nil)
theorem us1 : units c1 an1 = [] := by kernel_rfl
theorem e1 (n m : Nat) (v : AVs ash) (x : sh1.V) (kn : Env → Option (RVs rsh)) (kx : Nat → Env → Option (RVs rsh)) : aevT (cx n) 38 (T n) (kr n v) c1 an1 [(0, [])] (meet (some [0, 3]) kn) kx (sh1.enc x) = j1 n x.1.1 x.1.2.1 (fun y0 => kn (sh1_n.enc ((x.1.1, y0, ()), (())))) := by kernel_rfl
theorem u1 (n : Nat) (v : AVs ash) : UnitOk (cx n) 38 (T n) (kr n v) 1 c1 :=
  join_unit (co n) (mk n) (mx n) an1 [(0, [])] (some [0, 3]) (fun e kn kx out h => by obtain ⟨x, rfl, h⟩ := ES.on_inv (show T1 n n e kn kx = some out from h); exact (e1 n n v x kn kx).trans h) (units_of us1 (mem_nil))
theorem us0 : units b0 an0 = [(1, c1)] := by kernel_rfl
theorem e0 (n m : Nat) (v : AVs ash) (x : sh0.V) (kn : Env → Option (RVs rsh)) (kx : Nat → Env → Option (RVs rsh)) : aevT (cx n) 38 (T n) (kr n v) b0 an0 [(0, [])] (meet (some [0, 3]) fun e => T0 n m e kn kx) kx (sh0.enc x) = l0 n x.1.1 (fun _ => kx 0 (sh0_0.enc ((()), (())))) (m + 1) x.1.2.1 := by kernel_rfl
theorem cl0 : c0 = .loop b0 := by kernel_rfl
theorem u0 (n : Nat) (v : AVs ash) : UnitOk (cx n) 38 (T n) (kr n v) 0 c0 := by
  rw [cl0]
  exact loop_unit (n := n) (co n) (mk n) (mx n) an0 [(0, [])] [0, 3] (T0 n) (fun _ _ _ => rfl) (fun e kn kx out h => by obtain ⟨x, _, h⟩ := ES.on_inv h; cases h) (fun m e kn kx out h => by obtain ⟨x, rfl, h⟩ := ES.on_inv h; exact (e0 n m v x kn kx).trans h) (units_of us0 (mem_cons (u1 n v) mem_nil))
theorem us : units code an = [(0, c0)] := by kernel_rfl
theorem eqn (n : Nat) (v : AVs ash) : fnEvT (cx n) d an (T n) (avEnc ash v) (rvDec rsh) = F n v.1 := by kernel_rfl
theorem ok (n : Nat) : EntOk Tryz.prog 148 (ent n) :=
  ent_ok (c := cx n) (e := ent n) (d := d) (an := an) (fn := Tryz.f148) (co n) (mk n) (mx n) (by kernel_rfl) (by kernel_rfl) (by kernel_rfl) (by kernel_rfl) (by kernel_rfl) (fun _ => T n) (fun v => units_of us (mem_cons (u0 n v) mem_nil)) (eqn n)
end impl_symbolLong
/-! impl.isDigit -/
namespace impl_isDigit
def F (n : Nat) (b1 : Int) : Option Bool :=
  if (decide (b1 ≥ 48)) = true then
    some (decide (b1 ≤ 57))
  else
    some false
noncomputable def code : Code := Tryz.f149.body.getD .skip
abbrev ash : List ASh := [.ro (.int .u8)]
abbrev rsh : List RSh := [.ro .bool]
def ent (n : Nat) : FEnt := ⟨ash, rsh, fun v => F n v.1⟩
noncomputable def cx (n : Nat) : Ctx := mkCtx Tryz.prog TYS []
noncomputable def d : FnD := ⟨code, 9, .nil, [(.tmp 2, .bool, .ro)]⟩
noncomputable def kr (n : Nat) (v : AVs ash) : Env → Option (RVs rsh) := endK (cx n) d (avEnc ash v) (rvDec rsh)
def an : An := .seq .nil (.seq .nil .nil)
def T (n : Nat) : Tab (RVs rsh) := fun j e kn kx => match j with
  | _ => none
theorem co (n : Nat) : CtxOk (cx n) := mkCtx_cok TYS_ok
theorem mx (n : Nat) : (cx n).P.follows .mixedOrders = true := mkCtx_mix MIX
theorem mk (n : Nat) : MOk (cx n) := mkCtx_ok (mem_nil)
theorem us : units code an = [] := by kernel_rfl
theorem eqn (n : Nat) (v : AVs ash) : fnEvT (cx n) d an (T n) (avEnc ash v) (rvDec rsh) = F n v.1 := by kernel_rfl
theorem ok (n : Nat) : EntOk Tryz.prog 149 (ent n) :=
  ent_ok (c := cx n) (e := ent n) (d := d) (an := an) (fn := Tryz.f149) (co n) (mk n) (mx n) (by kernel_rfl) (by kernel_rfl) (by kernel_rfl) (by kernel_rfl) (by kernel_rfl) (fun _ => T n) (fun v => units_of us (mem_nil)) (eqn n)
end impl_isDigit
/-! impl.isLetter -/
namespace impl_isLetter
def F (n : Nat) (b1 : Int) : Option Bool :=
  if (decide (b1 ≥ 97)) = true then
    if (decide (b1 ≤ 122)) = false then
      if (decide (b1 ≥ 65)) = true then
        some (decide (b1 ≤ 90))
      else
        some false
    else
      some true
  else
    if (decide (b1 ≥ 65)) = true then
      some (decide (b1 ≤ 90))
    else
      some false
noncomputable def code : Code := Tryz.f187.body.getD .skip
abbrev ash : List ASh := [.ro (.int .u8)]
abbrev rsh : List RSh := [.ro .bool]
def ent (n : Nat) : FEnt := ⟨ash, rsh, fun v => F n v.1⟩
noncomputable def cx (n : Nat) : Ctx := mkCtx Tryz.prog TYS []
noncomputable def d : FnD := ⟨code, 17, .nil, [(.tmp 2, .bool, .ro)]⟩
noncomputable def kr (n : Nat) (v : AVs ash) : Env → Option (RVs rsh) := endK (cx n) d (avEnc ash v) (rvDec rsh)
def an : An := .seq .nil (.seq .nil .nil)
def T (n : Nat) : Tab (RVs rsh) := fun j e kn kx => match j with
  | _ => none
theorem co (n : Nat) : CtxOk (cx n) := mkCtx_cok TYS_ok
theorem mx (n : Nat) : (cx n).P.follows .mixedOrders = true := mkCtx_mix MIX
theorem mk (n : Nat) : MOk (cx n) := mkCtx_ok (mem_nil)
theorem us : units code an = [] := by kernel_rfl
theorem eqn (n : Nat) (v : AVs ash) : fnEvT (cx n) d an (T n) (avEnc ash v) (rvDec rsh) = F n v.1 := by kernel_rfl
theorem ok (n : Nat) : EntOk Tryz.prog 187 (ent n) :=
  ent_ok (c := cx n) (e := ent n) (d := d) (an := an) (fn := Tryz.f187) (co n) (mk n) (mx n) (by kernel_rfl) (by kernel_rfl) (by kernel_rfl) (by kernel_rfl) (by kernel_rfl) (fun _ => T n) (fun v => units_of us (mem_nil)) (eqn n)
end impl_isLetter
/-! impl.isWordByte -/
namespace impl_isWordByte
def F (n : Nat) (b1 : Int) : Option Bool :=
  (impl_isLetter.F n b1).bind fun r2 =>
  if r2 = false then
    (impl_isDigit.F n b1).bind fun r3 =>
    if r3 = false then
      some (decide (b1 = 95))
    else
      some true
  else
    some true
noncomputable def code : Code := Tryz.f186.body.getD .skip
abbrev ash : List ASh := [.ro (.int .u8)]
abbrev rsh : List RSh := [.ro .bool]
def ent (n : Nat) : FEnt := ⟨ash, rsh, fun v => F n v.1⟩
noncomputable def cx (n : Nat) : Ctx := mkCtx Tryz.prog TYS [(149, impl_isDigit.ent n), (187, impl_isLetter.ent n)]
noncomputable def d : FnD := ⟨code, 13, .nil, [(.tmp 2, .bool, .ro)]⟩
noncomputable def kr (n : Nat) (v : AVs ash) : Env → Option (RVs rsh) := endK (cx n) d (avEnc ash v) (rvDec rsh)
def an : An := .seq .nil (.seq .nil .nil)
def T (n : Nat) : Tab (RVs rsh) := fun j e kn kx => match j with
  | _ => none
theorem co (n : Nat) : CtxOk (cx n) := mkCtx_cok TYS_ok
theorem mx (n : Nat) : (cx n).P.follows .mixedOrders = true := mkCtx_mix MIX
theorem mk (n : Nat) : MOk (cx n) := mkCtx_ok (mem_cons (impl_isDigit.ok n) (mem_cons (impl_isLetter.ok n) mem_nil))
theorem us : units code an = [] := by kernel_rfl
theorem eqn (n : Nat) (v : AVs ash) : fnEvT (cx n) d an (T n) (avEnc ash v) (rvDec rsh) = F n v.1 := by kernel_rfl
theorem ok (n : Nat) : EntOk Tryz.prog 186 (ent n) :=
  ent_ok (c := cx n) (e := ent n) (d := d) (an := an) (fn := Tryz.f186) (co n) (mk n) (mx n) (by kernel_rfl) (by kernel_rfl) (by kernel_rfl) (by kernel_rfl) (by kernel_rfl) (fun _ => T n) (fun v => units_of us (mem_nil)) (eqn n)
end impl_isWordByte
/-! impl.nameLong -/
namespace impl_nameLong
def l0 (n : Nat) (s2 : ByteArray) (K0 : Int → Option Int) : Nat → Int → Option Int
  | 0, _ => none
  | k + 1, t3 =>
    if (decide (t3 < (ByteArray.size s2 : Int))) = true then
      if (0 : Int) ≤ t3 ∧ t3 < (ByteArray.size s2 : Int) then
        (impl_isWordByte.F n (byteAt s2 t3)).bind fun r4 =>
        if r4 = true then
          if (decide (t3 > 0)) = false then
            if (0 : Int) ≤ 0 ∧ 0 < (ByteArray.size s2 : Int) then
              (impl_isLetter.F n (byteAt s2 0)).bind fun r5 =>
              if r5 = true then
                l0 n s2 K0 k (IntKind.i64.wrap (t3 + 1))
              else
                K0 t3
            else
              none
          else
            l0 n s2 K0 k (IntKind.i64.wrap (t3 + 1))
        else
          K0 t3
      else
        none
    else
      K0 t3
def F (n : Nat) (s1 : ByteArray) : Option Int :=
  l0 n s1 (fun t6 =>
    some t6) n 0
noncomputable def code : Code := Tryz.f150.body.getD .skip
abbrev ash : List ASh := [.ro .str]
abbrev rsh : List RSh := [.ro (.int .i64)]
def ent (n : Nat) : FEnt := ⟨ash, rsh, fun v => F n v.1⟩
noncomputable def cx (n : Nat) : Ctx := mkCtx Tryz.prog TYS [(186, impl_isWordByte.ent n), (187, impl_isLetter.ent n)]
noncomputable def d : FnD := ⟨code, 26, .nil, [(.tmp 2, .int .i64, .ro)]⟩
noncomputable def kr (n : Nat) (v : AVs ash) : Env → Option (RVs rsh) := endK (cx n) d (avEnc ash v) (rvDec rsh)
noncomputable def c0 : Code := (Code.l (Code.l (Code.r (Code.r code))))
noncomputable def b0 : Code := Code.l c0
def an : An := .seq .nil (.seq .nil (.seq (.block (some [3]) (.cut 0 [0, 3])) (.seq .nil .nil)))
def an0 : An := .seq (.seq .nil (.cond .nil .nil)) (.block (some [0, 3]) .nil)
abbrev sh0 : ES := ⟨[(0, .v .str), (3, .v (.int .i64))], []⟩
abbrev sh0_0 : ES := ⟨[(3, .v (.int .i64))], []⟩
def T0 (n m : Nat) (e : Env) (kn : Env → Option (RVs rsh)) (kx : Nat → Env → Option (RVs rsh)) : Option (RVs rsh) := ES.on sh0 e fun x => l0 n x.1.1 (fun y0 => kx 0 (sh0_0.enc ((y0, ()), (())))) m x.1.2.1
def T (n : Nat) : Tab (RVs rsh) := fun j e kn kx => match j with
  | 0 => T0 n n e kn kx
  | _ => none
theorem co (n : Nat) : CtxOk (cx n) := mkCtx_cok TYS_ok
theorem mx (n : Nat) : (cx n).P.follows .mixedOrders = true := mkCtx_mix MIX
theorem mk (n : Nat) : MOk (cx n) := mkCtx_ok (mem_cons (impl_isWordByte.ok n) (mem_cons (impl_isLetter.ok n) mem_nil))
theorem us0 : units b0 an0 = [] := by kernel_rfl
theorem e0 (n m : Nat) (v : AVs ash) (x : sh0.V) (kn : Env → Option (RVs rsh)) (kx : Nat → Env → Option (RVs rsh)) : aevT (cx n) 26 (T n) (kr n v) b0 an0 [(0, [3])] (meet (some [0, 3]) fun e => T0 n m e kn kx) kx (sh0.enc x) = l0 n x.1.1 (fun y0 => kx 0 (sh0_0.enc ((y0, ()), (())))) (m + 1) x.1.2.1 := by kernel_rfl
theorem cl0 : c0 = .loop b0 := by kernel_rfl
theorem u0 (n : Nat) (v : AVs ash) : UnitOk (cx n) 26 (T n) (kr n v) 0 c0 := by
  rw [cl0]
  exact loop_unit (n := n) (co n) (mk n) (mx n) an0 [(0, [3])] [0, 3] (T0 n) (fun _ _ _ => rfl) (fun e kn kx out h => by obtain ⟨x, _, h⟩ := ES.on_inv h; cases h) (fun m e kn kx out h => by obtain ⟨x, rfl, h⟩ := ES.on_inv h; exact (e0 n m v x kn kx).trans h) (units_of us0 (mem_nil))
theorem us : units code an = [(0, c0)] := by kernel_rfl
theorem eqn (n : Nat) (v : AVs ash) : fnEvT (cx n) d an (T n) (avEnc ash v) (rvDec rsh) = F n v.1 := by kernel_rfl
theorem ok (n : Nat) : EntOk Tryz.prog 150 (ent n) :=
  ent_ok (c := cx n) (e := ent n) (d := d) (an := an) (fn := Tryz.f150) (co n) (mk n) (mx n) (by kernel_rfl) (by kernel_rfl) (by kernel_rfl) (by kernel_rfl) (by kernel_rfl) (fun _ => T n) (fun v => units_of us (mem_cons (u0 n v) mem_nil)) (eqn n)
end impl_nameLong
/-! impl.termAt -/
namespace impl_termAt
def l1 (n : Nat) (self : ByteArray → Option (Int × Int)) (t6 : ByteArray) (K1 : Int → Option (Int × Int)) : Nat → Int → Option (Int × Int)
  | 0, _ => none
  | k + 1, t7 =>
    if (decide (t7 < (ByteArray.size t6 : Int))) = true then
      if (0 : Int) ≤ t7 ∧ t7 < (ByteArray.size t6 : Int) then
        (impl_isDigit.F n (byteAt t6 t7)).bind fun r8 =>
        if r8 = true then
          l1 n self t6 K1 k (IntKind.i64.wrap (t7 + 1))
        else
          K1 t7
      else
        none
    else
      K1 t7
def l4 (n : Nat) (self : ByteArray → Option (Int × Int)) (t18 : ByteArray) (K3 : Int → Option (Int × Int)) : Nat → Int → Bool → Option (Int × Int)
  | 0, _, _ => none
  | k + 1, t19, t20 =>
    if t20 = true then
      if (0 : Int) ≤ (IntKind.i64.wrap (t19 + 1)) ∧ (IntKind.i64.wrap (t19 + 1)) ≤ (ByteArray.size t18 : Int) ∧ (ByteArray.size t18 : Int) ≤ (ByteArray.size t18 : Int) then
        (self (ByteArray.extract t18 (Int.toNat (IntKind.i64.wrap (t19 + 1))) (Int.toNat (ByteArray.size t18 : Int)))).bind fun r21 =>
        if decide (r21.1 = 0) = true then
          some (0, 0)
        else
          if (decide ((IntKind.i64.wrap (t19 + (IntKind.i64.wrap (1 + r21.2)))) < (ByteArray.size t18 : Int))) = true then
            if (0 : Int) ≤ (IntKind.i64.wrap (t19 + (IntKind.i64.wrap (1 + r21.2)))) ∧ (IntKind.i64.wrap (t19 + (IntKind.i64.wrap (1 + r21.2)))) < (ByteArray.size t18 : Int) then
              l4 n self t18 K3 k (IntKind.i64.wrap (t19 + (IntKind.i64.wrap (1 + r21.2)))) (decide ((byteAt t18 (IntKind.i64.wrap (t19 + (IntKind.i64.wrap (1 + r21.2))))) = 44))
            else
              none
          else
            l4 n self t18 K3 k (IntKind.i64.wrap (t19 + (IntKind.i64.wrap (1 + r21.2)))) false
      else
        none
    else
      K3 t19
def j3 (n : Nat) (self : ByteArray → Option (Int × Int)) (t16 : ByteArray) (t17 : Int) (Kn : Unit → Option (Int × Int)) : Option (Int × Int) :=
  l4 n self t16 (fun t22 =>
    if (decide (t22 < (ByteArray.size t16 : Int))) = true then
      if (0 : Int) ≤ t22 ∧ t22 < (ByteArray.size t16 : Int) then
        if decide ((byteAt t16 t22) = 41) = true then
          some (3, IntKind.i64.wrap (t22 + 1))
        else
          Kn ()
      else
        none
    else
      Kn ()) n t17 true
def j2 (n : Nat) (self : ByteArray → Option (Int × Int)) (t13 : ByteArray) (t14 : Bool) (Kn : Unit → Option (Int × Int)) : Option (Int × Int) :=
  if t14 = true then
    (impl_nameLong.F n t13).bind fun r15 =>
    if decide (r15 > 20) = true then
      some (0, 0)
    else
      if (decide (r15 = (ByteArray.size t13 : Int))) = false then
        if (0 : Int) ≤ r15 ∧ r15 < (ByteArray.size t13 : Int) then
          if (!decide ((byteAt t13 r15) = 40)) = true then
            some (3, r15)
          else
            j3 n self t13 r15 (fun _ =>
              Kn ())
        else
          none
      else
        some (3, r15)
  else
    Kn ()
def j0 (n : Nat) (self : ByteArray → Option (Int × Int)) (t4 : ByteArray) (t5 : Bool) (Kn : Unit → Option (Int × Int)) : Option (Int × Int) :=
  if t5 = true then
    l1 n self t4 (fun t9 =>
      if (0 : Int) ≤ 0 ∧ (0 : Int) ≤ t9 ∧ t9 ≤ (ByteArray.size t4 : Int) then
        (strconv_Atoi.F n (ByteArray.extract t4 (Int.toNat 0) (Int.toNat t9))).bind fun r10 =>
        if (r10.2 && false) = true then
          none
        else
          if (r10.2 == false) = true then
            (impl_in.F n r10.1 (-1000000) 1000000).bind fun r11 =>
            if r11 = true then
              (strconv_Itoa.F n r10.1).bind fun r12 =>
              if (0 : Int) ≤ 0 ∧ (0 : Int) ≤ t9 ∧ t9 ≤ (ByteArray.size t4 : Int) then
                if (Abs.seq r12 (ByteArray.extract t4 (Int.toNat 0) (Int.toNat t9))) = true then
                  some (1, t9)
                else
                  Kn ()
              else
                none
            else
              Kn ()
          else
            Kn ()
      else
        none) n 1
  else
    if (0 : Int) ≤ 0 ∧ 0 < (ByteArray.size t4 : Int) then
      if (decide ((byteAt t4 0) ≥ 65)) = true then
        if (0 : Int) ≤ 0 ∧ 0 < (ByteArray.size t4 : Int) then
          j2 n self t4 (decide ((byteAt t4 0) ≤ 90)) (fun _ =>
            Kn ())
        else
          none
      else
        j2 n self t4 false (fun _ =>
          Kn ())
    else
      none
def G (n : Nat) (self : ByteArray → Option (Int × Int)) (t1 : ByteArray) : Option (Int × Int) :=
  if (Abs.seq t1 ByteArray.empty) = true then
    some (0, 0)
  else
    if (0 : Int) ≤ 0 ∧ 0 < (ByteArray.size t1 : Int) then
      if decide ((byteAt t1 0) = 34) = true then
        (impl_symbolLong.F n t1).bind fun r2 =>
        if decide (r2 > 0) = true then
          some (2, r2)
        else
          some (0, 0)
      else
        if (0 : Int) ≤ 0 ∧ 0 < (ByteArray.size t1 : Int) then
          if (decide ((byteAt t1 0) = 45)) = false then
            if (0 : Int) ≤ 0 ∧ 0 < (ByteArray.size t1 : Int) then
              (impl_isDigit.F n (byteAt t1 0)).bind fun r3 =>
              j0 n self t1 r3 (fun _ =>
                some (0, 0))
            else
              none
          else
            j0 n self t1 true (fun _ =>
              some (0, 0))
        else
          none
    else
      none
def F : Nat → ByteArray → Option (Int × Int)
  | 0 => fun _ => none
  | n + 1 => G n (F n)
noncomputable def code : Code := Tryz.f127.body.getD .skip
abbrev ash : List ASh := [.ro .str]
abbrev rsh : List RSh := [.ro (.int .i64), .ro (.int .i64)]
def ent (n : Nat) : FEnt := ⟨ash, rsh, fun v => F n v.1⟩
noncomputable def cx (n : Nat) : Ctx := mkCtx Tryz.prog TYS [(69, impl_in.ent n), (82, strconv_Itoa.ent n), (128, strconv_Atoi.ent n), (148, impl_symbolLong.ent n), (149, impl_isDigit.ent n), (150, impl_nameLong.ent n), (127, ent n)]
noncomputable def d : FnD := ⟨code, 127, .nil, [(.tmp 2, .int .i64, .ro), (.tmp 3, .int .i64, .ro)]⟩
noncomputable def kr (n : Nat) (v : AVs ash) : Env → Option (RVs rsh) := endK (cx n) d (avEnc ash v) (rvDec rsh)
noncomputable def c1 : Code := (Code.l (Code.l (Code.r (Code.l (Code.r (Code.r (Code.r (Code.l (Code.l (Code.r (Code.r code)))))))))))
noncomputable def b1 : Code := Code.l c1
noncomputable def c4 : Code := (Code.l (Code.r (Code.l (Code.r (Code.r (Code.r (Code.l (Code.r (Code.r (Code.r (Code.r (Code.r (Code.l (Code.l (Code.r (Code.r code))))))))))))))))
noncomputable def b4 : Code := Code.l c4
noncomputable def c3 : Code := (Code.r (Code.r (Code.r (Code.l (Code.r (Code.r (Code.r (Code.r (Code.r (Code.l (Code.l (Code.r (Code.r code)))))))))))))
noncomputable def c2 : Code := (Code.r (Code.r (Code.r (Code.r (Code.r (Code.l (Code.l (Code.r (Code.r code)))))))))
noncomputable def c0 : Code := (Code.r (Code.r (Code.r (Code.l (Code.l (Code.r (Code.r code)))))))
def an : An := .seq .nil (.seq (.seq .nil (.cond (.seq .nil .nil) .nil)) (.seq (.block (some []) (.seq .nil (.cond (.seq .nil (.seq .nil (.cond (.seq .nil .nil) .nil))) (.seq .nil (.cut 0 [0, 23]))))) (.seq .nil .nil)))
def an1 : An := .seq (.seq .nil (.cond .nil .nil)) (.block (some [0, 5]) .nil)
abbrev sh1 : ES := ⟨[(0, .v .str), (5, .v (.int .i64))], []⟩
abbrev sh1_1 : ES := ⟨[(0, .v .str), (5, .v (.int .i64))], []⟩
def an4 : An := .seq (.seq .nil (.cond .nil .nil)) (.seq (.block (some [0, 8]) (.seq .nil (.seq (.seq .nil (.cond (.seq .nil .nil) .nil)) .nil))) .nil)
abbrev sh4 : ES := ⟨[(0, .v .str), (8, .v (.int .i64)), (9, .v .bool)], []⟩
abbrev sh4_3 : ES := ⟨[(0, .v .str), (8, .v (.int .i64))], []⟩
def an3 : An := .seq (.seq .nil (.block (some [0, 8]) (.cut 4 [0, 8, 9]))) (.seq .nil (.cond (.seq .nil .nil) .nil))
abbrev sh3 : ES := ⟨[(0, .v .str), (8, .v (.int .i64))], []⟩
abbrev sh3_n : ES := ⟨[], []⟩
def an2 : An := .cond (.seq .nil (.seq (.seq .nil (.cond (.seq .nil .nil) .nil)) (.seq (.seq .nil (.cond (.seq .nil .nil) .nil)) (.cut 3 [0, 8])))) .nil
abbrev sh2 : ES := ⟨[(0, .v .str), (66, .v .bool)], []⟩
abbrev sh2_n : ES := ⟨[], []⟩
def an0 : An := .cond (.seq .nil (.seq (.block (some [0, 5]) (.cut 1 [0, 5])) (.seq .nil (.seq .nil (.cond (.seq .nil .nil) .nil))))) (.seq .nil (.cut 2 [0, 66]))
abbrev sh0 : ES := ⟨[(0, .v .str), (23, .v .bool)], []⟩
abbrev sh0_n : ES := ⟨[], []⟩
def T1 (n m : Nat) (e : Env) (kn : Env → Option (RVs rsh)) (kx : Nat → Env → Option (RVs rsh)) : Option (RVs rsh) := ES.on sh1 e fun x => l1 n (F n) x.1.1 (fun y0 => kx 1 (sh1_1.enc ((x.1.1, y0, ()), (())))) m x.1.2.1
def T4 (n m : Nat) (e : Env) (kn : Env → Option (RVs rsh)) (kx : Nat → Env → Option (RVs rsh)) : Option (RVs rsh) := ES.on sh4 e fun x => l4 n (F n) x.1.1 (fun y0 => kx 3 (sh4_3.enc ((x.1.1, y0, ()), (())))) m x.1.2.1 x.1.2.2.1
def T3 (n m : Nat) (e : Env) (kn : Env → Option (RVs rsh)) (kx : Nat → Env → Option (RVs rsh)) : Option (RVs rsh) := ES.on sh3 e fun x => j3 n (F n) x.1.1 x.1.2.1 (fun _ => kn (sh3_n.enc ((()), (()))))
def T2 (n m : Nat) (e : Env) (kn : Env → Option (RVs rsh)) (kx : Nat → Env → Option (RVs rsh)) : Option (RVs rsh) := ES.on sh2 e fun x => j2 n (F n) x.1.1 x.1.2.1 (fun _ => kn (sh2_n.enc ((()), (()))))
def T0 (n m : Nat) (e : Env) (kn : Env → Option (RVs rsh)) (kx : Nat → Env → Option (RVs rsh)) : Option (RVs rsh) := ES.on sh0 e fun x => j0 n (F n) x.1.1 x.1.2.1 (fun _ => kn (sh0_n.enc ((()), (()))))
def T (n : Nat) : Tab (RVs rsh) := fun j e kn kx => match j with
  | 1 => T1 n n e kn kx
  | 4 => T4 n n e kn kx
  | 3 => T3 n n e kn kx
  | 2 => T2 n n e kn kx
  | 0 => T0 n n e kn kx
  | _ => none
theorem co (n : Nat) : CtxOk (cx n) := mkCtx_cok TYS_ok
theorem mx (n : Nat) : (cx n).P.follows .mixedOrders = true := mkCtx_mix MIX
theorem mk (n : Nat) (ih : EntOk Tryz.prog 127 (ent n)) : MOk (cx n) := mkCtx_ok (mem_cons (impl_in.ok n) (mem_cons (strconv_Itoa.ok n) (mem_cons (strconv_Atoi.ok n) (mem_cons (impl_symbolLong.ok n) (mem_cons (impl_isDigit.ok n) (mem_cons (impl_nameLong.ok n) (mem_cons ih mem_nil)))))))
theorem us1 : units b1 an1 = [] := by kernel_rfl
theorem e1 (n m : Nat) (v : AVs ash) (x : sh1.V) (kn : Env → Option (RVs rsh)) (kx : Nat → Env → Option (RVs rsh)) : aevT (cx n) 127 (T n) (kr n v) b1 an1 [(0, []), (1, [0, 5])] (meet (some [0, 5]) fun e => T1 n m e kn kx) kx (sh1.enc x) = l1 n (F n) x.1.1 (fun y0 => kx 1 (sh1_1.enc ((x.1.1, y0, ()), (())))) (m + 1) x.1.2.1 := by kernel_rfl
theorem cl1 : c1 = .loop b1 := by kernel_rfl
theorem u1 (n : Nat) (v : AVs ash) (ih : EntOk Tryz.prog 127 (ent n)) : UnitOk (cx n) 127 (T n) (kr n v) 1 c1 := by
  rw [cl1]
  exact loop_unit (n := n) (co n) (mk n ih) (mx n) an1 [(0, []), (1, [0, 5])] [0, 5] (T1 n) (fun _ _ _ => rfl) (fun e kn kx out h => by obtain ⟨x, _, h⟩ := ES.on_inv h; cases h) (fun m e kn kx out h => by obtain ⟨x, rfl, h⟩ := ES.on_inv h; exact (e1 n m v x kn kx).trans h) (units_of us1 (mem_nil))
theorem us4 : units b4 an4 = [] := by kernel_rfl
theorem e4 (n m : Nat) (v : AVs ash) (x : sh4.V) (kn : Env → Option (RVs rsh)) (kx : Nat → Env → Option (RVs rsh)) : aevT (cx n) 127 (T n) (kr n v) b4 an4 [(0, []), (3, [0, 8])] (meet (some [0, 8, 9]) fun e => T4 n m e kn kx) kx (sh4.enc x) = l4 n (F n) x.1.1 (fun y0 => kx 3 (sh4_3.enc ((x.1.1, y0, ()), (())))) (m + 1) x.1.2.1 x.1.2.2.1 := by kernel_rfl
theorem cl4 : c4 = .loop b4 := by kernel_rfl
theorem u4 (n : Nat) (v : AVs ash) (ih : EntOk Tryz.prog 127 (ent n)) : UnitOk (cx n) 127 (T n) (kr n v) 4 c4 := by
  rw [cl4]
  exact loop_unit (n := n) (co n) (mk n ih) (mx n) an4 [(0, []), (3, [0, 8])] [0, 8, 9] (T4 n) (fun _ _ _ => rfl) (fun e kn kx out h => by obtain ⟨x, _, h⟩ := ES.on_inv h; cases h) (fun m e kn kx out h => by obtain ⟨x, rfl, h⟩ := ES.on_inv h; exact (e4 n m v x kn kx).trans h) (units_of us4 (mem_nil))
theorem us3 : units c3 an3 = [(4, c4)] := by kernel_rfl
theorem e3 (n m : Nat) (v : AVs ash) (x : sh3.V) (kn : Env → Option (RVs rsh)) (kx : Nat → Env → Option (RVs rsh)) : aevT (cx n) 127 (T n) (kr n v) c3 an3 [(0, [])] (meet (some []) kn) kx (sh3.enc x) = j3 n (F n) x.1.1 x.1.2.1 (fun _ => kn (sh3_n.enc ((()), (())))) := by kernel_rfl
theorem u3 (n : Nat) (v : AVs ash) (ih : EntOk Tryz.prog 127 (ent n)) : UnitOk (cx n) 127 (T n) (kr n v) 3 c3 :=
  join_unit (co n) (mk n ih) (mx n) an3 [(0, [])] (some []) (fun e kn kx out h => by obtain ⟨x, rfl, h⟩ := ES.on_inv (show T3 n n e kn kx = some out from h); exact (e3 n n v x kn kx).trans h) (units_of us3 (mem_cons (u4 n v ih) mem_nil))
theorem us2 : units c2 an2 = [(3, c3)] := by kernel_rfl
theorem e2 (n m : Nat) (v : AVs ash) (x : sh2.V) (kn : Env → Option (RVs rsh)) (kx : Nat → Env → Option (RVs rsh)) : aevT (cx n) 127 (T n) (kr n v) c2 an2 [(0, [])] (meet (some []) kn) kx (sh2.enc x) = j2 n (F n) x.1.1 x.1.2.1 (fun _ => kn (sh2_n.enc ((()), (())))) := by kernel_rfl
theorem u2 (n : Nat) (v : AVs ash) (ih : EntOk Tryz.prog 127 (ent n)) : UnitOk (cx n) 127 (T n) (kr n v) 2 c2 :=
  join_unit (co n) (mk n ih) (mx n) an2 [(0, [])] (some []) (fun e kn kx out h => by obtain ⟨x, rfl, h⟩ := ES.on_inv (show T2 n n e kn kx = some out from h); exact (e2 n n v x kn kx).trans h) (units_of us2 (mem_cons (u3 n v ih) mem_nil))
theorem us0 : units c0 an0 = [(1, c1), (2, c2)] := by kernel_rfl
theorem e0 (n m : Nat) (v : AVs ash) (x : sh0.V) (kn : Env → Option (RVs rsh)) (kx : Nat → Env → Option (RVs rsh)) : aevT (cx n) 127 (T n) (kr n v) c0 an0 [(0, [])] (meet (some []) kn) kx (sh0.enc x) = j0 n (F n) x.1.1 x.1.2.1 (fun _ => kn (sh0_n.enc ((()), (())))) := by kernel_rfl
theorem u0 (n : Nat) (v : AVs ash) (ih : EntOk Tryz.prog 127 (ent n)) : UnitOk (cx n) 127 (T n) (kr n v) 0 c0 :=
  join_unit (co n) (mk n ih) (mx n) an0 [(0, [])] (some []) (fun e kn kx out h => by obtain ⟨x, rfl, h⟩ := ES.on_inv (show T0 n n e kn kx = some out from h); exact (e0 n n v x kn kx).trans h) (units_of us0 (mem_cons (u1 n v ih) (mem_cons (u2 n v ih) mem_nil)))
theorem us : units code an = [(0, c0)] := by kernel_rfl
theorem eqn (n : Nat) (v : AVs ash) : fnEvT (cx n) d an (T n) (avEnc ash v) (rvDec rsh) = F (n + 1) v.1 := by kernel_rfl
theorem ok : (n : Nat) → EntOk Tryz.prog 127 (ent n)
  | 0 => ent_none Tryz.f127 (by kernel_rfl) (by kernel_rfl) (by kernel_rfl) (fun _ => rfl)
  | n + 1 => have ih := ok n
    ent_ok (c := cx n) (e := ent (n + 1)) (d := d) (an := an) (fn := Tryz.f127) (co n) (mk n ih) (mx n) (by kernel_rfl) (by kernel_rfl) (by kernel_rfl) (by kernel_rfl) (by kernel_rfl) (fun _ => T n) (fun v => units_of us (mem_cons (u0 n v ih) mem_nil)) (eqn n)
end impl_termAt
/-! impl.kindOf -/
namespace impl_kindOf
def F (n : Nat) (s1 : ByteArray) : Option Int :=
  (impl_termAt.F n s1).bind fun r2 =>
  if (decide ((ByteArray.size s1 : Int) > 200)) = false then
    if (!decide (r2.2 = (ByteArray.size s1 : Int))) = true then
      some 0
    else
      some r2.1
  else
    some 0
noncomputable def code : Code := Tryz.f95.body.getD .skip
abbrev ash : List ASh := [.ro .str]
abbrev rsh : List RSh := [.ro (.int .i64)]
def ent (n : Nat) : FEnt := ⟨ash, rsh, fun v => F n v.1⟩
noncomputable def cx (n : Nat) : Ctx := mkCtx Tryz.prog TYS [(127, impl_termAt.ent n)]
noncomputable def d : FnD := ⟨code, 20, .nil, [(.tmp 2, .int .i64, .ro)]⟩
noncomputable def kr (n : Nat) (v : AVs ash) : Env → Option (RVs rsh) := endK (cx n) d (avEnc ash v) (rvDec rsh)
def an : An := .seq .nil (.seq .nil (.seq (.seq .nil (.cond (.seq .nil .nil) .nil)) (.seq .nil .nil)))
def T (n : Nat) : Tab (RVs rsh) := fun j e kn kx => match j with
  | _ => none
theorem co (n : Nat) : CtxOk (cx n) := mkCtx_cok TYS_ok
theorem mx (n : Nat) : (cx n).P.follows .mixedOrders = true := mkCtx_mix MIX
theorem mk (n : Nat) : MOk (cx n) := mkCtx_ok (mem_cons (impl_termAt.ok n) mem_nil)
theorem us : units code an = [] := by kernel_rfl
theorem eqn (n : Nat) (v : AVs ash) : fnEvT (cx n) d an (T n) (avEnc ash v) (rvDec rsh) = F n v.1 := by kernel_rfl
theorem ok (n : Nat) : EntOk Tryz.prog 95 (ent n) :=
  ent_ok (c := cx n) (e := ent n) (d := d) (an := an) (fn := Tryz.f95) (co n) (mk n) (mx n) (by kernel_rfl) (by kernel_rfl) (by kernel_rfl) (by kernel_rfl) (by kernel_rfl) (fun _ => T n) (fun v => units_of us (mem_nil)) (eqn n)
end impl_kindOf
/-! impl.isTuple$1 -/
namespace impl_isTuple_1
def F (n : Nat) (s1 : ByteArray) : Option Bool :=
  (impl_kindOf.F n s1).bind fun r2 =>
  some (decide (r2 = 0))
noncomputable def code : Code := Tryz.f137.body.getD .skip
abbrev ash : List ASh := [.ro .str]
abbrev rsh : List RSh := [.ro .bool]
def ent (n : Nat) : FEnt := ⟨ash, rsh, fun v => F n v.1⟩
noncomputable def cx (n : Nat) : Ctx := mkCtx Tryz.prog TYS [(95, impl_kindOf.ent n)]
noncomputable def d : FnD := ⟨code, 6, .nil, [(.tmp 2, .bool, .ro)]⟩
noncomputable def kr (n : Nat) (v : AVs ash) : Env → Option (RVs rsh) := endK (cx n) d (avEnc ash v) (rvDec rsh)
def an : An := .seq .nil (.seq .nil .nil)
def T (n : Nat) : Tab (RVs rsh) := fun j e kn kx => match j with
  | _ => none
theorem co (n : Nat) : CtxOk (cx n) := mkCtx_cok TYS_ok
theorem mx (n : Nat) : (cx n).P.follows .mixedOrders = true := mkCtx_mix MIX
theorem mk (n : Nat) : MOk (cx n) := mkCtx_ok (mem_cons (impl_kindOf.ok n) mem_nil)
theorem us : units code an = [] := by kernel_rfl
theorem eqn (n : Nat) (v : AVs ash) : fnEvT (cx n) d an (T n) (avEnc ash v) (rvDec rsh) = F n v.1 := by kernel_rfl
theorem ok (n : Nat) : EntOk Tryz.prog 137 (ent n) :=
  ent_ok (c := cx n) (e := ent n) (d := d) (an := an) (fn := Tryz.f137) (co n) (mk n) (mx n) (by kernel_rfl) (by kernel_rfl) (by kernel_rfl) (by kernel_rfl) (by kernel_rfl) (fun _ => T n) (fun v => units_of us (mem_nil)) (eqn n)
end impl_isTuple_1
/-! impl.isTuple -/
namespace impl_isTuple
def F (n : Nat) (t1 : List ByteArray) : Option Bool :=
  if (decide ((List.length t1 : Int) ≤ 6)) = true then
    (slices_ContainsFunc_string_string.F n t1 (fun a2 => (impl_isTuple_1.F n a2.1).bind some)).bind fun r3 =>
    some (!r3)
  else
    some false
noncomputable def code : Code := Tryz.f108.body.getD .skip
abbrev ash : List ASh := [.ro (.st (.sl (.str)))]
abbrev rsh : List RSh := [.ro .bool]
def ent (n : Nat) : FEnt := ⟨ash, rsh, fun v => F n v.1⟩
noncomputable def cx (n : Nat) : Ctx := mkCtx Tryz.prog TYS [(136, slices_ContainsFunc_string_string.ent n), (137, impl_isTuple_1.ent n)]
noncomputable def d : FnD := ⟨code, 13, .nil, [(.tmp 2, .bool, .ro)]⟩
noncomputable def kr (n : Nat) (v : AVs ash) : Env → Option (RVs rsh) := endK (cx n) d (avEnc ash v) (rvDec rsh)
def an : An := .seq .nil (.seq .nil .nil)
def T (n : Nat) : Tab (RVs rsh) := fun j e kn kx => match j with
  | _ => none
theorem co (n : Nat) : CtxOk (cx n) := mkCtx_cok TYS_ok
theorem mx (n : Nat) : (cx n).P.follows .mixedOrders = true := mkCtx_mix MIX
theorem mk (n : Nat) : MOk (cx n) := mkCtx_ok (mem_cons (slices_ContainsFunc_string_string.ok n) (mem_cons (impl_isTuple_1.ok n) mem_nil))
theorem us : units code an = [] := by kernel_rfl
theorem eqn (n : Nat) (v : AVs ash) : fnEvT (cx n) d an (T n) (avEnc ash v) (rvDec rsh) = F n v.1 := by kernel_rfl
theorem ok (n : Nat) : EntOk Tryz.prog 108 (ent n) :=
  ent_ok (c := cx n) (e := ent n) (d := d) (an := an) (fn := Tryz.f108) (co n) (mk n) (mx n) (by kernel_rfl) (by kernel_rfl) (by kernel_rfl) (by kernel_rfl) (by kernel_rfl) (fun _ => T n) (fun v => units_of us (mem_nil)) (eqn n)
end impl_isTuple
/-! slices.CompareFunc[[]string,[]string,string,string] -/
namespace slices_CompareFunc_string_string_string_string
def l0 (n : Nat) (s14 : List ByteArray) (s25 : List ByteArray) (cmp6 : (ByteArray × ByteArray × Unit) → Option Int) (t7 : List ByteArray) (t8 : Int) (K0 : Unit → Option Int) : Nat → Int → Option Int
  | 0, _ => none
  | k + 1, t9 =>
    if decide (t9 < t8) = true then
      if (0 : Int) ≤ t9 ∧ t9 < (List.length t7 : Int) then
        if decide (t9 ≥ (List.length s25 : Int)) = true then
          some 1
        else
          if (0 : Int) ≤ t9 ∧ t9 < (List.length s25 : Int) then
            (cmp6 (List.getD t7 (Int.toNat t9) ByteArray.empty, List.getD s25 (Int.toNat t9) ByteArray.empty, ())).bind fun r10 =>
            if (!decide (r10 = 0)) = true then
              some r10
            else
              l0 n s14 s25 cmp6 t7 t8 K0 k (IntKind.i64.wrap (t9 + 1))
          else
            none
      else
        none
    else
      K0 ()
def F (n : Nat) (s11 : List ByteArray) (s22 : List ByteArray) (cmp3 : (ByteArray × ByteArray × Unit) → Option Int) : Option Int :=
  l0 n s11 s22 cmp3 s11 (List.length s11 : Int) (fun _ =>
    if decide ((List.length s11 : Int) < (List.length s22 : Int)) = true then
      some (-1)
    else
      some 0) n 0
noncomputable def code : Code := Tryz.f121.body.getD .skip
abbrev ash : List ASh := [.ro (.sl (.str)), .ro (.sl (.str)), .fn [.str, .str] (.int .i64)]
abbrev rsh : List RSh := [.ro (.int .i64)]
def ent (n : Nat) : FEnt := ⟨ash, rsh, fun v => F n v.1 v.2.1 v.2.2.1⟩
noncomputable def cx (n : Nat) : Ctx := mkCtx Tryz.prog TYS []
noncomputable def d : FnD := ⟨code, 39, .nil, [(.tmp 6, .int .i64, .ro)]⟩
noncomputable def kr (n : Nat) (v : AVs ash) : Env → Option (RVs rsh) := endK (cx n) d (avEnc ash v) (rvDec rsh)
noncomputable def c0 : Code := (Code.l (Code.r (Code.l (Code.r code))))
noncomputable def b0 : Code := Code.l c0
def an : An := .seq .nil (.seq (.seq .nil (.block (some [0, 1]) (.cut 0 [0, 1, 2, 11, 12, 13]))) (.seq (.seq .nil (.cond (.seq .nil .nil) .nil)) (.seq .nil .nil)))
def an0 : An := .seq .nil (.seq (.cond .nil .nil) (.seq (.block (some [0, 1, 2, 11, 12, 13]) (.seq .nil (.seq (.seq .nil (.cond (.seq .nil .nil) .nil)) (.seq .nil (.seq .nil (.seq .nil (.cond (.seq .nil .nil) .nil))))))) .nil))
abbrev sh0 : ES := ⟨[(0, .v (.sl (.str))), (1, .v (.sl (.str))), (2, .clo [.str, .str] (.int .i64)), (11, .v (.sl (.str))), (12, .v (.int .i64)), (13, .v (.int .i64))], []⟩
abbrev sh0_0 : ES := ⟨[(0, .v (.sl (.str))), (1, .v (.sl (.str)))], []⟩
def T0 (n m : Nat) (e : Env) (kn : Env → Option (RVs rsh)) (kx : Nat → Env → Option (RVs rsh)) : Option (RVs rsh) := ES.on sh0 e fun x => l0 n x.1.1 x.1.2.1 x.1.2.2.1 x.1.2.2.2.1 x.1.2.2.2.2.1 (fun _ => kx 0 (sh0_0.enc ((x.1.1, x.1.2.1, ()), (())))) m x.1.2.2.2.2.2.1
def T (n : Nat) : Tab (RVs rsh) := fun j e kn kx => match j with
  | 0 => T0 n n e kn kx
  | _ => none
theorem co (n : Nat) : CtxOk (cx n) := mkCtx_cok TYS_ok
theorem mx (n : Nat) : (cx n).P.follows .mixedOrders = true := mkCtx_mix MIX
theorem mk (n : Nat) : MOk (cx n) := mkCtx_ok (mem_nil)
theorem us0 : units b0 an0 = [] := by kernel_rfl
theorem e0 (n m : Nat) (v : AVs ash) (x : sh0.V) (kn : Env → Option (RVs rsh)) (kx : Nat → Env → Option (RVs rsh)) : aevT (cx n) 39 (T n) (kr n v) b0 an0 [(0, [0, 1])] (meet (some [0, 1, 2, 11, 12, 13]) fun e => T0 n m e kn kx) kx (sh0.enc x) = l0 n x.1.1 x.1.2.1 x.1.2.2.1 x.1.2.2.2.1 x.1.2.2.2.2.1 (fun _ => kx 0 (sh0_0.enc ((x.1.1, x.1.2.1, ()), (())))) (m + 1) x.1.2.2.2.2.2.1 := by kernel_rfl
theorem cl0 : c0 = .loop b0 := by kernel_rfl
theorem u0 (n : Nat) (v : AVs ash) : UnitOk (cx n) 39 (T n) (kr n v) 0 c0 := by
  rw [cl0]
  exact loop_unit (n := n) (co n) (mk n) (mx n) an0 [(0, [0, 1])] [0, 1, 2, 11, 12, 13] (T0 n) (fun _ _ _ => rfl) (fun e kn kx out h => by obtain ⟨x, _, h⟩ := ES.on_inv h; cases h) (fun m e kn kx out h => by obtain ⟨x, rfl, h⟩ := ES.on_inv h; exact (e0 n m v x kn kx).trans h) (units_of us0 (mem_nil))
theorem us : units code an = [(0, c0)] := by kernel_rfl
theorem eqn (n : Nat) (v : AVs ash) : fnEvT (cx n) d an (T n) (avEnc ash v) (rvDec rsh) = F n v.1 v.2.1 v.2.2.1 := by kernel_rfl
theorem ok (n : Nat) : EntOk Tryz.prog 121 (ent n) :=
  ent_ok (c := cx n) (e := ent n) (d := d) (an := an) (fn := Tryz.f121) (co n) (mk n) (mx n) (by kernel_rfl) (by kernel_rfl) (by kernel_rfl) (by kernel_rfl) (by kernel_rfl) (fun _ => T n) (fun v => units_of us (mem_cons (u0 n v) mem_nil)) (eqn n)
end slices_CompareFunc_string_string_string_string
/-! cmp.isNaN[int] -/
namespace cmp_isNaN_int
def F (n : Nat) (x1 : Int) : Option Bool :=
  some (!decide (x1 = x1))
noncomputable def code : Code := Tryz.f170.body.getD .skip
abbrev ash : List ASh := [.ro (.int .i64)]
abbrev rsh : List RSh := [.ro .bool]
def ent (n : Nat) : FEnt := ⟨ash, rsh, fun v => F n v.1⟩
noncomputable def cx (n : Nat) : Ctx := mkCtx Tryz.prog TYS []
noncomputable def d : FnD := ⟨code, 6, .nil, [(.tmp 2, .bool, .ro)]⟩
noncomputable def kr (n : Nat) (v : AVs ash) : Env → Option (RVs rsh) := endK (cx n) d (avEnc ash v) (rvDec rsh)
def an : An := .seq .nil (.seq .nil .nil)
def T (n : Nat) : Tab (RVs rsh) := fun j e kn kx => match j with
  | _ => none
theorem co (n : Nat) : CtxOk (cx n) := mkCtx_cok TYS_ok
theorem mx (n : Nat) : (cx n).P.follows .mixedOrders = true := mkCtx_mix MIX
theorem mk (n : Nat) : MOk (cx n) := mkCtx_ok (mem_nil)
theorem us : units code an = [] := by kernel_rfl
theorem eqn (n : Nat) (v : AVs ash) : fnEvT (cx n) d an (T n) (avEnc ash v) (rvDec rsh) = F n v.1 := by kernel_rfl
theorem ok (n : Nat) : EntOk Tryz.prog 170 (ent n) :=
  ent_ok (c := cx n) (e := ent n) (d := d) (an := an) (fn := Tryz.f170) (co n) (mk n) (mx n) (by kernel_rfl) (by kernel_rfl) (by kernel_rfl) (by kernel_rfl) (by kernel_rfl) (fun _ => T n) (fun v => units_of us (mem_nil)) (eqn n)
end cmp_isNaN_int
/-! cmp.Compare[int] -/
namespace cmp_Compare_int
def F (n : Nat) (x1 : Int) (y2 : Int) : Option Int :=
  (cmp_isNaN_int.F n x1).bind fun r3 =>
  (cmp_isNaN_int.F n y2).bind fun r4 =>
  if r3 = true then
    if r4 = true then
      some 0
    else
      some (-1)
  else
    if r4 = true then
      some 1
    else
      if decide (x1 < y2) = true then
        some (-1)
      else
        if decide (x1 > y2) = true then
          some 1
        else
          some 0
noncomputable def code : Code := Tryz.f142.body.getD .skip
abbrev ash : List ASh := [.ro (.int .i64), .ro (.int .i64)]
abbrev rsh : List RSh := [.ro (.int .i64)]
def ent (n : Nat) : FEnt := ⟨ash, rsh, fun v => F n v.1 v.2.1⟩
noncomputable def cx (n : Nat) : Ctx := mkCtx Tryz.prog TYS [(170, cmp_isNaN_int.ent n)]
noncomputable def d : FnD := ⟨code, 20, .nil, [(.tmp 4, .int .i64, .ro)]⟩
noncomputable def kr (n : Nat) (v : AVs ash) : Env → Option (RVs rsh) := endK (cx n) d (avEnc ash v) (rvDec rsh)
def an : An := .seq .nil (.seq .nil (.seq .nil (.seq (.seq .nil (.cond (.seq (.seq .nil (.cond (.seq .nil .nil) .nil)) (.seq .nil .nil)) .nil)) (.seq (.seq .nil (.cond (.seq .nil .nil) .nil)) (.seq (.seq .nil (.cond (.seq .nil .nil) .nil)) (.seq (.seq .nil (.cond (.seq .nil .nil) .nil)) (.seq .nil .nil)))))))
def T (n : Nat) : Tab (RVs rsh) := fun j e kn kx => match j with
  | _ => none
theorem co (n : Nat) : CtxOk (cx n) := mkCtx_cok TYS_ok
theorem mx (n : Nat) : (cx n).P.follows .mixedOrders = true := mkCtx_mix MIX
theorem mk (n : Nat) : MOk (cx n) := mkCtx_ok (mem_cons (cmp_isNaN_int.ok n) mem_nil)
theorem us : units code an = [] := by kernel_rfl
theorem eqn (n : Nat) (v : AVs ash) : fnEvT (cx n) d an (T n) (avEnc ash v) (rvDec rsh) = F n v.1 v.2.1 := by kernel_rfl
theorem ok (n : Nat) : EntOk Tryz.prog 142 (ent n) :=
  ent_ok (c := cx n) (e := ent n) (d := d) (an := an) (fn := Tryz.f142) (co n) (mk n) (mx n) (by kernel_rfl) (by kernel_rfl) (by kernel_rfl) (by kernel_rfl) (by kernel_rfl) (fun _ => T n) (fun v => units_of us (mem_nil)) (eqn n)
end cmp_Compare_int
/-! impl.numOf -/
namespace impl_numOf
def F (n : Nat) (s1 : ByteArray) : Option Int :=
  (strconv_Atoi.F n s1).bind fun r2 =>
  some r2.1
noncomputable def code : Code := Tryz.f96.body.getD .skip
abbrev ash : List ASh := [.ro .str]
abbrev rsh : List RSh := [.ro (.int .i64)]
def ent (n : Nat) : FEnt := ⟨ash, rsh, fun v => F n v.1⟩
noncomputable def cx (n : Nat) : Ctx := mkCtx Tryz.prog TYS [(128, strconv_Atoi.ent n)]
noncomputable def d : FnD := ⟨code, 11, .nil, [(.tmp 2, .int .i64, .ro)]⟩
noncomputable def kr (n : Nat) (v : AVs ash) : Env → Option (RVs rsh) := endK (cx n) d (avEnc ash v) (rvDec rsh)
def an : An := .seq .nil (.seq .nil (.seq .nil .nil))
def T (n : Nat) : Tab (RVs rsh) := fun j e kn kx => match j with
  | _ => none
theorem co (n : Nat) : CtxOk (cx n) := mkCtx_cok TYS_ok
theorem mx (n : Nat) : (cx n).P.follows .mixedOrders = true := mkCtx_mix MIX
theorem mk (n : Nat) : MOk (cx n) := mkCtx_ok (mem_cons (strconv_Atoi.ok n) mem_nil)
theorem us : units code an = [] := by kernel_rfl
theorem eqn (n : Nat) (v : AVs ash) : fnEvT (cx n) d an (T n) (avEnc ash v) (rvDec rsh) = F n v.1 := by kernel_rfl
theorem ok (n : Nat) : EntOk Tryz.prog 96 (ent n) :=
  ent_ok (c := cx n) (e := ent n) (d := d) (an := an) (fn := Tryz.f96) (co n) (mk n) (mx n) (by kernel_rfl) (by kernel_rfl) (by kernel_rfl) (by kernel_rfl) (by kernel_rfl) (fun _ => T n) (fun v => units_of us (mem_nil)) (eqn n)
end impl_numOf
/-! cmp.isNaN[string] -/
namespace cmp_isNaN_string
def F (n : Nat) (x1 : ByteArray) : Option Bool :=
  some (!(Abs.seq x1 x1))
noncomputable def code : Code := Tryz.f171.body.getD .skip
abbrev ash : List ASh := [.ro .str]
abbrev rsh : List RSh := [.ro .bool]
def ent (n : Nat) : FEnt := ⟨ash, rsh, fun v => F n v.1⟩
noncomputable def cx (n : Nat) : Ctx := mkCtx Tryz.prog TYS []
noncomputable def d : FnD := ⟨code, 6, .nil, [(.tmp 2, .bool, .ro)]⟩
noncomputable def kr (n : Nat) (v : AVs ash) : Env → Option (RVs rsh) := endK (cx n) d (avEnc ash v) (rvDec rsh)
def an : An := .seq .nil (.seq .nil .nil)
def T (n : Nat) : Tab (RVs rsh) := fun j e kn kx => match j with
  | _ => none
theorem co (n : Nat) : CtxOk (cx n) := mkCtx_cok TYS_ok
theorem mx (n : Nat) : (cx n).P.follows .mixedOrders = true := mkCtx_mix MIX
theorem mk (n : Nat) : MOk (cx n) := mkCtx_ok (mem_nil)
theorem us : units code an = [] := by kernel_rfl
theorem eqn (n : Nat) (v : AVs ash) : fnEvT (cx n) d an (T n) (avEnc ash v) (rvDec rsh) = F n v.1 := by kernel_rfl
theorem ok (n : Nat) : EntOk Tryz.prog 171 (ent n) :=
  ent_ok (c := cx n) (e := ent n) (d := d) (an := an) (fn := Tryz.f171) (co n) (mk n) (mx n) (by kernel_rfl) (by kernel_rfl) (by kernel_rfl) (by kernel_rfl) (by kernel_rfl) (fun _ => T n) (fun v => units_of us (mem_nil)) (eqn n)
end cmp_isNaN_string
/-! cmp.Compare[string] -/
namespace cmp_Compare_string
def F (n : Nat) (x1 : ByteArray) (y2 : ByteArray) : Option Int :=
  (cmp_isNaN_string.F n x1).bind fun r3 =>
  (cmp_isNaN_string.F n y2).bind fun r4 =>
  if r3 = true then
    if r4 = true then
      some 0
    else
      some (-1)
  else
    if r4 = true then
      some 1
    else
      if (slt x1 y2) = true then
        some (-1)
      else
        if (!(slt x1 y2 || Abs.seq x1 y2)) = true then
          some 1
        else
          some 0
noncomputable def code : Code := Tryz.f143.body.getD .skip
abbrev ash : List ASh := [.ro .str, .ro .str]
abbrev rsh : List RSh := [.ro (.int .i64)]
def ent (n : Nat) : FEnt := ⟨ash, rsh, fun v => F n v.1 v.2.1⟩
noncomputable def cx (n : Nat) : Ctx := mkCtx Tryz.prog TYS [(171, cmp_isNaN_string.ent n)]
noncomputable def d : FnD := ⟨code, 20, .nil, [(.tmp 4, .int .i64, .ro)]⟩
noncomputable def kr (n : Nat) (v : AVs ash) : Env → Option (RVs rsh) := endK (cx n) d (avEnc ash v) (rvDec rsh)
def an : An := .seq .nil (.seq .nil (.seq .nil (.seq (.seq .nil (.cond (.seq (.seq .nil (.cond (.seq .nil .nil) .nil)) (.seq .nil .nil)) .nil)) (.seq (.seq .nil (.cond (.seq .nil .nil) .nil)) (.seq (.seq .nil (.cond (.seq .nil .nil) .nil)) (.seq (.seq .nil (.cond (.seq .nil .nil) .nil)) (.seq .nil .nil)))))))
def T (n : Nat) : Tab (RVs rsh) := fun j e kn kx => match j with
  | _ => none
theorem co (n : Nat) : CtxOk (cx n) := mkCtx_cok TYS_ok
theorem mx (n : Nat) : (cx n).P.follows .mixedOrders = true := mkCtx_mix MIX
theorem mk (n : Nat) : MOk (cx n) := mkCtx_ok (mem_cons (cmp_isNaN_string.ok n) mem_nil)
theorem us : units code an = [] := by kernel_rfl
theorem eqn (n : Nat) (v : AVs ash) : fnEvT (cx n) d an (T n) (avEnc ash v) (rvDec rsh) = F n v.1 v.2.1 := by kernel_rfl
theorem ok (n : Nat) : EntOk Tryz.prog 143 (ent n) :=
  ent_ok (c := cx n) (e := ent n) (d := d) (an := an) (fn := Tryz.f143) (co n) (mk n) (mx n) (by kernel_rfl) (by kernel_rfl) (by kernel_rfl) (by kernel_rfl) (by kernel_rfl) (fun _ => T n) (fun v => units_of us (mem_nil)) (eqn n)
end cmp_Compare_string
/-! impl.isBigName -/
namespace impl_isBigName
def F (n : Nat) (s1 : ByteArray) : Option Bool :=
  (impl_in.F n (ByteArray.size s1 : Int) 1 20).bind fun r2 =>
  if r2 = true then
    (impl_nameLong.F n s1).bind fun r3 =>
    if (decide (r3 = (ByteArray.size s1 : Int))) = true then
      if (0 : Int) ≤ 0 ∧ 0 < (ByteArray.size s1 : Int) then
        some (decide ((byteAt s1 0) ≤ 90))
      else
        none
    else
      some false
  else
    some false
noncomputable def code : Code := Tryz.f200.body.getD .skip
abbrev ash : List ASh := [.ro .str]
abbrev rsh : List RSh := [.ro .bool]
def ent (n : Nat) : FEnt := ⟨ash, rsh, fun v => F n v.1⟩
noncomputable def cx (n : Nat) : Ctx := mkCtx Tryz.prog TYS [(69, impl_in.ent n), (150, impl_nameLong.ent n)]
noncomputable def d : FnD := ⟨code, 18, .nil, [(.tmp 2, .bool, .ro)]⟩
noncomputable def kr (n : Nat) (v : AVs ash) : Env → Option (RVs rsh) := endK (cx n) d (avEnc ash v) (rvDec rsh)
def an : An := .seq .nil (.seq .nil .nil)
def T (n : Nat) : Tab (RVs rsh) := fun j e kn kx => match j with
  | _ => none
theorem co (n : Nat) : CtxOk (cx n) := mkCtx_cok TYS_ok
theorem mx (n : Nat) : (cx n).P.follows .mixedOrders = true := mkCtx_mix MIX
theorem mk (n : Nat) : MOk (cx n) := mkCtx_ok (mem_cons (impl_in.ok n) (mem_cons (impl_nameLong.ok n) mem_nil))
theorem us : units code an = [] := by kernel_rfl
theorem eqn (n : Nat) (v : AVs ash) : fnEvT (cx n) d an (T n) (avEnc ash v) (rvDec rsh) = F n v.1 := by kernel_rfl
theorem ok (n : Nat) : EntOk Tryz.prog 200 (ent n) :=
  ent_ok (c := cx n) (e := ent n) (d := d) (an := an) (fn := Tryz.f200) (co n) (mk n) (mx n) (by kernel_rfl) (by kernel_rfl) (by kernel_rfl) (by kernel_rfl) (by kernel_rfl) (fun _ => T n) (fun v => units_of us (mem_nil)) (eqn n)
end impl_isBigName
/-! internal/stringslite.HasPrefix -/
namespace internal_stringslite_HasPrefix
def F (n : Nat) (s1 : ByteArray) (t2 : ByteArray) : Option Bool :=
  if (decide ((ByteArray.size s1 : Int) ≥ (ByteArray.size t2 : Int))) = true then
    if (0 : Int) ≤ 0 ∧ (0 : Int) ≤ (ByteArray.size t2 : Int) ∧ (ByteArray.size t2 : Int) ≤ (ByteArray.size s1 : Int) then
      some (Abs.seq (ByteArray.extract s1 (Int.toNat 0) (Int.toNat (ByteArray.size t2 : Int))) t2)
    else
      none
  else
    some false
noncomputable def code : Code := Tryz.f214.body.getD .skip
abbrev ash : List ASh := [.ro .str, .ro .str]
abbrev rsh : List RSh := [.ro .bool]
def ent (n : Nat) : FEnt := ⟨ash, rsh, fun v => F n v.1 v.2.1⟩
noncomputable def cx (n : Nat) : Ctx := mkCtx Tryz.prog TYS []
noncomputable def d : FnD := ⟨code, 18, .nil, [(.tmp 4, .bool, .ro)]⟩
noncomputable def kr (n : Nat) (v : AVs ash) : Env → Option (RVs rsh) := endK (cx n) d (avEnc ash v) (rvDec rsh)
def an : An := .seq .nil (.seq .nil .nil)
def T (n : Nat) : Tab (RVs rsh) := fun j e kn kx => match j with
  | _ => none
theorem co (n : Nat) : CtxOk (cx n) := mkCtx_cok TYS_ok
theorem mx (n : Nat) : (cx n).P.follows .mixedOrders = true := mkCtx_mix MIX
theorem mk (n : Nat) : MOk (cx n) := mkCtx_ok (mem_nil)
theorem us : units code an = [] := by kernel_rfl
theorem eqn (n : Nat) (v : AVs ash) : fnEvT (cx n) d an (T n) (avEnc ash v) (rvDec rsh) = F n v.1 v.2.1 := by kernel_rfl
theorem ok (n : Nat) : EntOk Tryz.prog 214 (ent n) :=
  ent_ok (c := cx n) (e := ent n) (d := d) (an := an) (fn := Tryz.f214) (co n) (mk n) (mx n) (by kernel_rfl) (by kernel_rfl) (by kernel_rfl) (by kernel_rfl) (by kernel_rfl) (fun _ => T n) (fun v => units_of us (mem_nil)) (eqn n)
end internal_stringslite_HasPrefix
/-! strings.HasPrefix -/
namespace strings_HasPrefix
def F (n : Nat) (s1 : ByteArray) (t2 : ByteArray) : Option Bool :=
  (internal_stringslite_HasPrefix.F n s1 t2).bind fun r3 =>
  some r3
noncomputable def code : Code := Tryz.f201.body.getD .skip
abbrev ash : List ASh := [.ro .str, .ro .str]
abbrev rsh : List RSh := [.ro .bool]
def ent (n : Nat) : FEnt := ⟨ash, rsh, fun v => F n v.1 v.2.1⟩
noncomputable def cx (n : Nat) : Ctx := mkCtx Tryz.prog TYS [(214, internal_stringslite_HasPrefix.ent n)]
noncomputable def d : FnD := ⟨code, 8, .nil, [(.tmp 4, .bool, .ro)]⟩
noncomputable def kr (n : Nat) (v : AVs ash) : Env → Option (RVs rsh) := endK (cx n) d (avEnc ash v) (rvDec rsh)
def an : An := .seq .nil (.seq .nil .nil)
def T (n : Nat) : Tab (RVs rsh) := fun j e kn kx => match j with
  | _ => none
theorem co (n : Nat) : CtxOk (cx n) := mkCtx_cok TYS_ok
theorem mx (n : Nat) : (cx n).P.follows .mixedOrders = true := mkCtx_mix MIX
theorem mk (n : Nat) : MOk (cx n) := mkCtx_ok (mem_cons (internal_stringslite_HasPrefix.ok n) mem_nil)
theorem us : units code an = [] := by kernel_rfl
theorem eqn (n : Nat) (v : AVs ash) : fnEvT (cx n) d an (T n) (avEnc ash v) (rvDec rsh) = F n v.1 v.2.1 := by kernel_rfl
theorem ok (n : Nat) : EntOk Tryz.prog 201 (ent n) :=
  ent_ok (c := cx n) (e := ent n) (d := d) (an := an) (fn := Tryz.f201) (co n) (mk n) (mx n) (by kernel_rfl) (by kernel_rfl) (by kernel_rfl) (by kernel_rfl) (by kernel_rfl) (fun _ => T n) (fun v => units_of us (mem_nil)) (eqn n)
end strings_HasPrefix
/-! impl.partsOf -/
namespace impl_partsOf
def j2 (n : Nat) (name9 : ByteArray) (rest10 : ByteArray) (args11 : List ByteArray) (Kn : ByteArray → (List ByteArray) → Option (ByteArray × List ByteArray)) : Option (ByteArray × List ByteArray) :=
  (impl_termAt.F n rest10).bind fun r12 =>
  if (0 : Int) ≤ 0 ∧ (0 : Int) ≤ r12.2 ∧ r12.2 ≤ (ByteArray.size rest10 : Int) then
    if List.length args11 + List.length [ByteArray.extract rest10 (Int.toNat 0) (Int.toNat r12.2)] ≤ lim then
      if (0 : Int) ≤ r12.2 ∧ r12.2 ≤ (ByteArray.size rest10 : Int) ∧ (ByteArray.size rest10 : Int) ≤ (ByteArray.size rest10 : Int) then
        (strings_HasPrefix.F n (ByteArray.extract rest10 (Int.toNat r12.2) (Int.toNat (ByteArray.size rest10 : Int))) ⟨#[44]⟩).bind fun r13 =>
        if r13 = true then
          if (0 : Int) ≤ 1 ∧ (1 : Int) ≤ (ByteArray.size (ByteArray.extract rest10 (Int.toNat r12.2) (Int.toNat (ByteArray.size rest10 : Int))) : Int) ∧ (ByteArray.size (ByteArray.extract rest10 (Int.toNat r12.2) (Int.toNat (ByteArray.size rest10 : Int))) : Int) ≤ (ByteArray.size (ByteArray.extract rest10 (Int.toNat r12.2) (Int.toNat (ByteArray.size rest10 : Int))) : Int) then
            Kn (ByteArray.extract (ByteArray.extract rest10 (Int.toNat r12.2) (Int.toNat (ByteArray.size rest10 : Int))) (Int.toNat 1) (Int.toNat (ByteArray.size (ByteArray.extract rest10 (Int.toNat r12.2) (Int.toNat (ByteArray.size rest10 : Int))) : Int))) (args11 ++ [ByteArray.extract rest10 (Int.toNat 0) (Int.toNat r12.2)])
          else
            none
        else
          Kn (ByteArray.extract rest10 (Int.toNat r12.2) (Int.toNat (ByteArray.size rest10 : Int))) (args11 ++ [ByteArray.extract rest10 (Int.toNat 0) (Int.toNat r12.2)])
      else
        none
    else
      none
  else
    none
def l1 (n : Nat) (name6 : ByteArray) (K0 : (List ByteArray) → Option (ByteArray × List ByteArray)) : Nat → ByteArray → (List ByteArray) → Option (ByteArray × List ByteArray)
  | 0, _, _ => none
  | k + 1, rest7, args8 =>
    if (!(Abs.seq rest7 ByteArray.empty)) = true then
      if (!(Abs.seq rest7 ⟨#[41]⟩)) = true then
        j2 n name6 rest7 args8 (fun rest14 args15 =>
          l1 n name6 K0 k rest14 args15)
      else
        K0 args8
    else
      K0 args8
def j0 (n : Nat) (name4 : ByteArray) (rest5 : ByteArray) : Option (ByteArray × List ByteArray) :=
  l1 n name4 (fun args16 =>
    some (name4, args16)) n rest5 []
def F (n : Nat) (s1 : ByteArray) : Option (ByteArray × List ByteArray) :=
  (strings_Cut.F n s1 ⟨#[40]⟩).bind fun r2 =>
  (impl_isBigName.F n r2.1).bind fun r3 =>
  if (!r3) = false then
    if (!r2.2.2) = true then
      some (s1, [])
    else
      j0 n r2.1 r2.2.1
  else
    some (s1, [])
noncomputable def code : Code := Tryz.f172.body.getD .skip
abbrev ash : List ASh := [.ro .str]
abbrev rsh : List RSh := [.ro .str, .ro (.sl (.str))]
def ent (n : Nat) : FEnt := ⟨ash, rsh, fun v => F n v.1⟩
noncomputable def cx (n : Nat) : Ctx := mkCtx Tryz.prog TYS [(127, impl_termAt.ent n), (199, strings_Cut.ent n), (200, impl_isBigName.ent n), (201, strings_HasPrefix.ent n)]
noncomputable def d : FnD := ⟨code, 51, .nil, [(.tmp 2, .str, .ro), (.tmp 3, .sl (.str), .ro)]⟩
noncomputable def kr (n : Nat) (v : AVs ash) : Env → Option (RVs rsh) := endK (cx n) d (avEnc ash v) (rvDec rsh)
noncomputable def c2 : Code := (Code.r (Code.l (Code.l (Code.l (Code.r (Code.r (Code.r (Code.r code))))))))
noncomputable def c1 : Code := (Code.l (Code.l (Code.r (Code.r (Code.r (Code.r code))))))
noncomputable def b1 : Code := Code.l c1
noncomputable def c0 : Code := (Code.r (Code.r (Code.r code)))
def an : An := .seq .nil (.seq .nil (.seq (.seq .nil (.cond (.seq .nil .nil) .nil)) (.cut 0 [4, 5])))
def an2 : An := .block (some [4, 5, 7]) (.seq .nil (.seq .nil (.seq .nil (.seq .nil (.cond .nil .nil)))))
abbrev sh2 : ES := ⟨[(4, .v .str), (5, .v .str), (7, .al 7 [])], [⟨7, .sl (.str), .own .ro, false, false⟩]⟩
abbrev sh2_n : ES := ⟨[(4, .v .str), (5, .v .str), (7, .al 7 [])], [⟨7, .sl (.str), .own .ro, false, false⟩]⟩
def an1 : An := .seq (.seq .nil (.cond .nil .nil)) (.cut 2 [4, 5, 7])
abbrev sh1 : ES := ⟨[(4, .v .str), (5, .v .str), (7, .al 7 [])], [⟨7, .sl (.str), .own .ro, false, false⟩]⟩
abbrev sh1_0 : ES := ⟨[(4, .v .str), (7, .al 7 [])], [⟨7, .sl (.str), .own .ro, false, false⟩]⟩
def an0 : An := .seq (.reg [(24, .own .ro)]) (.seq (.block (some [4, 7]) (.cut 1 [4, 5, 7])) (.seq .nil .nil))
abbrev sh0 : ES := ⟨[(4, .v .str), (5, .v .str)], []⟩
def T2 (n m : Nat) (e : Env) (kn : Env → Option (RVs rsh)) (kx : Nat → Env → Option (RVs rsh)) : Option (RVs rsh) := ES.on sh2 e fun x => j2 n x.1.1 x.1.2.1 x.2.1 (fun y0 y1 => kn (sh2_n.enc ((x.1.1, y0, (()), ()), (y1, ()))))
def T1 (n m : Nat) (e : Env) (kn : Env → Option (RVs rsh)) (kx : Nat → Env → Option (RVs rsh)) : Option (RVs rsh) := ES.on sh1 e fun x => l1 n x.1.1 (fun y0 => kx 0 (sh1_0.enc ((x.1.1, (()), ()), (y0, ())))) m x.1.2.1 x.2.1
def T0 (n m : Nat) (e : Env) (kn : Env → Option (RVs rsh)) (kx : Nat → Env → Option (RVs rsh)) : Option (RVs rsh) := ES.on sh0 e fun x => j0 n x.1.1 x.1.2.1 
def T (n : Nat) : Tab (RVs rsh) := fun j e kn kx => match j with
  | 2 => T2 n n e kn kx
  | 1 => T1 n n e kn kx
  | 0 => T0 n n e kn kx
  | _ => none
theorem co (n : Nat) : CtxOk (cx n) := mkCtx_cok TYS_ok
theorem mx (n : Nat) : (cx n).P.follows .mixedOrders = true := mkCtx_mix MIX
theorem mk (n : Nat) : MOk (cx n) := mkCtx_ok (mem_cons (impl_termAt.ok n) (mem_cons (strings_Cut.ok n) (mem_cons (impl_isBigName.ok n) (mem_cons (strings_HasPrefix.ok n) mem_nil))))
theorem us2 : units c2 an2 = [] := by kernel_rfl
theorem e2 (n m : Nat) (v : AVs ash) (x : sh2.V) (kn : Env → Option (RVs rsh)) (kx : Nat → Env → Option (RVs rsh)) : aevT (cx n) 51 (T n) (kr n v) c2 an2 [(0, [4, 7])] (meet (some [4, 5, 7]) kn) kx (sh2.enc x) = j2 n x.1.1 x.1.2.1 x.2.1 (fun y0 y1 => kn (sh2_n.enc ((x.1.1, y0, (()), ()), (y1, ())))) := by kernel_rfl
theorem u2 (n : Nat) (v : AVs ash) : UnitOk (cx n) 51 (T n) (kr n v) 2 c2 :=
  join_unit (co n) (mk n) (mx n) an2 [(0, [4, 7])] (some [4, 5, 7]) (fun e kn kx out h => by obtain ⟨x, rfl, h⟩ := ES.on_inv (show T2 n n e kn kx = some out from h); exact (e2 n n v x kn kx).trans h) (units_of us2 (mem_nil))
theorem us1 : units b1 an1 = [(2, c2)] := by kernel_rfl
theorem e1 (n m : Nat) (v : AVs ash) (x : sh1.V) (kn : Env → Option (RVs rsh)) (kx : Nat → Env → Option (RVs rsh)) : aevT (cx n) 51 (T n) (kr n v) b1 an1 [(0, [4, 7])] (meet (some [4, 5, 7]) fun e => T1 n m e kn kx) kx (sh1.enc x) = l1 n x.1.1 (fun y0 => kx 0 (sh1_0.enc ((x.1.1, (()), ()), (y0, ())))) (m + 1) x.1.2.1 x.2.1 := by kernel_rfl
theorem cl1 : c1 = .loop b1 := by kernel_rfl
theorem u1 (n : Nat) (v : AVs ash) : UnitOk (cx n) 51 (T n) (kr n v) 1 c1 := by
  rw [cl1]
  exact loop_unit (n := n) (co n) (mk n) (mx n) an1 [(0, [4, 7])] [4, 5, 7] (T1 n) (fun _ _ _ => rfl) (fun e kn kx out h => by obtain ⟨x, _, h⟩ := ES.on_inv h; cases h) (fun m e kn kx out h => by obtain ⟨x, rfl, h⟩ := ES.on_inv h; exact (e1 n m v x kn kx).trans h) (units_of us1 (mem_cons (u2 n v) mem_nil))
theorem us0 : units c0 an0 = [(1, c1)] := by kernel_rfl
theorem e0 (n m : Nat) (v : AVs ash) (x : sh0.V) (kn : Env → Option (RVs rsh)) (kx : Nat → Env → Option (RVs rsh)) : aevT (cx n) 51 (T n) (kr n v) c0 an0 [] (meet (some [2, 3]) kn) kx (sh0.enc x) = j0 n x.1.1 x.1.2.1  := by kernel_rfl
theorem u0 (n : Nat) (v : AVs ash) : UnitOk (cx n) 51 (T n) (kr n v) 0 c0 :=
  join_unit (co n) (mk n) (mx n) an0 [] (some [2, 3]) (fun e kn kx out h => by obtain ⟨x, rfl, h⟩ := ES.on_inv (show T0 n n e kn kx = some out from h); exact (e0 n n v x kn kx).trans h) (units_of us0 (mem_cons (u1 n v) mem_nil))
theorem us : units code an = [(0, c0)] := by kernel_rfl
theorem eqn (n : Nat) (v : AVs ash) : fnEvT (cx n) d an (T n) (avEnc ash v) (rvDec rsh) = F n v.1 := by kernel_rfl
theorem ok (n : Nat) : EntOk Tryz.prog 172 (ent n) :=
  ent_ok (c := cx n) (e := ent n) (d := d) (an := an) (fn := Tryz.f172) (co n) (mk n) (mx n) (by kernel_rfl) (by kernel_rfl) (by kernel_rfl) (by kernel_rfl) (by kernel_rfl) (fun _ => T n) (fun v => units_of us (mem_cons (u0 n v) mem_nil)) (eqn n)
end impl_partsOf
/-! cmp.Or[int] -/
namespace cmp_Or_int
def l0 (n : Nat) (zero2 : Int) (t3 : List Int) (t4 : Int) (K0 : Unit → Option Int) : Nat → Int → Option Int
  | 0, _ => none
  | k + 1, t5 =>
    if decide (t5 < t4) = true then
      if (0 : Int) ≤ t5 ∧ t5 < (List.length t3 : Int) then
        if (!decide ((List.getD t3 (Int.toNat t5) 0) = zero2)) = true then
          some (List.getD t3 (Int.toNat t5) 0)
        else
          l0 n zero2 t3 t4 K0 k (IntKind.i64.wrap (t5 + 1))
      else
        none
    else
      K0 ()
def F (n : Nat) (vals1 : List Int) : Option Int :=
  l0 n 0 vals1 (List.length vals1 : Int) (fun _ =>
    some 0) n 0
noncomputable def code : Code := Tryz.f173.body.getD .skip
abbrev ash : List ASh := [.ro (.sl (.int .i64))]
abbrev rsh : List RSh := [.ro (.int .i64)]
def ent (n : Nat) : FEnt := ⟨ash, rsh, fun v => F n v.1⟩
noncomputable def cx (n : Nat) : Ctx := mkCtx Tryz.prog TYS []
noncomputable def d : FnD := ⟨code, 18, .nil, [(.tmp 2, .int .i64, .ro)]⟩
noncomputable def kr (n : Nat) (v : AVs ash) : Env → Option (RVs rsh) := endK (cx n) d (avEnc ash v) (rvDec rsh)
noncomputable def c0 : Code := (Code.l (Code.r (Code.l (Code.r (Code.r code)))))
noncomputable def b0 : Code := Code.l c0
def an : An := .seq .nil (.seq .nil (.seq (.seq .nil (.block (some [3]) (.cut 0 [3, 6, 7, 8]))) (.seq .nil .nil)))
def an0 : An := .seq .nil (.seq (.cond .nil .nil) (.seq (.block (some [3, 6, 7, 8]) (.seq .nil (.seq .nil (.cond (.seq .nil .nil) .nil)))) .nil))
abbrev sh0 : ES := ⟨[(3, .v (.int .i64)), (6, .v (.sl (.int .i64))), (7, .v (.int .i64)), (8, .v (.int .i64))], []⟩
abbrev sh0_0 : ES := ⟨[(3, .v (.int .i64))], []⟩
def T0 (n m : Nat) (e : Env) (kn : Env → Option (RVs rsh)) (kx : Nat → Env → Option (RVs rsh)) : Option (RVs rsh) := ES.on sh0 e fun x => l0 n x.1.1 x.1.2.1 x.1.2.2.1 (fun _ => kx 0 (sh0_0.enc ((x.1.1, ()), (())))) m x.1.2.2.2.1
def T (n : Nat) : Tab (RVs rsh) := fun j e kn kx => match j with
  | 0 => T0 n n e kn kx
  | _ => none
theorem co (n : Nat) : CtxOk (cx n) := mkCtx_cok TYS_ok
theorem mx (n : Nat) : (cx n).P.follows .mixedOrders = true := mkCtx_mix MIX
theorem mk (n : Nat) : MOk (cx n) := mkCtx_ok (mem_nil)
theorem us0 : units b0 an0 = [] := by kernel_rfl
theorem e0 (n m : Nat) (v : AVs ash) (x : sh0.V) (kn : Env → Option (RVs rsh)) (kx : Nat → Env → Option (RVs rsh)) : aevT (cx n) 18 (T n) (kr n v) b0 an0 [(0, [3])] (meet (some [3, 6, 7, 8]) fun e => T0 n m e kn kx) kx (sh0.enc x) = l0 n x.1.1 x.1.2.1 x.1.2.2.1 (fun _ => kx 0 (sh0_0.enc ((x.1.1, ()), (())))) (m + 1) x.1.2.2.2.1 := by kernel_rfl
theorem cl0 : c0 = .loop b0 := by kernel_rfl
theorem u0 (n : Nat) (v : AVs ash) : UnitOk (cx n) 18 (T n) (kr n v) 0 c0 := by
  rw [cl0]
  exact loop_unit (n := n) (co n) (mk n) (mx n) an0 [(0, [3])] [3, 6, 7, 8] (T0 n) (fun _ _ _ => rfl) (fun e kn kx out h => by obtain ⟨x, _, h⟩ := ES.on_inv h; cases h) (fun m e kn kx out h => by obtain ⟨x, rfl, h⟩ := ES.on_inv h; exact (e0 n m v x kn kx).trans h) (units_of us0 (mem_nil))
theorem us : units code an = [(0, c0)] := by kernel_rfl
theorem eqn (n : Nat) (v : AVs ash) : fnEvT (cx n) d an (T n) (avEnc ash v) (rvDec rsh) = F n v.1 := by kernel_rfl
theorem ok (n : Nat) : EntOk Tryz.prog 173 (ent n) :=
  ent_ok (c := cx n) (e := ent n) (d := d) (an := an) (fn := Tryz.f173) (co n) (mk n) (mx n) (by kernel_rfl) (by kernel_rfl) (by kernel_rfl) (by kernel_rfl) (by kernel_rfl) (fun _ => T n) (fun v => units_of us (mem_cons (u0 n v) mem_nil)) (eqn n)
end cmp_Or_int
/-! impl.compareTerms -/
namespace impl_compareTerms
def j0 (n : Nat) (self122 : ByteArray → ByteArray → Option Int) (self144 : ByteArray → ByteArray → Option Int) (a5 : ByteArray) (b6 : ByteArray) (k7 : Int) (l8 : Int) (t9 : Bool) (Kn : Unit → Option Int) : Option Int :=
  if t9 = true then
    some 2
  else
    if (!decide (k7 = l8)) = true then
      (cmp_Compare_int.F n k7 l8).bind fun r10 =>
      some r10
    else
      if decide (k7 = 1) = true then
        (impl_numOf.F n a5).bind fun r11 =>
        (impl_numOf.F n b6).bind fun r12 =>
        (cmp_Compare_int.F n r11 r12).bind fun r13 =>
        some r13
      else
        if decide (k7 = 2) = true then
          if (0 : Int) ≤ 1 ∧ (1 : Int) ≤ (IntKind.i64.wrap ((ByteArray.size a5 : Int) - 1)) ∧ (IntKind.i64.wrap ((ByteArray.size a5 : Int) - 1)) ≤ (ByteArray.size a5 : Int) then
            if (0 : Int) ≤ 1 ∧ (1 : Int) ≤ (IntKind.i64.wrap ((ByteArray.size b6 : Int) - 1)) ∧ (IntKind.i64.wrap ((ByteArray.size b6 : Int) - 1)) ≤ (ByteArray.size b6 : Int) then
              (cmp_Compare_string.F n (ByteArray.extract a5 (Int.toNat 1) (Int.toNat (IntKind.i64.wrap ((ByteArray.size a5 : Int) - 1)))) (ByteArray.extract b6 (Int.toNat 1) (Int.toNat (IntKind.i64.wrap ((ByteArray.size b6 : Int) - 1))))).bind fun r14 =>
              some r14
            else
              none
          else
            none
        else
          Kn ()
def G (n : Nat) (self122 : ByteArray → ByteArray → Option Int) (self144 : ByteArray → ByteArray → Option Int) (a1 : ByteArray) (b2 : ByteArray) : Option Int :=
  (impl_kindOf.F n a1).bind fun r3 =>
  (impl_kindOf.F n b2).bind fun r4 =>
  if (decide (r3 = 0)) = false then
    j0 n self122 self144 a1 b2 r3 r4 (decide (r4 = 0)) (fun _ =>
      (self144 a1 b2).bind fun r15 =>
      some r15)
  else
    j0 n self122 self144 a1 b2 r3 r4 true (fun _ =>
      (self144 a1 b2).bind fun r16 =>
      some r16)
end impl_compareTerms
/-! impl.compareCons -/
namespace impl_compareCons
def l0 (n : Nat) (self122 : ByteArray → ByteArray → Option Int) (self144 : ByteArray → ByteArray → Option Int) (others8 : List ByteArray) (t9 : List ByteArray) (t10 : Int) (K0 : Unit → Option Int) : Nat → Int → Option Int
  | 0, _ => none
  | k + 1, t11 =>
    if decide (t11 < t10) = true then
      if (0 : Int) ≤ t11 ∧ t11 < (List.length t9 : Int) then
        if (0 : Int) ≤ t11 ∧ t11 < (List.length others8 : Int) then
          (self122 (List.getD t9 (Int.toNat t11) ByteArray.empty) (List.getD others8 (Int.toNat t11) ByteArray.empty)).bind fun r12 =>
          if (!decide (r12 = 0)) = true then
            some r12
          else
            l0 n self122 self144 others8 t9 t10 K0 k (IntKind.i64.wrap (t11 + 1))
        else
          none
      else
        none
    else
      K0 ()
def G (n : Nat) (self122 : ByteArray → ByteArray → Option Int) (self144 : ByteArray → ByteArray → Option Int) (a1 : ByteArray) (b2 : ByteArray) : Option Int :=
  (impl_partsOf.F n a1).bind fun r3 =>
  (impl_partsOf.F n b2).bind fun r4 =>
  (cmp_Compare_string.F n r3.1 r4.1).bind fun r5 =>
  (cmp_Compare_int.F n (List.length r3.2 : Int) (List.length r4.2 : Int)).bind fun r6 =>
  (cmp_Or_int.F n [r5, r6]).bind fun r7 =>
  if (!decide (r7 = 0)) = true then
    some r7
  else
    l0 n self122 self144 r4.2 r3.2 (List.length r3.2 : Int) (fun _ =>
      some 0) n 0
end impl_compareCons
def FF122 : Nat → (ByteArray → ByteArray → Option Int) × (ByteArray → ByteArray → Option Int)
  | 0 => (fun _ _ => none, fun _ _ => none)
  | n + 1 => (impl_compareTerms.G n (FF122 n).1 (FF122 n).2, impl_compareCons.G n (FF122 n).1 (FF122 n).2)
namespace impl_compareTerms
noncomputable def code : Code := Tryz.f122.body.getD .skip
def F (n : Nat) : ByteArray → ByteArray → Option Int := (FF122 n).1
abbrev ash : List ASh := [.ro .str, .ro .str]
abbrev rsh : List RSh := [.ro (.int .i64)]
def ent (n : Nat) : FEnt := ⟨ash, rsh, fun v => F n v.1 v.2.1⟩
end impl_compareTerms
namespace impl_compareCons
noncomputable def code : Code := Tryz.f144.body.getD .skip
def F (n : Nat) : ByteArray → ByteArray → Option Int := (FF122 n).2
abbrev ash : List ASh := [.ro .str, .ro .str]
abbrev rsh : List RSh := [.ro (.int .i64)]
def ent (n : Nat) : FEnt := ⟨ash, rsh, fun v => F n v.1 v.2.1⟩
end impl_compareCons
namespace impl_compareTerms
noncomputable def cx (n : Nat) : Ctx := mkCtx Tryz.prog TYS [(95, impl_kindOf.ent n), (96, impl_numOf.ent n), (142, cmp_Compare_int.ent n), (143, cmp_Compare_string.ent n), (122, impl_compareTerms.ent n), (144, impl_compareCons.ent n)]
noncomputable def d : FnD := ⟨code, 50, .nil, [(.tmp 4, .int .i64, .ro)]⟩
noncomputable def kr (n : Nat) (v : AVs ash) : Env → Option (RVs rsh) := endK (cx n) d (avEnc ash v) (rvDec rsh)
noncomputable def c0 : Code := (Code.r (Code.l (Code.l (Code.r (Code.r code)))))
def an : An := .seq .nil (.seq .nil (.seq (.block (some [0, 1]) (.seq .nil (.cut 0 [0, 1, 5, 6, 11]))) (.seq .nil .nil)))
def an0 : An := .cond (.seq .nil .nil) (.seq .nil (.cond (.seq .nil .nil) (.seq .nil (.cond (.seq .nil .nil) (.seq .nil (.cond (.seq .nil .nil) .nil))))))
abbrev sh0 : ES := ⟨[(0, .v .str), (1, .v .str), (5, .v (.int .i64)), (6, .v (.int .i64)), (11, .v .bool)], []⟩
abbrev sh0_n : ES := ⟨[(0, .v .str), (1, .v .str)], []⟩
def T0 (n m : Nat) (e : Env) (kn : Env → Option (RVs rsh)) (kx : Nat → Env → Option (RVs rsh)) : Option (RVs rsh) := ES.on sh0 e fun x => j0 n (impl_compareTerms.F n) (impl_compareCons.F n) x.1.1 x.1.2.1 x.1.2.2.1 x.1.2.2.2.1 x.1.2.2.2.2.1 (fun _ => kn (sh0_n.enc ((x.1.1, x.1.2.1, ()), (()))))
def T (n : Nat) : Tab (RVs rsh) := fun j e kn kx => match j with
  | 0 => T0 n n e kn kx
  | _ => none
theorem co (n : Nat) : CtxOk (cx n) := mkCtx_cok TYS_ok
theorem mx (n : Nat) : (cx n).P.follows .mixedOrders = true := mkCtx_mix MIX
theorem mk (n : Nat) (ih122 : EntOk Tryz.prog 122 (impl_compareTerms.ent n)) (ih144 : EntOk Tryz.prog 144 (impl_compareCons.ent n)) : MOk (cx n) := mkCtx_ok (mem_cons (impl_kindOf.ok n) (mem_cons (impl_numOf.ok n) (mem_cons (cmp_Compare_int.ok n) (mem_cons (cmp_Compare_string.ok n) (mem_cons ih122 (mem_cons ih144 mem_nil))))))
theorem us0 : units c0 an0 = [] := by kernel_rfl
theorem e0 (n m : Nat) (v : AVs ash) (x : sh0.V) (kn : Env → Option (RVs rsh)) (kx : Nat → Env → Option (RVs rsh)) : aevT (cx n) 50 (T n) (kr n v) c0 an0 [(0, [0, 1])] (meet (some [0, 1]) kn) kx (sh0.enc x) = j0 n (impl_compareTerms.F n) (impl_compareCons.F n) x.1.1 x.1.2.1 x.1.2.2.1 x.1.2.2.2.1 x.1.2.2.2.2.1 (fun _ => kn (sh0_n.enc ((x.1.1, x.1.2.1, ()), (())))) := by kernel_rfl
theorem u0 (n : Nat) (v : AVs ash) (ih122 : EntOk Tryz.prog 122 (impl_compareTerms.ent n)) (ih144 : EntOk Tryz.prog 144 (impl_compareCons.ent n)) : UnitOk (cx n) 50 (T n) (kr n v) 0 c0 :=
  join_unit (co n) (mk n ih122 ih144) (mx n) an0 [(0, [0, 1])] (some [0, 1]) (fun e kn kx out h => by obtain ⟨x, rfl, h⟩ := ES.on_inv (show T0 n n e kn kx = some out from h); exact (e0 n n v x kn kx).trans h) (units_of us0 (mem_nil))
theorem us : units code an = [(0, c0)] := by kernel_rfl
theorem eqn (n : Nat) (v : AVs ash) : fnEvT (cx n) d an (T n) (avEnc ash v) (rvDec rsh) = F (n + 1) v.1 v.2.1 := by kernel_rfl
theorem ok0 : EntOk Tryz.prog 122 (ent 0) := ent_none Tryz.f122 (by kernel_rfl) (by kernel_rfl) (by kernel_rfl) (fun _ => rfl)
theorem okS (n : Nat) (ih122 : EntOk Tryz.prog 122 (impl_compareTerms.ent n)) (ih144 : EntOk Tryz.prog 144 (impl_compareCons.ent n)) : EntOk Tryz.prog 122 (ent (n + 1)) :=
  ent_ok (c := cx n) (e := ent (n + 1)) (d := d) (an := an) (fn := Tryz.f122) (co n) (mk n ih122 ih144) (mx n) (by kernel_rfl) (by kernel_rfl) (by kernel_rfl) (by kernel_rfl) (by kernel_rfl) (fun _ => T n) (fun v => units_of us (mem_cons (u0 n v ih122 ih144) mem_nil)) (eqn n)
end impl_compareTerms
namespace impl_compareCons
noncomputable def cx (n : Nat) : Ctx := mkCtx Tryz.prog TYS [(142, cmp_Compare_int.ent n), (143, cmp_Compare_string.ent n), (172, impl_partsOf.ent n), (173, cmp_Or_int.ent n), (122, impl_compareTerms.ent n), (144, impl_compareCons.ent n)]
noncomputable def d : FnD := ⟨code, 53, .nil, [(.tmp 4, .int .i64, .ro)]⟩
noncomputable def kr (n : Nat) (v : AVs ash) : Env → Option (RVs rsh) := endK (cx n) d (avEnc ash v) (rvDec rsh)
noncomputable def c0 : Code := (Code.l (Code.r (Code.l (Code.r (Code.r (Code.r (Code.r code)))))))
noncomputable def b0 : Code := Code.l c0
def an : An := .seq .nil (.seq .nil (.seq .nil (.seq (.seq .nil (.seq .nil (.cond (.seq .nil .nil) .nil))) (.seq (.seq .nil (.block (some []) (.cut 0 [8, 36, 37, 38]))) (.seq .nil .nil)))))
def an0 : An := .seq .nil (.seq (.cond .nil .nil) (.seq (.block (some [8, 36, 37, 38]) (.seq .nil (.seq .nil (.seq .nil (.cond (.seq .nil .nil) .nil))))) .nil))
abbrev sh0 : ES := ⟨[(8, .v (.sl (.str))), (36, .v (.sl (.str))), (37, .v (.int .i64)), (38, .v (.int .i64))], []⟩
abbrev sh0_0 : ES := ⟨[], []⟩
def T0 (n m : Nat) (e : Env) (kn : Env → Option (RVs rsh)) (kx : Nat → Env → Option (RVs rsh)) : Option (RVs rsh) := ES.on sh0 e fun x => l0 n (impl_compareTerms.F n) (impl_compareCons.F n) x.1.1 x.1.2.1 x.1.2.2.1 (fun _ => kx 0 (sh0_0.enc ((()), (())))) m x.1.2.2.2.1
def T (n : Nat) : Tab (RVs rsh) := fun j e kn kx => match j with
  | 0 => T0 n n e kn kx
  | _ => none
theorem co (n : Nat) : CtxOk (cx n) := mkCtx_cok TYS_ok
theorem mx (n : Nat) : (cx n).P.follows .mixedOrders = true := mkCtx_mix MIX
theorem mk (n : Nat) (ih122 : EntOk Tryz.prog 122 (impl_compareTerms.ent n)) (ih144 : EntOk Tryz.prog 144 (impl_compareCons.ent n)) : MOk (cx n) := mkCtx_ok (mem_cons (cmp_Compare_int.ok n) (mem_cons (cmp_Compare_string.ok n) (mem_cons (impl_partsOf.ok n) (mem_cons (cmp_Or_int.ok n) (mem_cons ih122 (mem_cons ih144 mem_nil))))))
theorem us0 : units b0 an0 = [] := by kernel_rfl
theorem e0 (n m : Nat) (v : AVs ash) (x : sh0.V) (kn : Env → Option (RVs rsh)) (kx : Nat → Env → Option (RVs rsh)) : aevT (cx n) 53 (T n) (kr n v) b0 an0 [(0, [])] (meet (some [8, 36, 37, 38]) fun e => T0 n m e kn kx) kx (sh0.enc x) = l0 n (impl_compareTerms.F n) (impl_compareCons.F n) x.1.1 x.1.2.1 x.1.2.2.1 (fun _ => kx 0 (sh0_0.enc ((()), (())))) (m + 1) x.1.2.2.2.1 := by kernel_rfl
theorem cl0 : c0 = .loop b0 := by kernel_rfl
theorem u0 (n : Nat) (v : AVs ash) (ih122 : EntOk Tryz.prog 122 (impl_compareTerms.ent n)) (ih144 : EntOk Tryz.prog 144 (impl_compareCons.ent n)) : UnitOk (cx n) 53 (T n) (kr n v) 0 c0 := by
  rw [cl0]
  exact loop_unit (n := n) (co n) (mk n ih122 ih144) (mx n) an0 [(0, [])] [8, 36, 37, 38] (T0 n) (fun _ _ _ => rfl) (fun e kn kx out h => by obtain ⟨x, _, h⟩ := ES.on_inv h; cases h) (fun m e kn kx out h => by obtain ⟨x, rfl, h⟩ := ES.on_inv h; exact (e0 n m v x kn kx).trans h) (units_of us0 (mem_nil))
theorem us : units code an = [(0, c0)] := by kernel_rfl
theorem eqn (n : Nat) (v : AVs ash) : fnEvT (cx n) d an (T n) (avEnc ash v) (rvDec rsh) = F (n + 1) v.1 v.2.1 := by kernel_rfl
theorem ok0 : EntOk Tryz.prog 144 (ent 0) := ent_none Tryz.f144 (by kernel_rfl) (by kernel_rfl) (by kernel_rfl) (fun _ => rfl)
theorem okS (n : Nat) (ih122 : EntOk Tryz.prog 122 (impl_compareTerms.ent n)) (ih144 : EntOk Tryz.prog 144 (impl_compareCons.ent n)) : EntOk Tryz.prog 144 (ent (n + 1)) :=
  ent_ok (c := cx n) (e := ent (n + 1)) (d := d) (an := an) (fn := Tryz.f144) (co n) (mk n ih122 ih144) (mx n) (by kernel_rfl) (by kernel_rfl) (by kernel_rfl) (by kernel_rfl) (by kernel_rfl) (fun _ => T n) (fun v => units_of us (mem_cons (u0 n v ih122 ih144) mem_nil)) (eqn n)
end impl_compareCons
theorem okG122 : (n : Nat) → EntOk Tryz.prog 122 (impl_compareTerms.ent n) ∧ EntOk Tryz.prog 144 (impl_compareCons.ent n)
  | 0 => ⟨impl_compareTerms.ok0, impl_compareCons.ok0⟩
  | n + 1 => have ih := okG122 n; ⟨impl_compareTerms.okS n ih.1 ih.2, impl_compareCons.okS n ih.1 ih.2⟩
theorem impl_compareTerms.ok (n : Nat) : EntOk Tryz.prog 122 (impl_compareTerms.ent n) := (okG122 n).1
theorem impl_compareCons.ok (n : Nat) : EntOk Tryz.prog 144 (impl_compareCons.ent n) := (okG122 n).2
/-! impl.compareTuples -/
namespace impl_compareTuples
def F (n : Nat) (a1 : List ByteArray) (b2 : List ByteArray) : Option Int :=
  (slices_CompareFunc_string_string_string_string.F n a1 b2 (fun a3 => (impl_compareTerms.F n a3.1 a3.2.1).bind some)).bind fun r4 =>
  some r4
noncomputable def code : Code := Tryz.f110.body.getD .skip
abbrev ash : List ASh := [.ro (.st (.sl (.str))), .ro (.st (.sl (.str)))]
abbrev rsh : List RSh := [.ro (.int .i64)]
def ent (n : Nat) : FEnt := ⟨ash, rsh, fun v => F n v.1 v.2.1⟩
noncomputable def cx (n : Nat) : Ctx := mkCtx Tryz.prog TYS [(121, slices_CompareFunc_string_string_string_string.ent n), (122, impl_compareTerms.ent n)]
noncomputable def d : FnD := ⟨code, 10, .nil, [(.tmp 4, .int .i64, .ro)]⟩
noncomputable def kr (n : Nat) (v : AVs ash) : Env → Option (RVs rsh) := endK (cx n) d (avEnc ash v) (rvDec rsh)
def an : An := .seq .nil (.seq .nil .nil)
def T (n : Nat) : Tab (RVs rsh) := fun j e kn kx => match j with
  | _ => none
theorem co (n : Nat) : CtxOk (cx n) := mkCtx_cok TYS_ok
theorem mx (n : Nat) : (cx n).P.follows .mixedOrders = true := mkCtx_mix MIX
theorem mk (n : Nat) : MOk (cx n) := mkCtx_ok (mem_cons (slices_CompareFunc_string_string_string_string.ok n) (mem_cons (impl_compareTerms.ok n) mem_nil))
theorem us : units code an = [] := by kernel_rfl
theorem eqn (n : Nat) (v : AVs ash) : fnEvT (cx n) d an (T n) (avEnc ash v) (rvDec rsh) = F n v.1 v.2.1 := by kernel_rfl
theorem ok (n : Nat) : EntOk Tryz.prog 110 (ent n) :=
  ent_ok (c := cx n) (e := ent n) (d := d) (an := an) (fn := Tryz.f110) (co n) (mk n) (mx n) (by kernel_rfl) (by kernel_rfl) (by kernel_rfl) (by kernel_rfl) (by kernel_rfl) (fun _ => T n) (fun v => units_of us (mem_nil)) (eqn n)
end impl_compareTuples
/-! impl.isRel -/
namespace impl_isRel
def l1 (n : Nat) (t4 : List (List ByteArray)) (t5 : Int) (r7 : Int × List (List ByteArray)) (K0 : Unit → Option Bool) : Nat → Int → Option Bool
  | 0, _ => none
  | k + 1, t6 =>
    if decide (t6 < t5) = true then
      if (0 : Int) ≤ t6 ∧ t6 < (List.length t4 : Int) then
        (impl_isTuple.F n (List.getD t4 (Int.toNat t6) [])).bind fun r8 =>
        if (!r8) = false then
          if (!decide ((List.length (List.getD t4 (Int.toNat t6) []) : Int) = r7.1)) = false then
            if (decide (t6 > 0)) = true then
              if (0 : Int) ≤ (IntKind.i64.wrap (t6 - 1)) ∧ (IntKind.i64.wrap (t6 - 1)) < (List.length r7.2 : Int) then
                (impl_compareTuples.F n (List.getD r7.2 (Int.toNat (IntKind.i64.wrap (t6 - 1))) []) (List.getD t4 (Int.toNat t6) [])).bind fun r9 =>
                if decide (r9 ≥ 0) = true then
                  some false
                else
                  l1 n t4 t5 r7 K0 k (IntKind.i64.wrap (t6 + 1))
              else
                none
            else
              l1 n t4 t5 r7 K0 k (IntKind.i64.wrap (t6 + 1))
          else
            some false
        else
          some false
      else
        none
    else
      K0 ()
def j0 (n : Nat) (r3 : Int × List (List ByteArray)) : Option Bool :=
  l1 n r3.2 (List.length r3.2 : Int) r3 (fun _ =>
    some true) n 0
def F (n : Nat) (r1 : Int × List (List ByteArray)) : Option Bool :=
  (impl_in.F n r1.1 0 6).bind fun r2 =>
  if (!r2) = false then
    if decide ((List.length r1.2 : Int) > 400) = true then
      some false
    else
      j0 n r1
  else
    some false
noncomputable def code : Code := Tryz.f100.body.getD .skip
abbrev ash : List ASh := [.ro (.st (.pair (.int .i64) (.sl (.st (.sl (.str))))))]
abbrev rsh : List RSh := [.ro .bool]
def ent (n : Nat) : FEnt := ⟨ash, rsh, fun v => F n v.1⟩
noncomputable def cx (n : Nat) : Ctx := mkCtx Tryz.prog TYS [(69, impl_in.ent n), (108, impl_isTuple.ent n), (110, impl_compareTuples.ent n)]
noncomputable def d : FnD := ⟨code, 50, .nil, [(.tmp 2, .bool, .ro)]⟩
noncomputable def kr (n : Nat) (v : AVs ash) : Env → Option (RVs rsh) := endK (cx n) d (avEnc ash v) (rvDec rsh)
noncomputable def c1 : Code := (Code.l (Code.r (Code.l (Code.r (Code.r code)))))
noncomputable def b1 : Code := Code.l c1
noncomputable def c0 : Code := (Code.r (Code.r code))
def an : An := .seq .nil (.seq (.seq .nil (.cond (.seq .nil .nil) .nil)) (.cut 0 [1]))
def an1 : An := .seq .nil (.seq (.cond .nil .nil) (.seq (.block (some [1, 16, 17, 18]) (.seq .nil (.seq .nil (.cond (.seq .nil .nil) .nil)))) .nil))
abbrev sh1 : ES := ⟨[(1, .pt 1 []), (16, .v (.sl (.st (.sl (.str))))), (17, .v (.int .i64)), (18, .v (.int .i64))], [⟨1, .st (.pair (.int .i64) (.sl (.st (.sl (.str))))), .ro, true, false⟩]⟩
abbrev sh1_0 : ES := ⟨[], []⟩
def an0 : An := .seq (.seq .nil (.block (some []) (.cut 1 [1, 16, 17, 18]))) (.seq .nil .nil)
abbrev sh0 : ES := ⟨[(1, .pt 1 [])], [⟨1, .st (.pair (.int .i64) (.sl (.st (.sl (.str))))), .ro, true, false⟩]⟩
def T1 (n m : Nat) (e : Env) (kn : Env → Option (RVs rsh)) (kx : Nat → Env → Option (RVs rsh)) : Option (RVs rsh) := ES.on sh1 e fun x => l1 n x.1.2.1 x.1.2.2.1 x.2.1 (fun _ => kx 0 (sh1_0.enc ((()), (())))) m x.1.2.2.2.1
def T0 (n m : Nat) (e : Env) (kn : Env → Option (RVs rsh)) (kx : Nat → Env → Option (RVs rsh)) : Option (RVs rsh) := ES.on sh0 e fun x => j0 n x.2.1 
def T (n : Nat) : Tab (RVs rsh) := fun j e kn kx => match j with
  | 1 => T1 n n e kn kx
  | 0 => T0 n n e kn kx
  | _ => none
theorem co (n : Nat) : CtxOk (cx n) := mkCtx_cok TYS_ok
theorem mx (n : Nat) : (cx n).P.follows .mixedOrders = true := mkCtx_mix MIX
theorem mk (n : Nat) : MOk (cx n) := mkCtx_ok (mem_cons (impl_in.ok n) (mem_cons (impl_isTuple.ok n) (mem_cons (impl_compareTuples.ok n) mem_nil)))
theorem us1 : units b1 an1 = [] := by kernel_rfl
theorem e1 (n m : Nat) (v : AVs ash) (x : sh1.V) (kn : Env → Option (RVs rsh)) (kx : Nat → Env → Option (RVs rsh)) : aevT (cx n) 50 (T n) (kr n v) b1 an1 [(0, [])] (meet (some [1, 16, 17, 18]) fun e => T1 n m e kn kx) kx (sh1.enc x) = l1 n x.1.2.1 x.1.2.2.1 x.2.1 (fun _ => kx 0 (sh1_0.enc ((()), (())))) (m + 1) x.1.2.2.2.1 := by kernel_rfl
theorem cl1 : c1 = .loop b1 := by kernel_rfl
theorem u1 (n : Nat) (v : AVs ash) : UnitOk (cx n) 50 (T n) (kr n v) 1 c1 := by
  rw [cl1]
  exact loop_unit (n := n) (co n) (mk n) (mx n) an1 [(0, [])] [1, 16, 17, 18] (T1 n) (fun _ _ _ => rfl) (fun e kn kx out h => by obtain ⟨x, _, h⟩ := ES.on_inv h; cases h) (fun m e kn kx out h => by obtain ⟨x, rfl, h⟩ := ES.on_inv h; exact (e1 n m v x kn kx).trans h) (units_of us1 (mem_nil))
theorem us0 : units c0 an0 = [(1, c1)] := by kernel_rfl
theorem e0 (n m : Nat) (v : AVs ash) (x : sh0.V) (kn : Env → Option (RVs rsh)) (kx : Nat → Env → Option (RVs rsh)) : aevT (cx n) 50 (T n) (kr n v) c0 an0 [] (meet (some [2]) kn) kx (sh0.enc x) = j0 n x.2.1  := by kernel_rfl
theorem u0 (n : Nat) (v : AVs ash) : UnitOk (cx n) 50 (T n) (kr n v) 0 c0 :=
  join_unit (co n) (mk n) (mx n) an0 [] (some [2]) (fun e kn kx out h => by obtain ⟨x, rfl, h⟩ := ES.on_inv (show T0 n n e kn kx = some out from h); exact (e0 n n v x kn kx).trans h) (units_of us0 (mem_cons (u1 n v) mem_nil))
theorem us : units code an = [(0, c0)] := by kernel_rfl
theorem eqn (n : Nat) (v : AVs ash) : fnEvT (cx n) d an (T n) (avEnc ash v) (rvDec rsh) = F n v.1 := by kernel_rfl
theorem ok (n : Nat) : EntOk Tryz.prog 100 (ent n) :=
  ent_ok (c := cx n) (e := ent n) (d := d) (an := an) (fn := Tryz.f100) (co n) (mk n) (mx n) (by kernel_rfl) (by kernel_rfl) (by kernel_rfl) (by kernel_rfl) (by kernel_rfl) (fun _ => T n) (fun v => units_of us (mem_cons (u0 n v) mem_nil)) (eqn n)
end impl_isRel
/-! impl.isShape$1 -/
namespace impl_isShape_1
def F (n : Nat) (r1 : Int × List (List ByteArray)) : Option Bool :=
  (impl_isRel.F n r1).bind fun r2 =>
  some (!r2)
noncomputable def code : Code := Tryz.f99.body.getD .skip
abbrev ash : List ASh := [.ro (.st (.pair (.int .i64) (.sl (.st (.sl (.str))))))]
abbrev rsh : List RSh := [.ro .bool]
def ent (n : Nat) : FEnt := ⟨ash, rsh, fun v => F n v.1⟩
noncomputable def cx (n : Nat) : Ctx := mkCtx Tryz.prog TYS [(100, impl_isRel.ent n)]
noncomputable def d : FnD := ⟨code, 6, .nil, [(.tmp 2, .bool, .ro)]⟩
noncomputable def kr (n : Nat) (v : AVs ash) : Env → Option (RVs rsh) := endK (cx n) d (avEnc ash v) (rvDec rsh)
def an : An := .seq .nil (.seq .nil .nil)
def T (n : Nat) : Tab (RVs rsh) := fun j e kn kx => match j with
  | _ => none
theorem co (n : Nat) : CtxOk (cx n) := mkCtx_cok TYS_ok
theorem mx (n : Nat) : (cx n).P.follows .mixedOrders = true := mkCtx_mix MIX
theorem mk (n : Nat) : MOk (cx n) := mkCtx_ok (mem_cons (impl_isRel.ok n) mem_nil)
theorem us : units code an = [] := by kernel_rfl
theorem eqn (n : Nat) (v : AVs ash) : fnEvT (cx n) d an (T n) (avEnc ash v) (rvDec rsh) = F n v.1 := by kernel_rfl
theorem ok (n : Nat) : EntOk Tryz.prog 99 (ent n) :=
  ent_ok (c := cx n) (e := ent n) (d := d) (an := an) (fn := Tryz.f99) (co n) (mk n) (mx n) (by kernel_rfl) (by kernel_rfl) (by kernel_rfl) (by kernel_rfl) (by kernel_rfl) (fun _ => T n) (fun v => units_of us (mem_nil)) (eqn n)
end impl_isShape_1
/-! impl.isShape -/
namespace impl_isShape
def F (n : Nat) (d1 : List (Int × List (List ByteArray))) : Option Bool :=
  if (decide ((List.length d1 : Int) ≤ 20)) = true then
    (slices_ContainsFunc_Rel_Rel.F n d1 (fun a2 => (impl_isShape_1.F n a2.1).bind some)).bind fun r3 =>
    some (!r3)
  else
    some false
noncomputable def code : Code := Tryz.f51.body.getD .skip
abbrev ash : List ASh := [.ro (.st (.sl (.st (.pair (.int .i64) (.sl (.st (.sl (.str))))))))]
abbrev rsh : List RSh := [.ro .bool]
def ent (n : Nat) : FEnt := ⟨ash, rsh, fun v => F n v.1⟩
noncomputable def cx (n : Nat) : Ctx := mkCtx Tryz.prog TYS [(98, slices_ContainsFunc_Rel_Rel.ent n), (99, impl_isShape_1.ent n)]
noncomputable def d : FnD := ⟨code, 13, .nil, [(.tmp 2, .bool, .ro)]⟩
noncomputable def kr (n : Nat) (v : AVs ash) : Env → Option (RVs rsh) := endK (cx n) d (avEnc ash v) (rvDec rsh)
def an : An := .seq .nil (.seq .nil .nil)
def T (n : Nat) : Tab (RVs rsh) := fun j e kn kx => match j with
  | _ => none
theorem co (n : Nat) : CtxOk (cx n) := mkCtx_cok TYS_ok
theorem mx (n : Nat) : (cx n).P.follows .mixedOrders = true := mkCtx_mix MIX
theorem mk (n : Nat) : MOk (cx n) := mkCtx_ok (mem_cons (slices_ContainsFunc_Rel_Rel.ok n) (mem_cons (impl_isShape_1.ok n) mem_nil))
theorem us : units code an = [] := by kernel_rfl
theorem eqn (n : Nat) (v : AVs ash) : fnEvT (cx n) d an (T n) (avEnc ash v) (rvDec rsh) = F n v.1 := by kernel_rfl
theorem ok (n : Nat) : EntOk Tryz.prog 51 (ent n) :=
  ent_ok (c := cx n) (e := ent n) (d := d) (an := an) (fn := Tryz.f51) (co n) (mk n) (mx n) (by kernel_rfl) (by kernel_rfl) (by kernel_rfl) (by kernel_rfl) (by kernel_rfl) (fun _ => T n) (fun v => units_of us (mem_nil)) (eqn n)
end impl_isShape
/-! impl.DbShape -/
namespace impl_DbShape
def F (n : Nat) (d1 : List (Int × List (List ByteArray))) : Option Bool :=
  (impl_isShape.F n d1).bind fun r2 =>
  some r2
noncomputable def code : Code := Tryz.f14.body.getD .skip
abbrev ash : List ASh := [.ro (.st (.sl (.st (.pair (.int .i64) (.sl (.st (.sl (.str))))))))]
abbrev rsh : List RSh := [.ro .bool]
def ent (n : Nat) : FEnt := ⟨ash, rsh, fun v => F n v.1⟩
noncomputable def cx (n : Nat) : Ctx := mkCtx Tryz.prog TYS [(51, impl_isShape.ent n)]
noncomputable def d : FnD := ⟨code, 5, .nil, [(.tmp 2, .bool, .ro)]⟩
noncomputable def kr (n : Nat) (v : AVs ash) : Env → Option (RVs rsh) := endK (cx n) d (avEnc ash v) (rvDec rsh)
def an : An := .seq .nil (.seq .nil .nil)
def T (n : Nat) : Tab (RVs rsh) := fun j e kn kx => match j with
  | _ => none
theorem co (n : Nat) : CtxOk (cx n) := mkCtx_cok TYS_ok
theorem mx (n : Nat) : (cx n).P.follows .mixedOrders = true := mkCtx_mix MIX
theorem mk (n : Nat) : MOk (cx n) := mkCtx_ok (mem_cons (impl_isShape.ok n) mem_nil)
theorem us : units code an = [] := by kernel_rfl
theorem eqn (n : Nat) (v : AVs ash) : fnEvT (cx n) d an (T n) (avEnc ash v) (rvDec rsh) = F n v.1 := by kernel_rfl
theorem ok (n : Nat) : EntOk Tryz.prog 14 (ent n) :=
  ent_ok (c := cx n) (e := ent n) (d := d) (an := an) (fn := Tryz.f14) (co n) (mk n) (mx n) (by kernel_rfl) (by kernel_rfl) (by kernel_rfl) (by kernel_rfl) (by kernel_rfl) (fun _ => T n) (fun v => units_of us (mem_nil)) (eqn n)
end impl_DbShape
/-! laws.eqStringS -/
namespace laws_eqStringS
def l0 (n : Nat) (a3 : List ByteArray) (b4 : List ByteArray) (K0 : Unit → Option Bool) : Nat → Int → Option Bool
  | 0, _ => none
  | k + 1, i5 =>
    if decide (i5 < (List.length a3 : Int)) = true then
      if (0 : Int) ≤ i5 ∧ i5 < (List.length a3 : Int) then
        if (0 : Int) ≤ i5 ∧ i5 < (List.length b4 : Int) then
          if (!(Abs.seq (List.getD a3 (Int.toNat i5) ByteArray.empty) (List.getD b4 (Int.toNat i5) ByteArray.empty))) = true then
            some false
          else
            l0 n a3 b4 K0 k (IntKind.i64.wrap (i5 + 1))
        else
          none
      else
        none
    else
      K0 ()
def F (n : Nat) (a1 : List ByteArray) (b2 : List ByteArray) : Option Bool :=
  if (!decide ((List.length a1 : Int) = (List.length b2 : Int))) = true then
    some false
  else
    l0 n a1 b2 (fun _ =>
      some true) n 0
noncomputable def code : Code := Tryz.f125.body.getD .skip
abbrev ash : List ASh := [.ro (.sl (.str)), .ro (.sl (.str))]
abbrev rsh : List RSh := [.ro .bool]
def ent (n : Nat) : FEnt := ⟨ash, rsh, fun v => F n v.1 v.2.1⟩
noncomputable def cx (n : Nat) : Ctx := mkCtx Tryz.prog TYS []
noncomputable def d : FnD := ⟨code, 26, .nil, [(.tmp 4, .bool, .ro)]⟩
noncomputable def kr (n : Nat) (v : AVs ash) : Env → Option (RVs rsh) := endK (cx n) d (avEnc ash v) (rvDec rsh)
noncomputable def c0 : Code := (Code.l (Code.r (Code.l (Code.r (Code.r code)))))
noncomputable def b0 : Code := Code.l c0
def an : An := .seq .nil (.seq (.seq .nil (.cond (.seq .nil .nil) .nil)) (.seq (.seq .nil (.block (some []) (.cut 0 [0, 1, 5]))) (.seq .nil .nil)))
def an0 : An := .seq (.seq .nil (.cond .nil .nil)) (.seq (.block (some [0, 1, 5]) (.seq .nil (.cond (.seq .nil .nil) .nil))) .nil)
abbrev sh0 : ES := ⟨[(0, .v (.sl (.str))), (1, .v (.sl (.str))), (5, .v (.int .i64))], []⟩
abbrev sh0_0 : ES := ⟨[], []⟩
def T0 (n m : Nat) (e : Env) (kn : Env → Option (RVs rsh)) (kx : Nat → Env → Option (RVs rsh)) : Option (RVs rsh) := ES.on sh0 e fun x => l0 n x.1.1 x.1.2.1 (fun _ => kx 0 (sh0_0.enc ((()), (())))) m x.1.2.2.1
def T (n : Nat) : Tab (RVs rsh) := fun j e kn kx => match j with
  | 0 => T0 n n e kn kx
  | _ => none
theorem co (n : Nat) : CtxOk (cx n) := mkCtx_cok TYS_ok
theorem mx (n : Nat) : (cx n).P.follows .mixedOrders = true := mkCtx_mix MIX
theorem mk (n : Nat) : MOk (cx n) := mkCtx_ok (mem_nil)
theorem us0 : units b0 an0 = [] := by kernel_rfl
theorem e0 (n m : Nat) (v : AVs ash) (x : sh0.V) (kn : Env → Option (RVs rsh)) (kx : Nat → Env → Option (RVs rsh)) : aevT (cx n) 26 (T n) (kr n v) b0 an0 [(0, [])] (meet (some [0, 1, 5]) fun e => T0 n m e kn kx) kx (sh0.enc x) = l0 n x.1.1 x.1.2.1 (fun _ => kx 0 (sh0_0.enc ((()), (())))) (m + 1) x.1.2.2.1 := by kernel_rfl
theorem cl0 : c0 = .loop b0 := by kernel_rfl
theorem u0 (n : Nat) (v : AVs ash) : UnitOk (cx n) 26 (T n) (kr n v) 0 c0 := by
  rw [cl0]
  exact loop_unit (n := n) (co n) (mk n) (mx n) an0 [(0, [])] [0, 1, 5] (T0 n) (fun _ _ _ => rfl) (fun e kn kx out h => by obtain ⟨x, _, h⟩ := ES.on_inv h; cases h) (fun m e kn kx out h => by obtain ⟨x, rfl, h⟩ := ES.on_inv h; exact (e0 n m v x kn kx).trans h) (units_of us0 (mem_nil))
theorem us : units code an = [(0, c0)] := by kernel_rfl
theorem eqn (n : Nat) (v : AVs ash) : fnEvT (cx n) d an (T n) (avEnc ash v) (rvDec rsh) = F n v.1 v.2.1 := by kernel_rfl
theorem ok (n : Nat) : EntOk Tryz.prog 125 (ent n) :=
  ent_ok (c := cx n) (e := ent n) (d := d) (an := an) (fn := Tryz.f125) (co n) (mk n) (mx n) (by kernel_rfl) (by kernel_rfl) (by kernel_rfl) (by kernel_rfl) (by kernel_rfl) (fun _ => T n) (fun v => units_of us (mem_cons (u0 n v) mem_nil)) (eqn n)
end laws_eqStringS
/-! laws.eqTuple -/
namespace laws_eqTuple
def F (n : Nat) (a1 : List ByteArray) (b2 : List ByteArray) : Option Bool :=
  (laws_eqStringS.F n a1 b2).bind fun r3 =>
  if (!r3) = true then
    some false
  else
    some true
noncomputable def code : Code := Tryz.f102.body.getD .skip
abbrev ash : List ASh := [.ro (.st (.sl (.str))), .ro (.st (.sl (.str)))]
abbrev rsh : List RSh := [.ro .bool]
def ent (n : Nat) : FEnt := ⟨ash, rsh, fun v => F n v.1 v.2.1⟩
noncomputable def cx (n : Nat) : Ctx := mkCtx Tryz.prog TYS [(125, laws_eqStringS.ent n)]
noncomputable def d : FnD := ⟨code, 11, .nil, [(.tmp 4, .bool, .ro)]⟩
noncomputable def kr (n : Nat) (v : AVs ash) : Env → Option (RVs rsh) := endK (cx n) d (avEnc ash v) (rvDec rsh)
def an : An := .seq .nil (.seq (.seq .nil (.cond (.seq .nil .nil) .nil)) (.seq .nil .nil))
def T (n : Nat) : Tab (RVs rsh) := fun j e kn kx => match j with
  | _ => none
theorem co (n : Nat) : CtxOk (cx n) := mkCtx_cok TYS_ok
theorem mx (n : Nat) : (cx n).P.follows .mixedOrders = true := mkCtx_mix MIX
theorem mk (n : Nat) : MOk (cx n) := mkCtx_ok (mem_cons (laws_eqStringS.ok n) mem_nil)
theorem us : units code an = [] := by kernel_rfl
theorem eqn (n : Nat) (v : AVs ash) : fnEvT (cx n) d an (T n) (avEnc ash v) (rvDec rsh) = F n v.1 v.2.1 := by kernel_rfl
theorem ok (n : Nat) : EntOk Tryz.prog 102 (ent n) :=
  ent_ok (c := cx n) (e := ent n) (d := d) (an := an) (fn := Tryz.f102) (co n) (mk n) (mx n) (by kernel_rfl) (by kernel_rfl) (by kernel_rfl) (by kernel_rfl) (by kernel_rfl) (fun _ => T n) (fun v => units_of us (mem_nil)) (eqn n)
end laws_eqTuple
/-! laws.eqTupleS -/
namespace laws_eqTupleS
def l0 (n : Nat) (a3 : List (List ByteArray)) (b4 : List (List ByteArray)) (K0 : Unit → Option Bool) : Nat → Int → Option Bool
  | 0, _ => none
  | k + 1, i5 =>
    if decide (i5 < (List.length a3 : Int)) = true then
      if (0 : Int) ≤ i5 ∧ i5 < (List.length a3 : Int) then
        if (0 : Int) ≤ i5 ∧ i5 < (List.length b4 : Int) then
          (laws_eqTuple.F n (List.getD a3 (Int.toNat i5) []) (List.getD b4 (Int.toNat i5) [])).bind fun r6 =>
          if (!r6) = true then
            some false
          else
            l0 n a3 b4 K0 k (IntKind.i64.wrap (i5 + 1))
        else
          none
      else
        none
    else
      K0 ()
def F (n : Nat) (a1 : List (List ByteArray)) (b2 : List (List ByteArray)) : Option Bool :=
  if (!decide ((List.length a1 : Int) = (List.length b2 : Int))) = true then
    some false
  else
    l0 n a1 b2 (fun _ =>
      some true) n 0
noncomputable def code : Code := Tryz.f83.body.getD .skip
abbrev ash : List ASh := [.ro (.sl (.st (.sl (.str)))), .ro (.sl (.st (.sl (.str))))]
abbrev rsh : List RSh := [.ro .bool]
def ent (n : Nat) : FEnt := ⟨ash, rsh, fun v => F n v.1 v.2.1⟩
noncomputable def cx (n : Nat) : Ctx := mkCtx Tryz.prog TYS [(102, laws_eqTuple.ent n)]
noncomputable def d : FnD := ⟨code, 27, .nil, [(.tmp 4, .bool, .ro)]⟩
noncomputable def kr (n : Nat) (v : AVs ash) : Env → Option (RVs rsh) := endK (cx n) d (avEnc ash v) (rvDec rsh)
noncomputable def c0 : Code := (Code.l (Code.r (Code.l (Code.r (Code.r code)))))
noncomputable def b0 : Code := Code.l c0
def an : An := .seq .nil (.seq (.seq .nil (.cond (.seq .nil .nil) .nil)) (.seq (.seq .nil (.block (some []) (.cut 0 [0, 1, 5]))) (.seq .nil .nil)))
def an0 : An := .seq (.seq .nil (.cond .nil .nil)) (.seq (.block (some [0, 1, 5]) (.seq .nil (.cond (.seq .nil .nil) .nil))) .nil)
abbrev sh0 : ES := ⟨[(0, .v (.sl (.st (.sl (.str))))), (1, .v (.sl (.st (.sl (.str))))), (5, .v (.int .i64))], []⟩
abbrev sh0_0 : ES := ⟨[], []⟩
def T0 (n m : Nat) (e : Env) (kn : Env → Option (RVs rsh)) (kx : Nat → Env → Option (RVs rsh)) : Option (RVs rsh) := ES.on sh0 e fun x => l0 n x.1.1 x.1.2.1 (fun _ => kx 0 (sh0_0.enc ((()), (())))) m x.1.2.2.1
def T (n : Nat) : Tab (RVs rsh) := fun j e kn kx => match j with
  | 0 => T0 n n e kn kx
  | _ => none
theorem co (n : Nat) : CtxOk (cx n) := mkCtx_cok TYS_ok
theorem mx (n : Nat) : (cx n).P.follows .mixedOrders = true := mkCtx_mix MIX
theorem mk (n : Nat) : MOk (cx n) := mkCtx_ok (mem_cons (laws_eqTuple.ok n) mem_nil)
theorem us0 : units b0 an0 = [] := by kernel_rfl
theorem e0 (n m : Nat) (v : AVs ash) (x : sh0.V) (kn : Env → Option (RVs rsh)) (kx : Nat → Env → Option (RVs rsh)) : aevT (cx n) 27 (T n) (kr n v) b0 an0 [(0, [])] (meet (some [0, 1, 5]) fun e => T0 n m e kn kx) kx (sh0.enc x) = l0 n x.1.1 x.1.2.1 (fun _ => kx 0 (sh0_0.enc ((()), (())))) (m + 1) x.1.2.2.1 := by kernel_rfl
theorem cl0 : c0 = .loop b0 := by kernel_rfl
theorem u0 (n : Nat) (v : AVs ash) : UnitOk (cx n) 27 (T n) (kr n v) 0 c0 := by
  rw [cl0]
  exact loop_unit (n := n) (co n) (mk n) (mx n) an0 [(0, [])] [0, 1, 5] (T0 n) (fun _ _ _ => rfl) (fun e kn kx out h => by obtain ⟨x, _, h⟩ := ES.on_inv h; cases h) (fun m e kn kx out h => by obtain ⟨x, rfl, h⟩ := ES.on_inv h; exact (e0 n m v x kn kx).trans h) (units_of us0 (mem_nil))
theorem us : units code an = [(0, c0)] := by kernel_rfl
theorem eqn (n : Nat) (v : AVs ash) : fnEvT (cx n) d an (T n) (avEnc ash v) (rvDec rsh) = F n v.1 v.2.1 := by kernel_rfl
theorem ok (n : Nat) : EntOk Tryz.prog 83 (ent n) :=
  ent_ok (c := cx n) (e := ent n) (d := d) (an := an) (fn := Tryz.f83) (co n) (mk n) (mx n) (by kernel_rfl) (by kernel_rfl) (by kernel_rfl) (by kernel_rfl) (by kernel_rfl) (fun _ => T n) (fun v => units_of us (mem_cons (u0 n v) mem_nil)) (eqn n)
end laws_eqTupleS
/-! laws.eqRel -/
namespace laws_eqRel
def F (n : Nat) (a1 : Int × List (List ByteArray)) (b2 : Int × List (List ByteArray)) : Option Bool :=
  if (!decide (a1.1 = b2.1)) = true then
    some false
  else
    (laws_eqTupleS.F n a1.2 b2.2).bind fun r3 =>
    if (!r3) = true then
      some false
    else
      some true
noncomputable def code : Code := Tryz.f32.body.getD .skip
abbrev ash : List ASh := [.ro (.st (.pair (.int .i64) (.sl (.st (.sl (.str)))))), .ro (.st (.pair (.int .i64) (.sl (.st (.sl (.str))))))]
abbrev rsh : List RSh := [.ro .bool]
def ent (n : Nat) : FEnt := ⟨ash, rsh, fun v => F n v.1 v.2.1⟩
noncomputable def cx (n : Nat) : Ctx := mkCtx Tryz.prog TYS [(83, laws_eqTupleS.ent n)]
noncomputable def d : FnD := ⟨code, 16, .nil, [(.tmp 4, .bool, .ro)]⟩
noncomputable def kr (n : Nat) (v : AVs ash) : Env → Option (RVs rsh) := endK (cx n) d (avEnc ash v) (rvDec rsh)
def an : An := .seq .nil (.seq (.seq .nil (.cond (.seq .nil .nil) .nil)) (.seq (.seq .nil (.cond (.seq .nil .nil) .nil)) (.seq .nil .nil)))
def T (n : Nat) : Tab (RVs rsh) := fun j e kn kx => match j with
  | _ => none
theorem co (n : Nat) : CtxOk (cx n) := mkCtx_cok TYS_ok
theorem mx (n : Nat) : (cx n).P.follows .mixedOrders = true := mkCtx_mix MIX
theorem mk (n : Nat) : MOk (cx n) := mkCtx_ok (mem_cons (laws_eqTupleS.ok n) mem_nil)
theorem us : units code an = [] := by kernel_rfl
theorem eqn (n : Nat) (v : AVs ash) : fnEvT (cx n) d an (T n) (avEnc ash v) (rvDec rsh) = F n v.1 v.2.1 := by kernel_rfl
theorem ok (n : Nat) : EntOk Tryz.prog 32 (ent n) :=
  ent_ok (c := cx n) (e := ent n) (d := d) (an := an) (fn := Tryz.f32) (co n) (mk n) (mx n) (by kernel_rfl) (by kernel_rfl) (by kernel_rfl) (by kernel_rfl) (by kernel_rfl) (fun _ => T n) (fun v => units_of us (mem_nil)) (eqn n)
end laws_eqRel
/-! laws.eqRelS -/
namespace laws_eqRelS
def l0 (n : Nat) (a3 : List (Int × List (List ByteArray))) (b4 : List (Int × List (List ByteArray))) (K0 : Unit → Option Bool) : Nat → Int → Option Bool
  | 0, _ => none
  | k + 1, i5 =>
    if decide (i5 < (List.length a3 : Int)) = true then
      if (0 : Int) ≤ i5 ∧ i5 < (List.length a3 : Int) then
        if (0 : Int) ≤ i5 ∧ i5 < (List.length b4 : Int) then
          (laws_eqRel.F n (List.getD a3 (Int.toNat i5) (0, [])) (List.getD b4 (Int.toNat i5) (0, []))).bind fun r6 =>
          if (!r6) = true then
            some false
          else
            l0 n a3 b4 K0 k (IntKind.i64.wrap (i5 + 1))
        else
          none
      else
        none
    else
      K0 ()
def F (n : Nat) (a1 : List (Int × List (List ByteArray))) (b2 : List (Int × List (List ByteArray))) : Option Bool :=
  if (!decide ((List.length a1 : Int) = (List.length b2 : Int))) = true then
    some false
  else
    l0 n a1 b2 (fun _ =>
      some true) n 0
noncomputable def code : Code := Tryz.f52.body.getD .skip
abbrev ash : List ASh := [.ro (.sl (.st (.pair (.int .i64) (.sl (.st (.sl (.str))))))), .ro (.sl (.st (.pair (.int .i64) (.sl (.st (.sl (.str)))))))]
abbrev rsh : List RSh := [.ro .bool]
def ent (n : Nat) : FEnt := ⟨ash, rsh, fun v => F n v.1 v.2.1⟩
noncomputable def cx (n : Nat) : Ctx := mkCtx Tryz.prog TYS [(32, laws_eqRel.ent n)]
noncomputable def d : FnD := ⟨code, 27, .nil, [(.tmp 4, .bool, .ro)]⟩
noncomputable def kr (n : Nat) (v : AVs ash) : Env → Option (RVs rsh) := endK (cx n) d (avEnc ash v) (rvDec rsh)
noncomputable def c0 : Code := (Code.l (Code.r (Code.l (Code.r (Code.r code)))))
noncomputable def b0 : Code := Code.l c0
def an : An := .seq .nil (.seq (.seq .nil (.cond (.seq .nil .nil) .nil)) (.seq (.seq .nil (.block (some []) (.cut 0 [0, 1, 5]))) (.seq .nil .nil)))
def an0 : An := .seq (.seq .nil (.cond .nil .nil)) (.seq (.block (some [0, 1, 5]) (.seq .nil (.cond (.seq .nil .nil) .nil))) .nil)
abbrev sh0 : ES := ⟨[(0, .v (.sl (.st (.pair (.int .i64) (.sl (.st (.sl (.str)))))))), (1, .v (.sl (.st (.pair (.int .i64) (.sl (.st (.sl (.str)))))))), (5, .v (.int .i64))], []⟩
abbrev sh0_0 : ES := ⟨[], []⟩
def T0 (n m : Nat) (e : Env) (kn : Env → Option (RVs rsh)) (kx : Nat → Env → Option (RVs rsh)) : Option (RVs rsh) := ES.on sh0 e fun x => l0 n x.1.1 x.1.2.1 (fun _ => kx 0 (sh0_0.enc ((()), (())))) m x.1.2.2.1
def T (n : Nat) : Tab (RVs rsh) := fun j e kn kx => match j with
  | 0 => T0 n n e kn kx
  | _ => none
theorem co (n : Nat) : CtxOk (cx n) := mkCtx_cok TYS_ok
theorem mx (n : Nat) : (cx n).P.follows .mixedOrders = true := mkCtx_mix MIX
theorem mk (n : Nat) : MOk (cx n) := mkCtx_ok (mem_cons (laws_eqRel.ok n) mem_nil)
theorem us0 : units b0 an0 = [] := by kernel_rfl
theorem e0 (n m : Nat) (v : AVs ash) (x : sh0.V) (kn : Env → Option (RVs rsh)) (kx : Nat → Env → Option (RVs rsh)) : aevT (cx n) 27 (T n) (kr n v) b0 an0 [(0, [])] (meet (some [0, 1, 5]) fun e => T0 n m e kn kx) kx (sh0.enc x) = l0 n x.1.1 x.1.2.1 (fun _ => kx 0 (sh0_0.enc ((()), (())))) (m + 1) x.1.2.2.1 := by kernel_rfl
theorem cl0 : c0 = .loop b0 := by kernel_rfl
theorem u0 (n : Nat) (v : AVs ash) : UnitOk (cx n) 27 (T n) (kr n v) 0 c0 := by
  rw [cl0]
  exact loop_unit (n := n) (co n) (mk n) (mx n) an0 [(0, [])] [0, 1, 5] (T0 n) (fun _ _ _ => rfl) (fun e kn kx out h => by obtain ⟨x, _, h⟩ := ES.on_inv h; cases h) (fun m e kn kx out h => by obtain ⟨x, rfl, h⟩ := ES.on_inv h; exact (e0 n m v x kn kx).trans h) (units_of us0 (mem_nil))
theorem us : units code an = [(0, c0)] := by kernel_rfl
theorem eqn (n : Nat) (v : AVs ash) : fnEvT (cx n) d an (T n) (avEnc ash v) (rvDec rsh) = F n v.1 v.2.1 := by kernel_rfl
theorem ok (n : Nat) : EntOk Tryz.prog 52 (ent n) :=
  ent_ok (c := cx n) (e := ent n) (d := d) (an := an) (fn := Tryz.f52) (co n) (mk n) (mx n) (by kernel_rfl) (by kernel_rfl) (by kernel_rfl) (by kernel_rfl) (by kernel_rfl) (fun _ => T n) (fun v => units_of us (mem_cons (u0 n v) mem_nil)) (eqn n)
end laws_eqRelS
/-! laws.eqDb -/
namespace laws_eqDb
def F (n : Nat) (a1 : List (Int × List (List ByteArray))) (b2 : List (Int × List (List ByteArray))) : Option Bool :=
  (laws_eqRelS.F n a1 b2).bind fun r3 =>
  if (!r3) = true then
    some false
  else
    some true
noncomputable def code : Code := Tryz.f15.body.getD .skip
abbrev ash : List ASh := [.ro (.st (.sl (.st (.pair (.int .i64) (.sl (.st (.sl (.str)))))))), .ro (.st (.sl (.st (.pair (.int .i64) (.sl (.st (.sl (.str))))))))]
abbrev rsh : List RSh := [.ro .bool]
def ent (n : Nat) : FEnt := ⟨ash, rsh, fun v => F n v.1 v.2.1⟩
noncomputable def cx (n : Nat) : Ctx := mkCtx Tryz.prog TYS [(52, laws_eqRelS.ent n)]
noncomputable def d : FnD := ⟨code, 11, .nil, [(.tmp 4, .bool, .ro)]⟩
noncomputable def kr (n : Nat) (v : AVs ash) : Env → Option (RVs rsh) := endK (cx n) d (avEnc ash v) (rvDec rsh)
def an : An := .seq .nil (.seq (.seq .nil (.cond (.seq .nil .nil) .nil)) (.seq .nil .nil))
def T (n : Nat) : Tab (RVs rsh) := fun j e kn kx => match j with
  | _ => none
theorem co (n : Nat) : CtxOk (cx n) := mkCtx_cok TYS_ok
theorem mx (n : Nat) : (cx n).P.follows .mixedOrders = true := mkCtx_mix MIX
theorem mk (n : Nat) : MOk (cx n) := mkCtx_ok (mem_cons (laws_eqRelS.ok n) mem_nil)
theorem us : units code an = [] := by kernel_rfl
theorem eqn (n : Nat) (v : AVs ash) : fnEvT (cx n) d an (T n) (avEnc ash v) (rvDec rsh) = F n v.1 v.2.1 := by kernel_rfl
theorem ok (n : Nat) : EntOk Tryz.prog 15 (ent n) :=
  ent_ok (c := cx n) (e := ent n) (d := d) (an := an) (fn := Tryz.f15) (co n) (mk n) (mx n) (by kernel_rfl) (by kernel_rfl) (by kernel_rfl) (by kernel_rfl) (by kernel_rfl) (fun _ => T n) (fun v => units_of us (mem_nil)) (eqn n)
end laws_eqDb
/-! laws.FnExactDbShape -/
namespace laws_FnExactDbShape
def F (n : Nat) (aD1 : List (Int × List (List ByteArray))) : Option Bool :=
  (laws_szDb.F n aD1 1048576).bind fun r2 =>
  if decide (r2 < 0) = true then
    some true
  else
    (laws_toDb.F n aD1).bind fun r3 =>
    (spec_DbShape.F n r3).bind fun r4 =>
    (laws_toDb.F n aD1).bind fun r5 =>
    (impl_DbShape.F n r5).bind fun r6 =>
    if (!(r6 == r4)) = true then
      some false
    else
      (laws_toDb.F n aD1).bind fun r7 =>
      (laws_eqDb.F n r5 r7).bind fun r8 =>
      if (!r8) = true then
        some false
      else
        some true
noncomputable def code : Code := Tryz.f3.body.getD .skip
abbrev ash : List ASh := [.ro (.st (.sl (.st (.pair (.int .i64) (.sl (.st (.sl (.str))))))))]
abbrev rsh : List RSh := [.ro .bool]
def ent (n : Nat) : FEnt := ⟨ash, rsh, fun v => F n v.1⟩
noncomputable def cx (n : Nat) : Ctx := mkCtx Tryz.prog TYS [(11, laws_szDb.ent n), (12, spec_DbShape.ent n), (13, laws_toDb.ent n), (14, impl_DbShape.ent n), (15, laws_eqDb.ent n)]
noncomputable def d : FnD := ⟨code, 27, .nil, [(.tmp 2, .bool, .ro)]⟩
noncomputable def kr (n : Nat) (v : AVs ash) : Env → Option (RVs rsh) := endK (cx n) d (avEnc ash v) (rvDec rsh)
def an : An := .seq .nil (.seq .nil (.seq .nil (.seq (.seq .nil (.cond (.seq .nil .nil) .nil)) (.seq .nil (.seq .nil (.seq .nil (.seq (.seq .nil (.cond (.seq .nil .nil) .nil)) (.seq (.seq .nil (.cond (.seq .nil .nil) .nil)) (.seq .nil .nil)))))))))
def T (n : Nat) : Tab (RVs rsh) := fun j e kn kx => match j with
  | _ => none
theorem co (n : Nat) : CtxOk (cx n) := mkCtx_cok TYS_ok
theorem mx (n : Nat) : (cx n).P.follows .mixedOrders = true := mkCtx_mix MIX
theorem mk (n : Nat) : MOk (cx n) := mkCtx_ok (mem_cons (laws_szDb.ok n) (mem_cons (spec_DbShape.ok n) (mem_cons (laws_toDb.ok n) (mem_cons (impl_DbShape.ok n) (mem_cons (laws_eqDb.ok n) mem_nil)))))
theorem us : units code an = [] := by kernel_rfl
theorem eqn (n : Nat) (v : AVs ash) : fnEvT (cx n) d an (T n) (avEnc ash v) (rvDec rsh) = F n v.1 := by kernel_rfl
theorem ok (n : Nat) : EntOk Tryz.prog 3 (ent n) :=
  ent_ok (c := cx n) (e := ent n) (d := d) (an := an) (fn := Tryz.f3) (co n) (mk n) (mx n) (by kernel_rfl) (by kernel_rfl) (by kernel_rfl) (by kernel_rfl) (by kernel_rfl) (fun _ => T n) (fun v => units_of us (mem_nil)) (eqn n)
end laws_FnExactDbShape
end Go.Abs
