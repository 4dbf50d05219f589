/- The functions, and that a call of each comes to it. Conditions: none. -/
import Derived.Test.YtmpickbajdimdaaF0
namespace Go.Abs
open Go.Proofs
set_option linter.unusedVariables false
/-! laws.toRelDecl -/
namespace laws_toRelDecl
def F (n : Nat) (a1 : ByteArray × (List ByteArray) × Int) : Option (ByteArray × (List ByteArray) × Int) :=
  (laws_toStringS.F n a1.2.1).bind fun r2 =>
  some (a1.1, (r2, a1.2.2))
noncomputable def code : Code := Try.f108.body.getD .skip
abbrev ash : List ASh := [.ro (.st (.pair (.str) (.pair (.sl (.str)) (.int .i64))))]
abbrev rsh : List RSh := [.own (.st (.pair (.str) (.pair (.sl (.str)) (.int .i64)))) (.pr .ro (.pr (.own .ro) .ro))]
def ent (n : Nat) : FEnt := ⟨ash, rsh, fun v => F n v.1⟩
noncomputable def cx (n : Nat) : Ctx := mkCtx Try.prog TYS [(121, laws_toStringS.ent n)]
noncomputable def d : FnD := ⟨code, 15, .nil, [(.cell 2 110, .st (.pair (.str) (.pair (.sl (.str)) (.int .i64))), .pr .ro (.pr (.own .ro) .ro))]⟩
noncomputable def kr (n : Nat) (v : AVs ash) : Env → Option (RVs rsh) := endK (cx n) d (avEnc ash v) (rvDec rsh)
def an : An := .seq (.reg [(2, .pr .ro (.pr (.own .ro) .ro))]) (.seq (.reg [(3, .pr .ro (.pr (.own .ro) .ro))]) (.seq .nil (.seq (.reg [(9, .own .ro)]) (.seq .nil (.seq .nil .nil)))))
def T (n : Nat) : Tab (RVs rsh) := fun j e kn kx => match j with
  | _ => none
theorem co (n : Nat) : CtxOk (cx n) := mkCtx_cok TYS_ok
theorem mx (n : Nat) : (cx n).P.follows .mixedOrders = true := mkCtx_mix MIX
theorem mk (n : Nat) : MOk (cx n) := mkCtx_ok (mem_cons (laws_toStringS.ok n) mem_nil)
theorem us : units code an = [] := by kernel_rfl
theorem eqn (n : Nat) (v : AVs ash) : fnEvT (cx n) d an (T n) (avEnc ash v) (rvDec rsh) = F n v.1 := by kernel_rfl
theorem ok (n : Nat) : EntOk Try.prog 108 (ent n) :=
  ent_ok (c := cx n) (e := ent n) (d := d) (an := an) (fn := Try.f108) (co n) (mk n) (mx n) (by kernel_rfl) (by kernel_rfl) (by kernel_rfl) (by kernel_rfl) (by kernel_rfl) (fun _ => T n) (fun v => units_of us (mem_nil)) (eqn n)
end laws_toRelDecl
/-! laws.toRelDeclS -/
namespace laws_toRelDeclS
def l0 (n : Nat) (a2 : List (ByteArray × (List ByteArray) × Int)) (K0 : (List (ByteArray × (List ByteArray) × Int)) → Option (List (ByteArray × (List ByteArray) × Int))) : Nat → Int → (List (ByteArray × (List ByteArray) × Int)) → Option (List (ByteArray × (List ByteArray) × Int))
  | 0, _, _ => none
  | k + 1, i3, out4 =>
    if decide (i3 < (List.length a2 : Int)) = true then
      if 0 ≤ i3 ∧ i3 < (List.length a2 : Int) then
        (laws_toRelDecl.F n (List.getD a2 (Int.toNat i3) (ByteArray.empty, ([], 0)))).bind fun r5 =>
        if 0 ≤ i3 ∧ i3 < (List.length out4 : Int) then
          l0 n a2 K0 k (IntKind.i64.wrap (i3 + 1)) (List.set out4 (Int.toNat i3) r5)
        else
          none
      else
        none
    else
      K0 out4
def F (n : Nat) (a1 : List (ByteArray × (List ByteArray) × Int)) : Option (List (ByteArray × (List ByteArray) × Int)) :=
  if 0 ≤ (List.length a1 : Int) ∧ (List.length a1 : Int) ≤ (List.length a1 : Int) ∧ (List.length a1 : Int) ≤ (lim : Int) then
    l0 n a1 (fun out6 =>
      some out6) n 0 (List.replicate (Int.toNat (List.length a1 : Int)) (ByteArray.empty, ([], 0)))
  else
    none
noncomputable def code : Code := Try.f66.body.getD .skip
abbrev ash : List ASh := [.ro (.sl (.st (.pair (.str) (.pair (.sl (.str)) (.int .i64)))))]
abbrev rsh : List RSh := [.own (.sl (.st (.pair (.str) (.pair (.sl (.str)) (.int .i64))))) (.own (.pr .ro (.pr (.own .ro) .ro)))]
def ent (n : Nat) : FEnt := ⟨ash, rsh, fun v => F n v.1⟩
noncomputable def cx (n : Nat) : Ctx := mkCtx Try.prog TYS [(108, laws_toRelDecl.ent n)]
noncomputable def d : FnD := ⟨code, 23, .nil, [(.tmp 2, .sl (.st (.pair (.str) (.pair (.sl (.str)) (.int .i64)))), .own (.pr .ro (.pr (.own .ro) .ro)))]⟩
noncomputable def kr (n : Nat) (v : AVs ash) : Env → Option (RVs rsh) := endK (cx n) d (avEnc ash v) (rvDec rsh)
noncomputable def c0 : Code := (Code.l (Code.r (Code.l (Code.r (Code.r code)))))
noncomputable def b0 : Code := Code.l c0
def an : An := .seq .nil (.seq (.reg [(7, .own (.pr .ro (.pr (.own .ro) .ro)))]) (.seq (.seq .nil (.block (some [3]) (.cut 0 [0, 3, 4]))) (.seq .nil .nil)))
def an0 : An := .seq (.seq .nil (.cond .nil .nil)) (.seq (.block (some [0, 3, 4]) (.reg [(20, .pr .ro (.pr (.own .ro) .ro))])) .nil)
abbrev sh0 : ES := ⟨[(0, .v (.sl (.st (.pair (.str) (.pair (.sl (.str)) (.int .i64)))))), (3, .al 3 []), (4, .v (.int .i64))], [⟨3, .sl (.st (.pair (.str) (.pair (.sl (.str)) (.int .i64)))), .own (.pr .ro (.pr (.own .ro) .ro)), false, false⟩]⟩
abbrev sh0_0 : ES := ⟨[(3, .al 3 [])], [⟨3, .sl (.st (.pair (.str) (.pair (.sl (.str)) (.int .i64)))), .own (.pr .ro (.pr (.own .ro) .ro)), false, false⟩]⟩
def T0 (n m : Nat) (e : Env) (kn : Env → Option (RVs rsh)) (kx : Nat → Env → Option (RVs rsh)) : Option (RVs rsh) := ES.on sh0 e fun x => l0 n x.1.1 (fun y0 => kx 0 (sh0_0.enc (((()), ()), (y0, ())))) m x.1.2.2.1 x.2.1
def T (n : Nat) : Tab (RVs rsh) := fun j e kn kx => match j with
  | 0 => T0 n n e kn kx
  | _ => none
theorem co (n : Nat) : CtxOk (cx n) := mkCtx_cok TYS_ok
theorem mx (n : Nat) : (cx n).P.follows .mixedOrders = true := mkCtx_mix MIX
theorem mk (n : Nat) : MOk (cx n) := mkCtx_ok (mem_cons (laws_toRelDecl.ok n) mem_nil)
theorem us0 : units b0 an0 = [] := by kernel_rfl
theorem e0 (n m : Nat) (v : AVs ash) (x : sh0.V) (kn : Env → Option (RVs rsh)) (kx : Nat → Env → Option (RVs rsh)) : aevT (cx n) 23 (T n) (kr n v) b0 an0 [(0, [3])] (meet (some [0, 3, 4]) fun e => T0 n m e kn kx) kx (sh0.enc x) = l0 n x.1.1 (fun y0 => kx 0 (sh0_0.enc (((()), ()), (y0, ())))) (m + 1) x.1.2.2.1 x.2.1 := by kernel_rfl
theorem cl0 : c0 = .loop b0 := by kernel_rfl
theorem u0 (n : Nat) (v : AVs ash) : UnitOk (cx n) 23 (T n) (kr n v) 0 c0 := by
  rw [cl0]
  exact loop_unit (n := n) (co n) (mk n) (mx n) an0 [(0, [3])] [0, 3, 4] (T0 n) (fun _ _ _ => rfl) (fun e kn kx out h => by obtain ⟨x, _, h⟩ := ES.on_inv h; cases h) (fun m e kn kx out h => by obtain ⟨x, rfl, h⟩ := ES.on_inv h; exact (e0 n m v x kn kx).trans h) (units_of us0 (mem_nil))
theorem us : units code an = [(0, c0)] := by kernel_rfl
theorem eqn (n : Nat) (v : AVs ash) : fnEvT (cx n) d an (T n) (avEnc ash v) (rvDec rsh) = F n v.1 := by kernel_rfl
theorem ok (n : Nat) : EntOk Try.prog 66 (ent n) :=
  ent_ok (c := cx n) (e := ent n) (d := d) (an := an) (fn := Try.f66) (co n) (mk n) (mx n) (by kernel_rfl) (by kernel_rfl) (by kernel_rfl) (by kernel_rfl) (by kernel_rfl) (fun _ => T n) (fun v => units_of us (mem_cons (u0 n v) mem_nil)) (eqn n)
end laws_toRelDeclS
/-! laws.toIntS -/
namespace laws_toIntS
def l0 (n : Nat) (a2 : List Int) (K0 : (List Int) → Option (List Int)) : Nat → Int → (List Int) → Option (List Int)
  | 0, _, _ => none
  | k + 1, i3, out4 =>
    if decide (i3 < (List.length a2 : Int)) = true then
      if 0 ≤ i3 ∧ i3 < (List.length a2 : Int) then
        if 0 ≤ i3 ∧ i3 < (List.length out4 : Int) then
          let w5 : List Int := List.set out4 (Int.toNat i3) (List.getD a2 (Int.toNat i3) 0)
          l0 n a2 K0 k (IntKind.i64.wrap (i3 + 1)) w5
        else
          none
      else
        none
    else
      K0 out4
def F (n : Nat) (a1 : List Int) : Option (List Int) :=
  if 0 ≤ (List.length a1 : Int) ∧ (List.length a1 : Int) ≤ (List.length a1 : Int) ∧ (List.length a1 : Int) ≤ (lim : Int) then
    l0 n a1 (fun out6 =>
      some out6) n 0 (List.replicate (Int.toNat (List.length a1 : Int)) 0)
  else
    none
noncomputable def code : Code := Try.f96.body.getD .skip
abbrev ash : List ASh := [.ro (.sl (.int .i64))]
abbrev rsh : List RSh := [.own (.sl (.int .i64)) (.own .ro)]
def ent (n : Nat) : FEnt := ⟨ash, rsh, fun v => F n v.1⟩
noncomputable def cx (n : Nat) : Ctx := mkCtx Try.prog TYS []
noncomputable def d : FnD := ⟨code, 22, .nil, [(.tmp 2, .sl (.int .i64), .own .ro)]⟩
noncomputable def kr (n : Nat) (v : AVs ash) : Env → Option (RVs rsh) := endK (cx n) d (avEnc ash v) (rvDec rsh)
noncomputable def c0 : Code := (Code.l (Code.r (Code.l (Code.r (Code.r code)))))
noncomputable def b0 : Code := Code.l c0
def an : An := .seq .nil (.seq (.reg [(7, .own .ro)]) (.seq (.seq .nil (.block (some [3]) (.cut 0 [0, 3, 4]))) (.seq .nil .nil)))
def an0 : An := .seq (.seq .nil (.cond .nil .nil)) (.seq (.block (some [0, 3, 4]) .nil) .nil)
abbrev sh0 : ES := ⟨[(0, .v (.sl (.int .i64))), (3, .al 3 []), (4, .v (.int .i64))], [⟨3, .sl (.int .i64), .own .ro, false, false⟩]⟩
abbrev sh0_0 : ES := ⟨[(3, .al 3 [])], [⟨3, .sl (.int .i64), .own .ro, false, false⟩]⟩
def T0 (n m : Nat) (e : Env) (kn : Env → Option (RVs rsh)) (kx : Nat → Env → Option (RVs rsh)) : Option (RVs rsh) := ES.on sh0 e fun x => l0 n x.1.1 (fun y0 => kx 0 (sh0_0.enc (((()), ()), (y0, ())))) m x.1.2.2.1 x.2.1
def T (n : Nat) : Tab (RVs rsh) := fun j e kn kx => match j with
  | 0 => T0 n n e kn kx
  | _ => none
theorem co (n : Nat) : CtxOk (cx n) := mkCtx_cok TYS_ok
theorem mx (n : Nat) : (cx n).P.follows .mixedOrders = true := mkCtx_mix MIX
theorem mk (n : Nat) : MOk (cx n) := mkCtx_ok (mem_nil)
theorem us0 : units b0 an0 = [] := by kernel_rfl
theorem e0 (n m : Nat) (v : AVs ash) (x : sh0.V) (kn : Env → Option (RVs rsh)) (kx : Nat → Env → Option (RVs rsh)) : aevT (cx n) 22 (T n) (kr n v) b0 an0 [(0, [3])] (meet (some [0, 3, 4]) fun e => T0 n m e kn kx) kx (sh0.enc x) = l0 n x.1.1 (fun y0 => kx 0 (sh0_0.enc (((()), ()), (y0, ())))) (m + 1) x.1.2.2.1 x.2.1 := by kernel_rfl
theorem cl0 : c0 = .loop b0 := by kernel_rfl
theorem u0 (n : Nat) (v : AVs ash) : UnitOk (cx n) 22 (T n) (kr n v) 0 c0 := by
  rw [cl0]
  exact loop_unit (n := n) (co n) (mk n) (mx n) an0 [(0, [3])] [0, 3, 4] (T0 n) (fun _ _ _ => rfl) (fun e kn kx out h => by obtain ⟨x, _, h⟩ := ES.on_inv h; cases h) (fun m e kn kx out h => by obtain ⟨x, rfl, h⟩ := ES.on_inv h; exact (e0 n m v x kn kx).trans h) (units_of us0 (mem_nil))
theorem us : units code an = [(0, c0)] := by kernel_rfl
theorem eqn (n : Nat) (v : AVs ash) : fnEvT (cx n) d an (T n) (avEnc ash v) (rvDec rsh) = F n v.1 := by kernel_rfl
theorem ok (n : Nat) : EntOk Try.prog 96 (ent n) :=
  ent_ok (c := cx n) (e := ent n) (d := d) (an := an) (fn := Try.f96) (co n) (mk n) (mx n) (by kernel_rfl) (by kernel_rfl) (by kernel_rfl) (by kernel_rfl) (by kernel_rfl) (fun _ => T n) (fun v => units_of us (mem_cons (u0 n v) mem_nil)) (eqn n)
end laws_toIntS
/-! laws.toExp -/
namespace laws_toExp
def F (n : Nat) (a1 : Int × ByteArray × List Int) : Option (Int × ByteArray × List Int) :=
  (laws_toIntS.F n a1.2.2).bind fun r2 =>
  some (a1.1, (a1.2.1, r2))
noncomputable def code : Code := Try.f95.body.getD .skip
abbrev ash : List ASh := [.ro (.st (.pair (.int .i64) (.pair (.str) (.sl (.int .i64)))))]
abbrev rsh : List RSh := [.own (.st (.pair (.int .i64) (.pair (.str) (.sl (.int .i64))))) (.pr .ro (.pr .ro (.own .ro)))]
def ent (n : Nat) : FEnt := ⟨ash, rsh, fun v => F n v.1⟩
noncomputable def cx (n : Nat) : Ctx := mkCtx Try.prog TYS [(96, laws_toIntS.ent n)]
noncomputable def d : FnD := ⟨code, 15, .nil, [(.cell 2 98, .st (.pair (.int .i64) (.pair (.str) (.sl (.int .i64)))), .pr .ro (.pr .ro (.own .ro)))]⟩
noncomputable def kr (n : Nat) (v : AVs ash) : Env → Option (RVs rsh) := endK (cx n) d (avEnc ash v) (rvDec rsh)
def an : An := .seq (.reg [(2, .pr .ro (.pr .ro (.own .ro)))]) (.seq (.reg [(3, .pr .ro (.pr .ro (.own .ro)))]) (.seq .nil (.seq .nil (.seq (.reg [(12, .own .ro)]) (.seq .nil .nil)))))
def T (n : Nat) : Tab (RVs rsh) := fun j e kn kx => match j with
  | _ => none
theorem co (n : Nat) : CtxOk (cx n) := mkCtx_cok TYS_ok
theorem mx (n : Nat) : (cx n).P.follows .mixedOrders = true := mkCtx_mix MIX
theorem mk (n : Nat) : MOk (cx n) := mkCtx_ok (mem_cons (laws_toIntS.ok n) mem_nil)
theorem us : units code an = [] := by kernel_rfl
theorem eqn (n : Nat) (v : AVs ash) : fnEvT (cx n) d an (T n) (avEnc ash v) (rvDec rsh) = F n v.1 := by kernel_rfl
theorem ok (n : Nat) : EntOk Try.prog 95 (ent n) :=
  ent_ok (c := cx n) (e := ent n) (d := d) (an := an) (fn := Try.f95) (co n) (mk n) (mx n) (by kernel_rfl) (by kernel_rfl) (by kernel_rfl) (by kernel_rfl) (by kernel_rfl) (fun _ => T n) (fun v => units_of us (mem_nil)) (eqn n)
end laws_toExp
/-! laws.toExpS -/
namespace laws_toExpS
def l0 (n : Nat) (a2 : List (Int × ByteArray × List Int)) (K0 : (List (Int × ByteArray × List Int)) → Option (List (Int × ByteArray × List Int))) : Nat → Int → (List (Int × ByteArray × List Int)) → Option (List (Int × ByteArray × List Int))
  | 0, _, _ => none
  | k + 1, i3, out4 =>
    if decide (i3 < (List.length a2 : Int)) = true then
      if 0 ≤ i3 ∧ i3 < (List.length a2 : Int) then
        (laws_toExp.F n (List.getD a2 (Int.toNat i3) (0, (ByteArray.empty, [])))).bind fun r5 =>
        if 0 ≤ i3 ∧ i3 < (List.length out4 : Int) then
          l0 n a2 K0 k (IntKind.i64.wrap (i3 + 1)) (List.set out4 (Int.toNat i3) r5)
        else
          none
      else
        none
    else
      K0 out4
def F (n : Nat) (a1 : List (Int × ByteArray × List Int)) : Option (List (Int × ByteArray × List Int)) :=
  if 0 ≤ (List.length a1 : Int) ∧ (List.length a1 : Int) ≤ (List.length a1 : Int) ∧ (List.length a1 : Int) ≤ (lim : Int) then
    l0 n a1 (fun out6 =>
      some out6) n 0 (List.replicate (Int.toNat (List.length a1 : Int)) (0, (ByteArray.empty, [])))
  else
    none
noncomputable def code : Code := Try.f55.body.getD .skip
abbrev ash : List ASh := [.ro (.sl (.st (.pair (.int .i64) (.pair (.str) (.sl (.int .i64))))))]
abbrev rsh : List RSh := [.own (.sl (.st (.pair (.int .i64) (.pair (.str) (.sl (.int .i64)))))) (.own (.pr .ro (.pr .ro (.own .ro))))]
def ent (n : Nat) : FEnt := ⟨ash, rsh, fun v => F n v.1⟩
noncomputable def cx (n : Nat) : Ctx := mkCtx Try.prog TYS [(95, laws_toExp.ent n)]
noncomputable def d : FnD := ⟨code, 23, .nil, [(.tmp 2, .sl (.st (.pair (.int .i64) (.pair (.str) (.sl (.int .i64))))), .own (.pr .ro (.pr .ro (.own .ro))))]⟩
noncomputable def kr (n : Nat) (v : AVs ash) : Env → Option (RVs rsh) := endK (cx n) d (avEnc ash v) (rvDec rsh)
noncomputable def c0 : Code := (Code.l (Code.r (Code.l (Code.r (Code.r code)))))
noncomputable def b0 : Code := Code.l c0
def an : An := .seq .nil (.seq (.reg [(7, .own (.pr .ro (.pr .ro (.own .ro))))]) (.seq (.seq .nil (.block (some [3]) (.cut 0 [0, 3, 4]))) (.seq .nil .nil)))
def an0 : An := .seq (.seq .nil (.cond .nil .nil)) (.seq (.block (some [0, 3, 4]) (.reg [(20, .pr .ro (.pr .ro (.own .ro)))])) .nil)
abbrev sh0 : ES := ⟨[(0, .v (.sl (.st (.pair (.int .i64) (.pair (.str) (.sl (.int .i64))))))), (3, .al 3 []), (4, .v (.int .i64))], [⟨3, .sl (.st (.pair (.int .i64) (.pair (.str) (.sl (.int .i64))))), .own (.pr .ro (.pr .ro (.own .ro))), false, false⟩]⟩
abbrev sh0_0 : ES := ⟨[(3, .al 3 [])], [⟨3, .sl (.st (.pair (.int .i64) (.pair (.str) (.sl (.int .i64))))), .own (.pr .ro (.pr .ro (.own .ro))), false, false⟩]⟩
def T0 (n m : Nat) (e : Env) (kn : Env → Option (RVs rsh)) (kx : Nat → Env → Option (RVs rsh)) : Option (RVs rsh) := ES.on sh0 e fun x => l0 n x.1.1 (fun y0 => kx 0 (sh0_0.enc (((()), ()), (y0, ())))) m x.1.2.2.1 x.2.1
def T (n : Nat) : Tab (RVs rsh) := fun j e kn kx => match j with
  | 0 => T0 n n e kn kx
  | _ => none
theorem co (n : Nat) : CtxOk (cx n) := mkCtx_cok TYS_ok
theorem mx (n : Nat) : (cx n).P.follows .mixedOrders = true := mkCtx_mix MIX
theorem mk (n : Nat) : MOk (cx n) := mkCtx_ok (mem_cons (laws_toExp.ok n) mem_nil)
theorem us0 : units b0 an0 = [] := by kernel_rfl
theorem e0 (n m : Nat) (v : AVs ash) (x : sh0.V) (kn : Env → Option (RVs rsh)) (kx : Nat → Env → Option (RVs rsh)) : aevT (cx n) 23 (T n) (kr n v) b0 an0 [(0, [3])] (meet (some [0, 3, 4]) fun e => T0 n m e kn kx) kx (sh0.enc x) = l0 n x.1.1 (fun y0 => kx 0 (sh0_0.enc (((()), ()), (y0, ())))) (m + 1) x.1.2.2.1 x.2.1 := by kernel_rfl
theorem cl0 : c0 = .loop b0 := by kernel_rfl
theorem u0 (n : Nat) (v : AVs ash) : UnitOk (cx n) 23 (T n) (kr n v) 0 c0 := by
  rw [cl0]
  exact loop_unit (n := n) (co n) (mk n) (mx n) an0 [(0, [3])] [0, 3, 4] (T0 n) (fun _ _ _ => rfl) (fun e kn kx out h => by obtain ⟨x, _, h⟩ := ES.on_inv h; cases h) (fun m e kn kx out h => by obtain ⟨x, rfl, h⟩ := ES.on_inv h; exact (e0 n m v x kn kx).trans h) (units_of us0 (mem_nil))
theorem us : units code an = [(0, c0)] := by kernel_rfl
theorem eqn (n : Nat) (v : AVs ash) : fnEvT (cx n) d an (T n) (avEnc ash v) (rvDec rsh) = F n v.1 := by kernel_rfl
theorem ok (n : Nat) : EntOk Try.prog 55 (ent n) :=
  ent_ok (c := cx n) (e := ent n) (d := d) (an := an) (fn := Try.f55) (co n) (mk n) (mx n) (by kernel_rfl) (by kernel_rfl) (by kernel_rfl) (by kernel_rfl) (by kernel_rfl) (fun _ => T n) (fun v => units_of us (mem_cons (u0 n v) mem_nil)) (eqn n)
end laws_toExpS
/-! laws.toLit -/
namespace laws_toLit
def F (n : Nat) (a1 : Int × ByteArray × List Int) : Option (Int × ByteArray × List Int) :=
  (laws_toIntS.F n a1.2.2).bind fun r2 =>
  some (a1.1, (a1.2.1, r2))
noncomputable def code : Code := Try.f56.body.getD .skip
abbrev ash : List ASh := [.ro (.st (.pair (.int .i64) (.pair (.str) (.sl (.int .i64)))))]
abbrev rsh : List RSh := [.own (.st (.pair (.int .i64) (.pair (.str) (.sl (.int .i64))))) (.pr .ro (.pr .ro (.own .ro)))]
def ent (n : Nat) : FEnt := ⟨ash, rsh, fun v => F n v.1⟩
noncomputable def cx (n : Nat) : Ctx := mkCtx Try.prog TYS [(96, laws_toIntS.ent n)]
noncomputable def d : FnD := ⟨code, 15, .nil, [(.cell 2 43, .st (.pair (.int .i64) (.pair (.str) (.sl (.int .i64)))), .pr .ro (.pr .ro (.own .ro)))]⟩
noncomputable def kr (n : Nat) (v : AVs ash) : Env → Option (RVs rsh) := endK (cx n) d (avEnc ash v) (rvDec rsh)
def an : An := .seq (.reg [(2, .pr .ro (.pr .ro (.own .ro)))]) (.seq (.reg [(3, .pr .ro (.pr .ro (.own .ro)))]) (.seq .nil (.seq .nil (.seq (.reg [(12, .own .ro)]) (.seq .nil .nil)))))
def T (n : Nat) : Tab (RVs rsh) := fun j e kn kx => match j with
  | _ => none
theorem co (n : Nat) : CtxOk (cx n) := mkCtx_cok TYS_ok
theorem mx (n : Nat) : (cx n).P.follows .mixedOrders = true := mkCtx_mix MIX
theorem mk (n : Nat) : MOk (cx n) := mkCtx_ok (mem_cons (laws_toIntS.ok n) mem_nil)
theorem us : units code an = [] := by kernel_rfl
theorem eqn (n : Nat) (v : AVs ash) : fnEvT (cx n) d an (T n) (avEnc ash v) (rvDec rsh) = F n v.1 := by kernel_rfl
theorem ok (n : Nat) : EntOk Try.prog 56 (ent n) :=
  ent_ok (c := cx n) (e := ent n) (d := d) (an := an) (fn := Try.f56) (co n) (mk n) (mx n) (by kernel_rfl) (by kernel_rfl) (by kernel_rfl) (by kernel_rfl) (by kernel_rfl) (fun _ => T n) (fun v => units_of us (mem_nil)) (eqn n)
end laws_toLit
/-! laws.toLitS -/
namespace laws_toLitS
def l0 (n : Nat) (a2 : List (Int × ByteArray × List Int)) (K0 : (List (Int × ByteArray × List Int)) → Option (List (Int × ByteArray × List Int))) : Nat → Int → (List (Int × ByteArray × List Int)) → Option (List (Int × ByteArray × List Int))
  | 0, _, _ => none
  | k + 1, i3, out4 =>
    if decide (i3 < (List.length a2 : Int)) = true then
      if 0 ≤ i3 ∧ i3 < (List.length a2 : Int) then
        (laws_toLit.F n (List.getD a2 (Int.toNat i3) (0, (ByteArray.empty, [])))).bind fun r5 =>
        if 0 ≤ i3 ∧ i3 < (List.length out4 : Int) then
          l0 n a2 K0 k (IntKind.i64.wrap (i3 + 1)) (List.set out4 (Int.toNat i3) r5)
        else
          none
      else
        none
    else
      K0 out4
def F (n : Nat) (a1 : List (Int × ByteArray × List Int)) : Option (List (Int × ByteArray × List Int)) :=
  if 0 ≤ (List.length a1 : Int) ∧ (List.length a1 : Int) ≤ (List.length a1 : Int) ∧ (List.length a1 : Int) ≤ (lim : Int) then
    l0 n a1 (fun out6 =>
      some out6) n 0 (List.replicate (Int.toNat (List.length a1 : Int)) (0, (ByteArray.empty, [])))
  else
    none
noncomputable def code : Code := Try.f57.body.getD .skip
abbrev ash : List ASh := [.ro (.sl (.st (.pair (.int .i64) (.pair (.str) (.sl (.int .i64))))))]
abbrev rsh : List RSh := [.own (.sl (.st (.pair (.int .i64) (.pair (.str) (.sl (.int .i64)))))) (.own (.pr .ro (.pr .ro (.own .ro))))]
def ent (n : Nat) : FEnt := ⟨ash, rsh, fun v => F n v.1⟩
noncomputable def cx (n : Nat) : Ctx := mkCtx Try.prog TYS [(56, laws_toLit.ent n)]
noncomputable def d : FnD := ⟨code, 23, .nil, [(.tmp 2, .sl (.st (.pair (.int .i64) (.pair (.str) (.sl (.int .i64))))), .own (.pr .ro (.pr .ro (.own .ro))))]⟩
noncomputable def kr (n : Nat) (v : AVs ash) : Env → Option (RVs rsh) := endK (cx n) d (avEnc ash v) (rvDec rsh)
noncomputable def c0 : Code := (Code.l (Code.r (Code.l (Code.r (Code.r code)))))
noncomputable def b0 : Code := Code.l c0
def an : An := .seq .nil (.seq (.reg [(7, .own (.pr .ro (.pr .ro (.own .ro))))]) (.seq (.seq .nil (.block (some [3]) (.cut 0 [0, 3, 4]))) (.seq .nil .nil)))
def an0 : An := .seq (.seq .nil (.cond .nil .nil)) (.seq (.block (some [0, 3, 4]) (.reg [(20, .pr .ro (.pr .ro (.own .ro)))])) .nil)
abbrev sh0 : ES := ⟨[(0, .v (.sl (.st (.pair (.int .i64) (.pair (.str) (.sl (.int .i64))))))), (3, .al 3 []), (4, .v (.int .i64))], [⟨3, .sl (.st (.pair (.int .i64) (.pair (.str) (.sl (.int .i64))))), .own (.pr .ro (.pr .ro (.own .ro))), false, false⟩]⟩
abbrev sh0_0 : ES := ⟨[(3, .al 3 [])], [⟨3, .sl (.st (.pair (.int .i64) (.pair (.str) (.sl (.int .i64))))), .own (.pr .ro (.pr .ro (.own .ro))), false, false⟩]⟩
def T0 (n m : Nat) (e : Env) (kn : Env → Option (RVs rsh)) (kx : Nat → Env → Option (RVs rsh)) : Option (RVs rsh) := ES.on sh0 e fun x => l0 n x.1.1 (fun y0 => kx 0 (sh0_0.enc (((()), ()), (y0, ())))) m x.1.2.2.1 x.2.1
def T (n : Nat) : Tab (RVs rsh) := fun j e kn kx => match j with
  | 0 => T0 n n e kn kx
  | _ => none
theorem co (n : Nat) : CtxOk (cx n) := mkCtx_cok TYS_ok
theorem mx (n : Nat) : (cx n).P.follows .mixedOrders = true := mkCtx_mix MIX
theorem mk (n : Nat) : MOk (cx n) := mkCtx_ok (mem_cons (laws_toLit.ok n) mem_nil)
theorem us0 : units b0 an0 = [] := by kernel_rfl
theorem e0 (n m : Nat) (v : AVs ash) (x : sh0.V) (kn : Env → Option (RVs rsh)) (kx : Nat → Env → Option (RVs rsh)) : aevT (cx n) 23 (T n) (kr n v) b0 an0 [(0, [3])] (meet (some [0, 3, 4]) fun e => T0 n m e kn kx) kx (sh0.enc x) = l0 n x.1.1 (fun y0 => kx 0 (sh0_0.enc (((()), ()), (y0, ())))) (m + 1) x.1.2.2.1 x.2.1 := by kernel_rfl
theorem cl0 : c0 = .loop b0 := by kernel_rfl
theorem u0 (n : Nat) (v : AVs ash) : UnitOk (cx n) 23 (T n) (kr n v) 0 c0 := by
  rw [cl0]
  exact loop_unit (n := n) (co n) (mk n) (mx n) an0 [(0, [3])] [0, 3, 4] (T0 n) (fun _ _ _ => rfl) (fun e kn kx out h => by obtain ⟨x, _, h⟩ := ES.on_inv h; cases h) (fun m e kn kx out h => by obtain ⟨x, rfl, h⟩ := ES.on_inv h; exact (e0 n m v x kn kx).trans h) (units_of us0 (mem_nil))
theorem us : units code an = [(0, c0)] := by kernel_rfl
theorem eqn (n : Nat) (v : AVs ash) : fnEvT (cx n) d an (T n) (avEnc ash v) (rvDec rsh) = F n v.1 := by kernel_rfl
theorem ok (n : Nat) : EntOk Try.prog 57 (ent n) :=
  ent_ok (c := cx n) (e := ent n) (d := d) (an := an) (fn := Try.f57) (co n) (mk n) (mx n) (by kernel_rfl) (by kernel_rfl) (by kernel_rfl) (by kernel_rfl) (by kernel_rfl) (fun _ => T n) (fun v => units_of us (mem_cons (u0 n v) mem_nil)) (eqn n)
end laws_toLitS
/-! laws.toRule -/
namespace laws_toRule
def F (n : Nat) (a1 : (List (Int × ByteArray × List Int)) × (Int × ByteArray × List Int) × List (Int × ByteArray × List Int)) : Option ((List (Int × ByteArray × List Int)) × (Int × ByteArray × List Int) × List (Int × ByteArray × List Int)) :=
  (laws_toExpS.F n a1.1).bind fun r2 =>
  (laws_toLit.F n a1.2.1).bind fun r3 =>
  (laws_toLitS.F n a1.2.2).bind fun r4 =>
  some (r2, (r3, r4))
noncomputable def code : Code := Try.f20.body.getD .skip
abbrev ash : List ASh := [.ro (.st (.pair (.sl (.st (.pair (.int .i64) (.pair (.str) (.sl (.int .i64)))))) (.pair (.st (.pair (.int .i64) (.pair (.str) (.sl (.int .i64))))) (.sl (.st (.pair (.int .i64) (.pair (.str) (.sl (.int .i64)))))))))]
abbrev rsh : List RSh := [.own (.st (.pair (.sl (.st (.pair (.int .i64) (.pair (.str) (.sl (.int .i64)))))) (.pair (.st (.pair (.int .i64) (.pair (.str) (.sl (.int .i64))))) (.sl (.st (.pair (.int .i64) (.pair (.str) (.sl (.int .i64))))))))) (.pr (.own (.pr .ro (.pr .ro (.own .ro)))) (.pr (.pr .ro (.pr .ro (.own .ro))) (.own (.pr .ro (.pr .ro (.own .ro))))))]
def ent (n : Nat) : FEnt := ⟨ash, rsh, fun v => F n v.1⟩
noncomputable def cx (n : Nat) : Ctx := mkCtx Try.prog TYS [(55, laws_toExpS.ent n), (56, laws_toLit.ent n), (57, laws_toLitS.ent n)]
noncomputable def d : FnD := ⟨code, 17, .nil, [(.cell 2 46, .st (.pair (.sl (.st (.pair (.int .i64) (.pair (.str) (.sl (.int .i64)))))) (.pair (.st (.pair (.int .i64) (.pair (.str) (.sl (.int .i64))))) (.sl (.st (.pair (.int .i64) (.pair (.str) (.sl (.int .i64)))))))), .pr (.own (.pr .ro (.pr .ro (.own .ro)))) (.pr (.pr .ro (.pr .ro (.own .ro))) (.own (.pr .ro (.pr .ro (.own .ro))))))]⟩
noncomputable def kr (n : Nat) (v : AVs ash) : Env → Option (RVs rsh) := endK (cx n) d (avEnc ash v) (rvDec rsh)
def an : An := .seq (.reg [(2, .pr (.own (.pr .ro (.pr .ro (.own .ro)))) (.pr (.pr .ro (.pr .ro (.own .ro))) (.own (.pr .ro (.pr .ro (.own .ro))))))]) (.seq (.reg [(3, .pr (.own (.pr .ro (.pr .ro (.own .ro)))) (.pr (.pr .ro (.pr .ro (.own .ro))) (.own (.pr .ro (.pr .ro (.own .ro))))))]) (.seq (.reg [(6, .own (.pr .ro (.pr .ro (.own .ro))))]) (.seq (.reg [(10, .pr .ro (.pr .ro (.own .ro)))]) (.seq (.reg [(14, .own (.pr .ro (.pr .ro (.own .ro))))]) (.seq .nil .nil)))))
def T (n : Nat) : Tab (RVs rsh) := fun j e kn kx => match j with
  | _ => none
theorem co (n : Nat) : CtxOk (cx n) := mkCtx_cok TYS_ok
theorem mx (n : Nat) : (cx n).P.follows .mixedOrders = true := mkCtx_mix MIX
theorem mk (n : Nat) : MOk (cx n) := mkCtx_ok (mem_cons (laws_toExpS.ok n) (mem_cons (laws_toLit.ok n) (mem_cons (laws_toLitS.ok n) mem_nil)))
theorem us : units code an = [] := by kernel_rfl
theorem eqn (n : Nat) (v : AVs ash) : fnEvT (cx n) d an (T n) (avEnc ash v) (rvDec rsh) = F n v.1 := by kernel_rfl
theorem ok (n : Nat) : EntOk Try.prog 20 (ent n) :=
  ent_ok (c := cx n) (e := ent n) (d := d) (an := an) (fn := Try.f20) (co n) (mk n) (mx n) (by kernel_rfl) (by kernel_rfl) (by kernel_rfl) (by kernel_rfl) (by kernel_rfl) (fun _ => T n) (fun v => units_of us (mem_nil)) (eqn n)
end laws_toRule
/-! laws.toRuleS -/
namespace laws_toRuleS
def l0 (n : Nat) (a2 : List ((List (Int × ByteArray × List Int)) × (Int × ByteArray × List Int) × List (Int × ByteArray × List Int))) (K0 : (List ((List (Int × ByteArray × List Int)) × (Int × ByteArray × List Int) × List (Int × ByteArray × List Int))) → Option (List ((List (Int × ByteArray × List Int)) × (Int × ByteArray × List Int) × List (Int × ByteArray × List Int)))) : Nat → Int → (List ((List (Int × ByteArray × List Int)) × (Int × ByteArray × List Int) × List (Int × ByteArray × List Int))) → Option (List ((List (Int × ByteArray × List Int)) × (Int × ByteArray × List Int) × List (Int × ByteArray × List Int)))
  | 0, _, _ => none
  | k + 1, i3, out4 =>
    if decide (i3 < (List.length a2 : Int)) = true then
      if 0 ≤ i3 ∧ i3 < (List.length a2 : Int) then
        (laws_toRule.F n (List.getD a2 (Int.toNat i3) ([], ((0, (ByteArray.empty, [])), [])))).bind fun r5 =>
        if 0 ≤ i3 ∧ i3 < (List.length out4 : Int) then
          l0 n a2 K0 k (IntKind.i64.wrap (i3 + 1)) (List.set out4 (Int.toNat i3) r5)
        else
          none
      else
        none
    else
      K0 out4
def F (n : Nat) (a1 : List ((List (Int × ByteArray × List Int)) × (Int × ByteArray × List Int) × List (Int × ByteArray × List Int))) : Option (List ((List (Int × ByteArray × List Int)) × (Int × ByteArray × List Int) × List (Int × ByteArray × List Int))) :=
  if 0 ≤ (List.length a1 : Int) ∧ (List.length a1 : Int) ≤ (List.length a1 : Int) ∧ (List.length a1 : Int) ≤ (lim : Int) then
    l0 n a1 (fun out6 =>
      some out6) n 0 (List.replicate (Int.toNat (List.length a1 : Int)) ([], ((0, (ByteArray.empty, [])), [])))
  else
    none
noncomputable def code : Code := Try.f67.body.getD .skip
abbrev ash : List ASh := [.ro (.sl (.st (.pair (.sl (.st (.pair (.int .i64) (.pair (.str) (.sl (.int .i64)))))) (.pair (.st (.pair (.int .i64) (.pair (.str) (.sl (.int .i64))))) (.sl (.st (.pair (.int .i64) (.pair (.str) (.sl (.int .i64))))))))))]
abbrev rsh : List RSh := [.own (.sl (.st (.pair (.sl (.st (.pair (.int .i64) (.pair (.str) (.sl (.int .i64)))))) (.pair (.st (.pair (.int .i64) (.pair (.str) (.sl (.int .i64))))) (.sl (.st (.pair (.int .i64) (.pair (.str) (.sl (.int .i64)))))))))) (.own (.pr (.own (.pr .ro (.pr .ro (.own .ro)))) (.pr (.pr .ro (.pr .ro (.own .ro))) (.own (.pr .ro (.pr .ro (.own .ro)))))))]
def ent (n : Nat) : FEnt := ⟨ash, rsh, fun v => F n v.1⟩
noncomputable def cx (n : Nat) : Ctx := mkCtx Try.prog TYS [(20, laws_toRule.ent n)]
noncomputable def d : FnD := ⟨code, 23, .nil, [(.tmp 2, .sl (.st (.pair (.sl (.st (.pair (.int .i64) (.pair (.str) (.sl (.int .i64)))))) (.pair (.st (.pair (.int .i64) (.pair (.str) (.sl (.int .i64))))) (.sl (.st (.pair (.int .i64) (.pair (.str) (.sl (.int .i64))))))))), .own (.pr (.own (.pr .ro (.pr .ro (.own .ro)))) (.pr (.pr .ro (.pr .ro (.own .ro))) (.own (.pr .ro (.pr .ro (.own .ro)))))))]⟩
noncomputable def kr (n : Nat) (v : AVs ash) : Env → Option (RVs rsh) := endK (cx n) d (avEnc ash v) (rvDec rsh)
noncomputable def c0 : Code := (Code.l (Code.r (Code.l (Code.r (Code.r code)))))
noncomputable def b0 : Code := Code.l c0
def an : An := .seq .nil (.seq (.reg [(7, .own (.pr (.own (.pr .ro (.pr .ro (.own .ro)))) (.pr (.pr .ro (.pr .ro (.own .ro))) (.own (.pr .ro (.pr .ro (.own .ro)))))))]) (.seq (.seq .nil (.block (some [3]) (.cut 0 [0, 3, 4]))) (.seq .nil .nil)))
def an0 : An := .seq (.seq .nil (.cond .nil .nil)) (.seq (.block (some [0, 3, 4]) (.reg [(20, .pr (.own (.pr .ro (.pr .ro (.own .ro)))) (.pr (.pr .ro (.pr .ro (.own .ro))) (.own (.pr .ro (.pr .ro (.own .ro))))))])) .nil)
abbrev sh0 : ES := ⟨[(0, .v (.sl (.st (.pair (.sl (.st (.pair (.int .i64) (.pair (.str) (.sl (.int .i64)))))) (.pair (.st (.pair (.int .i64) (.pair (.str) (.sl (.int .i64))))) (.sl (.st (.pair (.int .i64) (.pair (.str) (.sl (.int .i64))))))))))), (3, .al 3 []), (4, .v (.int .i64))], [⟨3, .sl (.st (.pair (.sl (.st (.pair (.int .i64) (.pair (.str) (.sl (.int .i64)))))) (.pair (.st (.pair (.int .i64) (.pair (.str) (.sl (.int .i64))))) (.sl (.st (.pair (.int .i64) (.pair (.str) (.sl (.int .i64))))))))), .own (.pr (.own (.pr .ro (.pr .ro (.own .ro)))) (.pr (.pr .ro (.pr .ro (.own .ro))) (.own (.pr .ro (.pr .ro (.own .ro)))))), false, false⟩]⟩
abbrev sh0_0 : ES := ⟨[(3, .al 3 [])], [⟨3, .sl (.st (.pair (.sl (.st (.pair (.int .i64) (.pair (.str) (.sl (.int .i64)))))) (.pair (.st (.pair (.int .i64) (.pair (.str) (.sl (.int .i64))))) (.sl (.st (.pair (.int .i64) (.pair (.str) (.sl (.int .i64))))))))), .own (.pr (.own (.pr .ro (.pr .ro (.own .ro)))) (.pr (.pr .ro (.pr .ro (.own .ro))) (.own (.pr .ro (.pr .ro (.own .ro)))))), false, false⟩]⟩
def T0 (n m : Nat) (e : Env) (kn : Env → Option (RVs rsh)) (kx : Nat → Env → Option (RVs rsh)) : Option (RVs rsh) := ES.on sh0 e fun x => l0 n x.1.1 (fun y0 => kx 0 (sh0_0.enc (((()), ()), (y0, ())))) m x.1.2.2.1 x.2.1
def T (n : Nat) : Tab (RVs rsh) := fun j e kn kx => match j with
  | 0 => T0 n n e kn kx
  | _ => none
theorem co (n : Nat) : CtxOk (cx n) := mkCtx_cok TYS_ok
theorem mx (n : Nat) : (cx n).P.follows .mixedOrders = true := mkCtx_mix MIX
theorem mk (n : Nat) : MOk (cx n) := mkCtx_ok (mem_cons (laws_toRule.ok n) mem_nil)
theorem us0 : units b0 an0 = [] := by kernel_rfl
theorem e0 (n m : Nat) (v : AVs ash) (x : sh0.V) (kn : Env → Option (RVs rsh)) (kx : Nat → Env → Option (RVs rsh)) : aevT (cx n) 23 (T n) (kr n v) b0 an0 [(0, [3])] (meet (some [0, 3, 4]) fun e => T0 n m e kn kx) kx (sh0.enc x) = l0 n x.1.1 (fun y0 => kx 0 (sh0_0.enc (((()), ()), (y0, ())))) (m + 1) x.1.2.2.1 x.2.1 := by kernel_rfl
theorem cl0 : c0 = .loop b0 := by kernel_rfl
theorem u0 (n : Nat) (v : AVs ash) : UnitOk (cx n) 23 (T n) (kr n v) 0 c0 := by
  rw [cl0]
  exact loop_unit (n := n) (co n) (mk n) (mx n) an0 [(0, [3])] [0, 3, 4] (T0 n) (fun _ _ _ => rfl) (fun e kn kx out h => by obtain ⟨x, _, h⟩ := ES.on_inv h; cases h) (fun m e kn kx out h => by obtain ⟨x, rfl, h⟩ := ES.on_inv h; exact (e0 n m v x kn kx).trans h) (units_of us0 (mem_nil))
theorem us : units code an = [(0, c0)] := by kernel_rfl
theorem eqn (n : Nat) (v : AVs ash) : fnEvT (cx n) d an (T n) (avEnc ash v) (rvDec rsh) = F n v.1 := by kernel_rfl
theorem ok (n : Nat) : EntOk Try.prog 67 (ent n) :=
  ent_ok (c := cx n) (e := ent n) (d := d) (an := an) (fn := Try.f67) (co n) (mk n) (mx n) (by kernel_rfl) (by kernel_rfl) (by kernel_rfl) (by kernel_rfl) (by kernel_rfl) (fun _ => T n) (fun v => units_of us (mem_cons (u0 n v) mem_nil)) (eqn n)
end laws_toRuleS
/-! laws.toProg -/
namespace laws_toProg
def F (n : Nat) (a1 : (List (ByteArray × List (ByteArray × List ByteArray))) × (List (ByteArray × (List ByteArray) × Int)) × List ((List (Int × ByteArray × List Int)) × (Int × ByteArray × List Int) × List (Int × ByteArray × List Int))) : Option ((List (ByteArray × List (ByteArray × List ByteArray))) × (List (ByteArray × (List ByteArray) × Int)) × List ((List (Int × ByteArray × List Int)) × (Int × ByteArray × List Int) × List (Int × ByteArray × List Int))) :=
  (laws_toTypeDeclS.F n a1.1).bind fun r2 =>
  (laws_toRelDeclS.F n a1.2.1).bind fun r3 =>
  (laws_toRuleS.F n a1.2.2).bind fun r4 =>
  some (r2, (r3, r4))
noncomputable def code : Code := Try.f25.body.getD .skip
abbrev ash : List ASh := [.ro (.st (.pair (.sl (.st (.pair (.str) (.sl (.st (.pair (.str) (.sl (.str)))))))) (.pair (.sl (.st (.pair (.str) (.pair (.sl (.str)) (.int .i64))))) (.sl (.st (.pair (.sl (.st (.pair (.int .i64) (.pair (.str) (.sl (.int .i64)))))) (.pair (.st (.pair (.int .i64) (.pair (.str) (.sl (.int .i64))))) (.sl (.st (.pair (.int .i64) (.pair (.str) (.sl (.int .i64)))))))))))))]
abbrev rsh : List RSh := [.own (.st (.pair (.sl (.st (.pair (.str) (.sl (.st (.pair (.str) (.sl (.str)))))))) (.pair (.sl (.st (.pair (.str) (.pair (.sl (.str)) (.int .i64))))) (.sl (.st (.pair (.sl (.st (.pair (.int .i64) (.pair (.str) (.sl (.int .i64)))))) (.pair (.st (.pair (.int .i64) (.pair (.str) (.sl (.int .i64))))) (.sl (.st (.pair (.int .i64) (.pair (.str) (.sl (.int .i64))))))))))))) (.pr (.own (.pr .ro (.own (.pr .ro (.own .ro))))) (.pr (.own (.pr .ro (.pr (.own .ro) .ro))) (.own (.pr (.own (.pr .ro (.pr .ro (.own .ro)))) (.pr (.pr .ro (.pr .ro (.own .ro))) (.own (.pr .ro (.pr .ro (.own .ro)))))))))]
def ent (n : Nat) : FEnt := ⟨ash, rsh, fun v => F n v.1⟩
noncomputable def cx (n : Nat) : Ctx := mkCtx Try.prog TYS [(65, laws_toTypeDeclS.ent n), (66, laws_toRelDeclS.ent n), (67, laws_toRuleS.ent n)]
noncomputable def d : FnD := ⟨code, 17, .nil, [(.cell 2 61, .st (.pair (.sl (.st (.pair (.str) (.sl (.st (.pair (.str) (.sl (.str)))))))) (.pair (.sl (.st (.pair (.str) (.pair (.sl (.str)) (.int .i64))))) (.sl (.st (.pair (.sl (.st (.pair (.int .i64) (.pair (.str) (.sl (.int .i64)))))) (.pair (.st (.pair (.int .i64) (.pair (.str) (.sl (.int .i64))))) (.sl (.st (.pair (.int .i64) (.pair (.str) (.sl (.int .i64)))))))))))), .pr (.own (.pr .ro (.own (.pr .ro (.own .ro))))) (.pr (.own (.pr .ro (.pr (.own .ro) .ro))) (.own (.pr (.own (.pr .ro (.pr .ro (.own .ro)))) (.pr (.pr .ro (.pr .ro (.own .ro))) (.own (.pr .ro (.pr .ro (.own .ro)))))))))]⟩
noncomputable def kr (n : Nat) (v : AVs ash) : Env → Option (RVs rsh) := endK (cx n) d (avEnc ash v) (rvDec rsh)
def an : An := .seq (.reg [(2, .pr (.own (.pr .ro (.own (.pr .ro (.own .ro))))) (.pr (.own (.pr .ro (.pr (.own .ro) .ro))) (.own (.pr (.own (.pr .ro (.pr .ro (.own .ro)))) (.pr (.pr .ro (.pr .ro (.own .ro))) (.own (.pr .ro (.pr .ro (.own .ro)))))))))]) (.seq (.reg [(3, .pr (.own (.pr .ro (.own (.pr .ro (.own .ro))))) (.pr (.own (.pr .ro (.pr (.own .ro) .ro))) (.own (.pr (.own (.pr .ro (.pr .ro (.own .ro)))) (.pr (.pr .ro (.pr .ro (.own .ro))) (.own (.pr .ro (.pr .ro (.own .ro)))))))))]) (.seq (.reg [(6, .own (.pr .ro (.own (.pr .ro (.own .ro)))))]) (.seq (.reg [(10, .own (.pr .ro (.pr (.own .ro) .ro)))]) (.seq (.reg [(14, .own (.pr (.own (.pr .ro (.pr .ro (.own .ro)))) (.pr (.pr .ro (.pr .ro (.own .ro))) (.own (.pr .ro (.pr .ro (.own .ro)))))))]) (.seq .nil .nil)))))
def T (n : Nat) : Tab (RVs rsh) := fun j e kn kx => match j with
  | _ => none
theorem co (n : Nat) : CtxOk (cx n) := mkCtx_cok TYS_ok
theorem mx (n : Nat) : (cx n).P.follows .mixedOrders = true := mkCtx_mix MIX
theorem mk (n : Nat) : MOk (cx n) := mkCtx_ok (mem_cons (laws_toTypeDeclS.ok n) (mem_cons (laws_toRelDeclS.ok n) (mem_cons (laws_toRuleS.ok n) mem_nil)))
theorem us : units code an = [] := by kernel_rfl
theorem eqn (n : Nat) (v : AVs ash) : fnEvT (cx n) d an (T n) (avEnc ash v) (rvDec rsh) = F n v.1 := by kernel_rfl
theorem ok (n : Nat) : EntOk Try.prog 25 (ent n) :=
  ent_ok (c := cx n) (e := ent n) (d := d) (an := an) (fn := Try.f25) (co n) (mk n) (mx n) (by kernel_rfl) (by kernel_rfl) (by kernel_rfl) (by kernel_rfl) (by kernel_rfl) (fun _ => T n) (fun v => units_of us (mem_nil)) (eqn n)
end laws_toProg
/-! spec.Inlines -/
namespace spec_Inlines
def l0 (n : Nat) (p3 : (List (ByteArray × List (ByteArray × List ByteArray))) × (List (ByteArray × (List ByteArray) × Int)) × List ((List (Int × ByteArray × List Int)) × (Int × ByteArray × List Int) × List (Int × ByteArray × List Int))) (K0 : (List Int) → Option (List Int)) : Nat → Int → (List Int) → Option (List Int)
  | 0, _, _ => none
  | k + 1, i2, out4 =>
    if decide (i2 < (List.length p3.2.1 : Int)) = true then
      if 0 ≤ i2 ∧ i2 < (List.length p3.2.1 : Int) then
        if decide ((((List.getD p3.2.1 (Int.toNat i2) (ByteArray.empty, ([], 0))).2).2) = 3) = true then
          if List.length out4 + List.length [i2] ≤ lim then
            l0 n p3 K0 k (IntKind.i64.wrap (i2 + 1)) (out4 ++ [i2])
          else
            none
        else
          l0 n p3 K0 k (IntKind.i64.wrap (i2 + 1)) out4
      else
        none
    else
      K0 out4
def F (n : Nat) (p1 : (List (ByteArray × List (ByteArray × List ByteArray))) × (List (ByteArray × (List ByteArray) × Int)) × List ((List (Int × ByteArray × List Int)) × (Int × ByteArray × List Int) × List (Int × ByteArray × List Int))) : Option (List Int) :=
  l0 n p1 (fun out5 =>
    some out5) n 0 []
noncomputable def code : Code := Try.f24.body.getD .skip
abbrev ash : List ASh := [.ro (.st (.pair (.sl (.st (.pair (.str) (.sl (.st (.pair (.str) (.sl (.str)))))))) (.pair (.sl (.st (.pair (.str) (.pair (.sl (.str)) (.int .i64))))) (.sl (.st (.pair (.sl (.st (.pair (.int .i64) (.pair (.str) (.sl (.int .i64)))))) (.pair (.st (.pair (.int .i64) (.pair (.str) (.sl (.int .i64))))) (.sl (.st (.pair (.int .i64) (.pair (.str) (.sl (.int .i64)))))))))))))]
abbrev rsh : List RSh := [.ro (.sl (.int .i64))]
def ent (n : Nat) : FEnt := ⟨ash, rsh, fun v => F n v.1⟩
noncomputable def cx (n : Nat) : Ctx := mkCtx Try.prog TYS []
noncomputable def d : FnD := ⟨code, 25, .nil, [(.tmp 2, .sl (.int .i64), .ro)]⟩
noncomputable def kr (n : Nat) (v : AVs ash) : Env → Option (RVs rsh) := endK (cx n) d (avEnc ash v) (rvDec rsh)
noncomputable def c0 : Code := (Code.l (Code.r (Code.l (Code.r (Code.r code)))))
noncomputable def b0 : Code := Code.l c0
def an : An := .seq .nil (.seq (.reg [(5, .own .ro)]) (.seq (.seq .nil (.block (some [3]) (.cut 0 [1, 3, 4]))) (.seq .nil .nil)))
def an0 : An := .seq (.seq .nil (.cond .nil .nil)) (.seq (.block (some [1, 3, 4]) (.seq .nil (.cond .nil .nil))) .nil)
abbrev sh0 : ES := ⟨[(1, .pt 1 []), (3, .al 3 []), (4, .v (.int .i64))], [⟨1, .st (.pair (.sl (.st (.pair (.str) (.sl (.st (.pair (.str) (.sl (.str)))))))) (.pair (.sl (.st (.pair (.str) (.pair (.sl (.str)) (.int .i64))))) (.sl (.st (.pair (.sl (.st (.pair (.int .i64) (.pair (.str) (.sl (.int .i64)))))) (.pair (.st (.pair (.int .i64) (.pair (.str) (.sl (.int .i64))))) (.sl (.st (.pair (.int .i64) (.pair (.str) (.sl (.int .i64)))))))))))), .ro, true, false⟩, ⟨3, .sl (.int .i64), .own .ro, false, false⟩]⟩
abbrev sh0_0 : ES := ⟨[(3, .al 3 [])], [⟨3, .sl (.int .i64), .own .ro, false, false⟩]⟩
def T0 (n m : Nat) (e : Env) (kn : Env → Option (RVs rsh)) (kx : Nat → Env → Option (RVs rsh)) : Option (RVs rsh) := ES.on sh0 e fun x => l0 n x.2.1 (fun y0 => kx 0 (sh0_0.enc (((()), ()), (y0, ())))) m x.1.2.2.1 x.2.2.1
def T (n : Nat) : Tab (RVs rsh) := fun j e kn kx => match j with
  | 0 => T0 n n e kn kx
  | _ => none
theorem co (n : Nat) : CtxOk (cx n) := mkCtx_cok TYS_ok
theorem mx (n : Nat) : (cx n).P.follows .mixedOrders = true := mkCtx_mix MIX
theorem mk (n : Nat) : MOk (cx n) := mkCtx_ok (mem_nil)
theorem us0 : units b0 an0 = [] := by kernel_rfl
theorem e0 (n m : Nat) (v : AVs ash) (x : sh0.V) (kn : Env → Option (RVs rsh)) (kx : Nat → Env → Option (RVs rsh)) : aevT (cx n) 25 (T n) (kr n v) b0 an0 [(0, [3])] (meet (some [1, 3, 4]) fun e => T0 n m e kn kx) kx (sh0.enc x) = l0 n x.2.1 (fun y0 => kx 0 (sh0_0.enc (((()), ()), (y0, ())))) (m + 1) x.1.2.2.1 x.2.2.1 := by kernel_rfl
theorem cl0 : c0 = .loop b0 := by kernel_rfl
theorem u0 (n : Nat) (v : AVs ash) : UnitOk (cx n) 25 (T n) (kr n v) 0 c0 := by
  rw [cl0]
  exact loop_unit (n := n) (co n) (mk n) (mx n) an0 [(0, [3])] [1, 3, 4] (T0 n) (fun _ _ _ => rfl) (fun e kn kx out h => by obtain ⟨x, _, h⟩ := ES.on_inv h; cases h) (fun m e kn kx out h => by obtain ⟨x, rfl, h⟩ := ES.on_inv h; exact (e0 n m v x kn kx).trans h) (units_of us0 (mem_nil))
theorem us : units code an = [(0, c0)] := by kernel_rfl
theorem eqn (n : Nat) (v : AVs ash) : fnEvT (cx n) d an (T n) (avEnc ash v) (rvDec rsh) = F n v.1 := by kernel_rfl
theorem ok (n : Nat) : EntOk Try.prog 24 (ent n) :=
  ent_ok (c := cx n) (e := ent n) (d := d) (an := an) (fn := Try.f24) (co n) (mk n) (mx n) (by kernel_rfl) (by kernel_rfl) (by kernel_rfl) (by kernel_rfl) (by kernel_rfl) (fun _ => T n) (fun v => units_of us (mem_cons (u0 n v) mem_nil)) (eqn n)
end spec_Inlines
/-! (impl.Prog).inlines -/
namespace impl_Prog_inlines
def l0 (n : Nat) (t2 : List (ByteArray × (List ByteArray) × Int)) (t3 : Int) (K0 : (List Int) → Option (List Int)) : Nat → Int → (List Int) → Option (List Int)
  | 0, _, _ => none
  | k + 1, t4, out5 =>
    if decide (t4 < t3) = true then
      if 0 ≤ t4 ∧ t4 < (List.length t2 : Int) then
        if decide ((((List.getD t2 (Int.toNat t4) (ByteArray.empty, ([], 0))).2).2) = 3) = true then
          if List.length out5 + List.length [t4] ≤ lim then
            l0 n t2 t3 K0 k (IntKind.i64.wrap (t4 + 1)) (out5 ++ [t4])
          else
            none
        else
          l0 n t2 t3 K0 k (IntKind.i64.wrap (t4 + 1)) out5
      else
        none
    else
      K0 out5
def F (n : Nat) (p1 : (List (ByteArray × List (ByteArray × List ByteArray))) × (List (ByteArray × (List ByteArray) × Int)) × List ((List (Int × ByteArray × List Int)) × (Int × ByteArray × List Int) × List (Int × ByteArray × List Int))) : Option (List Int) :=
  l0 n p1.2.1 (List.length p1.2.1 : Int) (fun out6 =>
    some out6) n 0 []
noncomputable def code : Code := Try.f68.body.getD .skip
abbrev ash : List ASh := [.ro (.st (.pair (.sl (.st (.pair (.str) (.sl (.st (.pair (.str) (.sl (.str)))))))) (.pair (.sl (.st (.pair (.str) (.pair (.sl (.str)) (.int .i64))))) (.sl (.st (.pair (.sl (.st (.pair (.int .i64) (.pair (.str) (.sl (.int .i64)))))) (.pair (.st (.pair (.int .i64) (.pair (.str) (.sl (.int .i64))))) (.sl (.st (.pair (.int .i64) (.pair (.str) (.sl (.int .i64)))))))))))))]
abbrev rsh : List RSh := [.own (.sl (.int .i64)) (.own .ro)]
def ent (n : Nat) : FEnt := ⟨ash, rsh, fun v => F n v.1⟩
noncomputable def cx (n : Nat) : Ctx := mkCtx Try.prog TYS []
noncomputable def d : FnD := ⟨code, 24, .nil, [(.tmp 2, .sl (.int .i64), .own .ro)]⟩
noncomputable def kr (n : Nat) (v : AVs ash) : Env → Option (RVs rsh) := endK (cx n) d (avEnc ash v) (rvDec rsh)
noncomputable def c0 : Code := (Code.l (Code.r (Code.l (Code.r (Code.r code)))))
noncomputable def b0 : Code := Code.l c0
def an : An := .seq .nil (.seq (.reg [(6, .own .ro)]) (.seq (.seq .nil (.block (some [3]) (.cut 0 [3, 8, 9, 10]))) (.seq .nil .nil)))
def an0 : An := .seq .nil (.seq (.cond .nil .nil) (.seq (.block (some [3, 8, 9, 10]) (.seq .nil (.seq .nil (.cond .nil .nil)))) .nil))
abbrev sh0 : ES := ⟨[(3, .al 3 []), (8, .v (.sl (.st (.pair (.str) (.pair (.sl (.str)) (.int .i64)))))), (9, .v (.int .i64)), (10, .v (.int .i64))], [⟨3, .sl (.int .i64), .own .ro, false, false⟩]⟩
abbrev sh0_0 : ES := ⟨[(3, .al 3 [])], [⟨3, .sl (.int .i64), .own .ro, false, false⟩]⟩
def T0 (n m : Nat) (e : Env) (kn : Env → Option (RVs rsh)) (kx : Nat → Env → Option (RVs rsh)) : Option (RVs rsh) := ES.on sh0 e fun x => l0 n x.1.2.1 x.1.2.2.1 (fun y0 => kx 0 (sh0_0.enc (((()), ()), (y0, ())))) m x.1.2.2.2.1 x.2.1
def T (n : Nat) : Tab (RVs rsh) := fun j e kn kx => match j with
  | 0 => T0 n n e kn kx
  | _ => none
theorem co (n : Nat) : CtxOk (cx n) := mkCtx_cok TYS_ok
theorem mx (n : Nat) : (cx n).P.follows .mixedOrders = true := mkCtx_mix MIX
theorem mk (n : Nat) : MOk (cx n) := mkCtx_ok (mem_nil)
theorem us0 : units b0 an0 = [] := by kernel_rfl
theorem e0 (n m : Nat) (v : AVs ash) (x : sh0.V) (kn : Env → Option (RVs rsh)) (kx : Nat → Env → Option (RVs rsh)) : aevT (cx n) 24 (T n) (kr n v) b0 an0 [(0, [3])] (meet (some [3, 8, 9, 10]) fun e => T0 n m e kn kx) kx (sh0.enc x) = l0 n x.1.2.1 x.1.2.2.1 (fun y0 => kx 0 (sh0_0.enc (((()), ()), (y0, ())))) (m + 1) x.1.2.2.2.1 x.2.1 := by kernel_rfl
theorem cl0 : c0 = .loop b0 := by kernel_rfl
theorem u0 (n : Nat) (v : AVs ash) : UnitOk (cx n) 24 (T n) (kr n v) 0 c0 := by
  rw [cl0]
  exact loop_unit (n := n) (co n) (mk n) (mx n) an0 [(0, [3])] [3, 8, 9, 10] (T0 n) (fun _ _ _ => rfl) (fun e kn kx out h => by obtain ⟨x, _, h⟩ := ES.on_inv h; cases h) (fun m e kn kx out h => by obtain ⟨x, rfl, h⟩ := ES.on_inv h; exact (e0 n m v x kn kx).trans h) (units_of us0 (mem_nil))
theorem us : units code an = [(0, c0)] := by kernel_rfl
theorem eqn (n : Nat) (v : AVs ash) : fnEvT (cx n) d an (T n) (avEnc ash v) (rvDec rsh) = F n v.1 := by kernel_rfl
theorem ok (n : Nat) : EntOk Try.prog 68 (ent n) :=
  ent_ok (c := cx n) (e := ent n) (d := d) (an := an) (fn := Try.f68) (co n) (mk n) (mx n) (by kernel_rfl) (by kernel_rfl) (by kernel_rfl) (by kernel_rfl) (by kernel_rfl) (fun _ => T n) (fun v => units_of us (mem_cons (u0 n v) mem_nil)) (eqn n)
end impl_Prog_inlines
/-! impl.Inlines -/
namespace impl_Inlines
def F (n : Nat) (p1 : (List (ByteArray × List (ByteArray × List ByteArray))) × (List (ByteArray × (List ByteArray) × Int)) × List ((List (Int × ByteArray × List Int)) × (Int × ByteArray × List Int) × List (Int × ByteArray × List Int))) : Option (List Int) :=
  (impl_Prog_inlines.F n p1).bind fun r2 =>
  some r2
noncomputable def code : Code := Try.f26.body.getD .skip
abbrev ash : List ASh := [.ro (.st (.pair (.sl (.st (.pair (.str) (.sl (.st (.pair (.str) (.sl (.str)))))))) (.pair (.sl (.st (.pair (.str) (.pair (.sl (.str)) (.int .i64))))) (.sl (.st (.pair (.sl (.st (.pair (.int .i64) (.pair (.str) (.sl (.int .i64)))))) (.pair (.st (.pair (.int .i64) (.pair (.str) (.sl (.int .i64))))) (.sl (.st (.pair (.int .i64) (.pair (.str) (.sl (.int .i64)))))))))))))]
abbrev rsh : List RSh := [.own (.sl (.int .i64)) (.own .ro)]
def ent (n : Nat) : FEnt := ⟨ash, rsh, fun v => F n v.1⟩
noncomputable def cx (n : Nat) : Ctx := mkCtx Try.prog TYS [(68, impl_Prog_inlines.ent n)]
noncomputable def d : FnD := ⟨code, 5, .nil, [(.tmp 2, .sl (.int .i64), .own .ro)]⟩
noncomputable def kr (n : Nat) (v : AVs ash) : Env → Option (RVs rsh) := endK (cx n) d (avEnc ash v) (rvDec rsh)
def an : An := .seq .nil (.seq (.reg [(4, .own .ro)]) .nil)
def T (n : Nat) : Tab (RVs rsh) := fun j e kn kx => match j with
  | _ => none
theorem co (n : Nat) : CtxOk (cx n) := mkCtx_cok TYS_ok
theorem mx (n : Nat) : (cx n).P.follows .mixedOrders = true := mkCtx_mix MIX
theorem mk (n : Nat) : MOk (cx n) := mkCtx_ok (mem_cons (impl_Prog_inlines.ok n) mem_nil)
theorem us : units code an = [] := by kernel_rfl
theorem eqn (n : Nat) (v : AVs ash) : fnEvT (cx n) d an (T n) (avEnc ash v) (rvDec rsh) = F n v.1 := by kernel_rfl
theorem ok (n : Nat) : EntOk Try.prog 26 (ent n) :=
  ent_ok (c := cx n) (e := ent n) (d := d) (an := an) (fn := Try.f26) (co n) (mk n) (mx n) (by kernel_rfl) (by kernel_rfl) (by kernel_rfl) (by kernel_rfl) (by kernel_rfl) (fun _ => T n) (fun v => units_of us (mem_nil)) (eqn n)
end impl_Inlines
/-! laws.eqIntS -/
namespace laws_eqIntS
def l0 (n : Nat) (a3 : List Int) (b4 : List Int) (K0 : Unit → Option Bool) : Nat → Int → Option Bool
  | 0, _ => none
  | k + 1, i5 =>
    if decide (i5 < (List.length a3 : Int)) = true then
      if 0 ≤ i5 ∧ i5 < (List.length a3 : Int) then
        if 0 ≤ i5 ∧ i5 < (List.length b4 : Int) then
          if (!decide ((List.getD a3 (Int.toNat i5) 0) = (List.getD b4 (Int.toNat i5) 0))) = true then
            some false
          else
            l0 n a3 b4 K0 k (IntKind.i64.wrap (i5 + 1))
        else
          none
      else
        none
    else
      K0 ()
def F (n : Nat) (a1 : List Int) (b2 : List Int) : Option Bool :=
  if (!decide ((List.length a1 : Int) = (List.length b2 : Int))) = true then
    some false
  else
    l0 n a1 b2 (fun _ =>
      some true) n 0
noncomputable def code : Code := Try.f27.body.getD .skip
abbrev ash : List ASh := [.ro (.sl (.int .i64)), .ro (.sl (.int .i64))]
abbrev rsh : List RSh := [.ro .bool]
def ent (n : Nat) : FEnt := ⟨ash, rsh, fun v => F n v.1 v.2.1⟩
noncomputable def cx (n : Nat) : Ctx := mkCtx Try.prog TYS []
noncomputable def d : FnD := ⟨code, 26, .nil, [(.tmp 4, .bool, .ro)]⟩
noncomputable def kr (n : Nat) (v : AVs ash) : Env → Option (RVs rsh) := endK (cx n) d (avEnc ash v) (rvDec rsh)
noncomputable def c0 : Code := (Code.l (Code.r (Code.l (Code.r (Code.r code)))))
noncomputable def b0 : Code := Code.l c0
def an : An := .seq .nil (.seq (.seq .nil (.cond (.seq .nil .nil) .nil)) (.seq (.seq .nil (.block (some []) (.cut 0 [0, 1, 5]))) (.seq .nil .nil)))
def an0 : An := .seq (.seq .nil (.cond .nil .nil)) (.seq (.block (some [0, 1, 5]) (.seq .nil (.cond (.seq .nil .nil) .nil))) .nil)
abbrev sh0 : ES := ⟨[(0, .v (.sl (.int .i64))), (1, .v (.sl (.int .i64))), (5, .v (.int .i64))], []⟩
abbrev sh0_0 : ES := ⟨[], []⟩
def T0 (n m : Nat) (e : Env) (kn : Env → Option (RVs rsh)) (kx : Nat → Env → Option (RVs rsh)) : Option (RVs rsh) := ES.on sh0 e fun x => l0 n x.1.1 x.1.2.1 (fun _ => kx 0 (sh0_0.enc ((()), (())))) m x.1.2.2.1
def T (n : Nat) : Tab (RVs rsh) := fun j e kn kx => match j with
  | 0 => T0 n n e kn kx
  | _ => none
theorem co (n : Nat) : CtxOk (cx n) := mkCtx_cok TYS_ok
theorem mx (n : Nat) : (cx n).P.follows .mixedOrders = true := mkCtx_mix MIX
theorem mk (n : Nat) : MOk (cx n) := mkCtx_ok (mem_nil)
theorem us0 : units b0 an0 = [] := by kernel_rfl
theorem e0 (n m : Nat) (v : AVs ash) (x : sh0.V) (kn : Env → Option (RVs rsh)) (kx : Nat → Env → Option (RVs rsh)) : aevT (cx n) 26 (T n) (kr n v) b0 an0 [(0, [])] (meet (some [0, 1, 5]) fun e => T0 n m e kn kx) kx (sh0.enc x) = l0 n x.1.1 x.1.2.1 (fun _ => kx 0 (sh0_0.enc ((()), (())))) (m + 1) x.1.2.2.1 := by kernel_rfl
theorem cl0 : c0 = .loop b0 := by kernel_rfl
theorem u0 (n : Nat) (v : AVs ash) : UnitOk (cx n) 26 (T n) (kr n v) 0 c0 := by
  rw [cl0]
  exact loop_unit (n := n) (co n) (mk n) (mx n) an0 [(0, [])] [0, 1, 5] (T0 n) (fun _ _ _ => rfl) (fun e kn kx out h => by obtain ⟨x, _, h⟩ := ES.on_inv h; cases h) (fun m e kn kx out h => by obtain ⟨x, rfl, h⟩ := ES.on_inv h; exact (e0 n m v x kn kx).trans h) (units_of us0 (mem_nil))
theorem us : units code an = [(0, c0)] := by kernel_rfl
theorem eqn (n : Nat) (v : AVs ash) : fnEvT (cx n) d an (T n) (avEnc ash v) (rvDec rsh) = F n v.1 v.2.1 := by kernel_rfl
theorem ok (n : Nat) : EntOk Try.prog 27 (ent n) :=
  ent_ok (c := cx n) (e := ent n) (d := d) (an := an) (fn := Try.f27) (co n) (mk n) (mx n) (by kernel_rfl) (by kernel_rfl) (by kernel_rfl) (by kernel_rfl) (by kernel_rfl) (fun _ => T n) (fun v => units_of us (mem_cons (u0 n v) mem_nil)) (eqn n)
end laws_eqIntS
/-! laws.eqStringS -/
namespace laws_eqStringS
def l0 (n : Nat) (a3 : List ByteArray) (b4 : List ByteArray) (K0 : Unit → Option Bool) : Nat → Int → Option Bool
  | 0, _ => none
  | k + 1, i5 =>
    if decide (i5 < (List.length a3 : Int)) = true then
      if 0 ≤ i5 ∧ i5 < (List.length a3 : Int) then
        if 0 ≤ i5 ∧ i5 < (List.length b4 : Int) then
          if (!(Abs.seq (List.getD a3 (Int.toNat i5) ByteArray.empty) (List.getD b4 (Int.toNat i5) ByteArray.empty))) = true then
            some false
          else
            l0 n a3 b4 K0 k (IntKind.i64.wrap (i5 + 1))
        else
          none
      else
        none
    else
      K0 ()
def F (n : Nat) (a1 : List ByteArray) (b2 : List ByteArray) : Option Bool :=
  if (!decide ((List.length a1 : Int) = (List.length b2 : Int))) = true then
    some false
  else
    l0 n a1 b2 (fun _ =>
      some true) n 0
noncomputable def code : Code := Try.f79.body.getD .skip
abbrev ash : List ASh := [.ro (.sl (.str)), .ro (.sl (.str))]
abbrev rsh : List RSh := [.ro .bool]
def ent (n : Nat) : FEnt := ⟨ash, rsh, fun v => F n v.1 v.2.1⟩
noncomputable def cx (n : Nat) : Ctx := mkCtx Try.prog TYS []
noncomputable def d : FnD := ⟨code, 26, .nil, [(.tmp 4, .bool, .ro)]⟩
noncomputable def kr (n : Nat) (v : AVs ash) : Env → Option (RVs rsh) := endK (cx n) d (avEnc ash v) (rvDec rsh)
noncomputable def c0 : Code := (Code.l (Code.r (Code.l (Code.r (Code.r code)))))
noncomputable def b0 : Code := Code.l c0
def an : An := .seq .nil (.seq (.seq .nil (.cond (.seq .nil .nil) .nil)) (.seq (.seq .nil (.block (some []) (.cut 0 [0, 1, 5]))) (.seq .nil .nil)))
def an0 : An := .seq (.seq .nil (.cond .nil .nil)) (.seq (.block (some [0, 1, 5]) (.seq .nil (.cond (.seq .nil .nil) .nil))) .nil)
abbrev sh0 : ES := ⟨[(0, .v (.sl (.str))), (1, .v (.sl (.str))), (5, .v (.int .i64))], []⟩
abbrev sh0_0 : ES := ⟨[], []⟩
def T0 (n m : Nat) (e : Env) (kn : Env → Option (RVs rsh)) (kx : Nat → Env → Option (RVs rsh)) : Option (RVs rsh) := ES.on sh0 e fun x => l0 n x.1.1 x.1.2.1 (fun _ => kx 0 (sh0_0.enc ((()), (())))) m x.1.2.2.1
def T (n : Nat) : Tab (RVs rsh) := fun j e kn kx => match j with
  | 0 => T0 n n e kn kx
  | _ => none
theorem co (n : Nat) : CtxOk (cx n) := mkCtx_cok TYS_ok
theorem mx (n : Nat) : (cx n).P.follows .mixedOrders = true := mkCtx_mix MIX
theorem mk (n : Nat) : MOk (cx n) := mkCtx_ok (mem_nil)
theorem us0 : units b0 an0 = [] := by kernel_rfl
theorem e0 (n m : Nat) (v : AVs ash) (x : sh0.V) (kn : Env → Option (RVs rsh)) (kx : Nat → Env → Option (RVs rsh)) : aevT (cx n) 26 (T n) (kr n v) b0 an0 [(0, [])] (meet (some [0, 1, 5]) fun e => T0 n m e kn kx) kx (sh0.enc x) = l0 n x.1.1 x.1.2.1 (fun _ => kx 0 (sh0_0.enc ((()), (())))) (m + 1) x.1.2.2.1 := by kernel_rfl
theorem cl0 : c0 = .loop b0 := by kernel_rfl
theorem u0 (n : Nat) (v : AVs ash) : UnitOk (cx n) 26 (T n) (kr n v) 0 c0 := by
  rw [cl0]
  exact loop_unit (n := n) (co n) (mk n) (mx n) an0 [(0, [])] [0, 1, 5] (T0 n) (fun _ _ _ => rfl) (fun e kn kx out h => by obtain ⟨x, _, h⟩ := ES.on_inv h; cases h) (fun m e kn kx out h => by obtain ⟨x, rfl, h⟩ := ES.on_inv h; exact (e0 n m v x kn kx).trans h) (units_of us0 (mem_nil))
theorem us : units code an = [(0, c0)] := by kernel_rfl
theorem eqn (n : Nat) (v : AVs ash) : fnEvT (cx n) d an (T n) (avEnc ash v) (rvDec rsh) = F n v.1 v.2.1 := by kernel_rfl
theorem ok (n : Nat) : EntOk Try.prog 79 (ent n) :=
  ent_ok (c := cx n) (e := ent n) (d := d) (an := an) (fn := Try.f79) (co n) (mk n) (mx n) (by kernel_rfl) (by kernel_rfl) (by kernel_rfl) (by kernel_rfl) (by kernel_rfl) (fun _ => T n) (fun v => units_of us (mem_cons (u0 n v) mem_nil)) (eqn n)
end laws_eqStringS
/-! laws.eqCon -/
namespace laws_eqCon
def F (n : Nat) (a1 : ByteArray × List ByteArray) (b2 : ByteArray × List ByteArray) : Option Bool :=
  if (!(Abs.seq a1.1 b2.1)) = true then
    some false
  else
    (laws_eqStringS.F n a1.2 b2.2).bind fun r3 =>
    if (!r3) = true then
      some false
    else
      some true
noncomputable def code : Code := Try.f142.body.getD .skip
abbrev ash : List ASh := [.ro (.st (.pair (.str) (.sl (.str)))), .ro (.st (.pair (.str) (.sl (.str))))]
abbrev rsh : List RSh := [.ro .bool]
def ent (n : Nat) : FEnt := ⟨ash, rsh, fun v => F n v.1 v.2.1⟩
noncomputable def cx (n : Nat) : Ctx := mkCtx Try.prog TYS [(79, laws_eqStringS.ent n)]
noncomputable def d : FnD := ⟨code, 16, .nil, [(.tmp 4, .bool, .ro)]⟩
noncomputable def kr (n : Nat) (v : AVs ash) : Env → Option (RVs rsh) := endK (cx n) d (avEnc ash v) (rvDec rsh)
def an : An := .seq .nil (.seq (.seq .nil (.cond (.seq .nil .nil) .nil)) (.seq (.seq .nil (.cond (.seq .nil .nil) .nil)) (.seq .nil .nil)))
def T (n : Nat) : Tab (RVs rsh) := fun j e kn kx => match j with
  | _ => none
theorem co (n : Nat) : CtxOk (cx n) := mkCtx_cok TYS_ok
theorem mx (n : Nat) : (cx n).P.follows .mixedOrders = true := mkCtx_mix MIX
theorem mk (n : Nat) : MOk (cx n) := mkCtx_ok (mem_cons (laws_eqStringS.ok n) mem_nil)
theorem us : units code an = [] := by kernel_rfl
theorem eqn (n : Nat) (v : AVs ash) : fnEvT (cx n) d an (T n) (avEnc ash v) (rvDec rsh) = F n v.1 v.2.1 := by kernel_rfl
theorem ok (n : Nat) : EntOk Try.prog 142 (ent n) :=
  ent_ok (c := cx n) (e := ent n) (d := d) (an := an) (fn := Try.f142) (co n) (mk n) (mx n) (by kernel_rfl) (by kernel_rfl) (by kernel_rfl) (by kernel_rfl) (by kernel_rfl) (fun _ => T n) (fun v => units_of us (mem_nil)) (eqn n)
end laws_eqCon
/-! laws.eqConS -/
namespace laws_eqConS
def l0 (n : Nat) (a3 : List (ByteArray × List ByteArray)) (b4 : List (ByteArray × List ByteArray)) (K0 : Unit → Option Bool) : Nat → Int → Option Bool
  | 0, _ => none
  | k + 1, i5 =>
    if decide (i5 < (List.length a3 : Int)) = true then
      if 0 ≤ i5 ∧ i5 < (List.length a3 : Int) then
        if 0 ≤ i5 ∧ i5 < (List.length b4 : Int) then
          (laws_eqCon.F n (List.getD a3 (Int.toNat i5) (ByteArray.empty, [])) (List.getD b4 (Int.toNat i5) (ByteArray.empty, []))).bind fun r6 =>
          if (!r6) = true then
            some false
          else
            l0 n a3 b4 K0 k (IntKind.i64.wrap (i5 + 1))
        else
          none
      else
        none
    else
      K0 ()
def F (n : Nat) (a1 : List (ByteArray × List ByteArray)) (b2 : List (ByteArray × List ByteArray)) : Option Bool :=
  if (!decide ((List.length a1 : Int) = (List.length b2 : Int))) = true then
    some false
  else
    l0 n a1 b2 (fun _ =>
      some true) n 0
noncomputable def code : Code := Try.f130.body.getD .skip
abbrev ash : List ASh := [.ro (.sl (.st (.pair (.str) (.sl (.str))))), .ro (.sl (.st (.pair (.str) (.sl (.str)))))]
abbrev rsh : List RSh := [.ro .bool]
def ent (n : Nat) : FEnt := ⟨ash, rsh, fun v => F n v.1 v.2.1⟩
noncomputable def cx (n : Nat) : Ctx := mkCtx Try.prog TYS [(142, laws_eqCon.ent n)]
noncomputable def d : FnD := ⟨code, 27, .nil, [(.tmp 4, .bool, .ro)]⟩
noncomputable def kr (n : Nat) (v : AVs ash) : Env → Option (RVs rsh) := endK (cx n) d (avEnc ash v) (rvDec rsh)
noncomputable def c0 : Code := (Code.l (Code.r (Code.l (Code.r (Code.r code)))))
noncomputable def b0 : Code := Code.l c0
def an : An := .seq .nil (.seq (.seq .nil (.cond (.seq .nil .nil) .nil)) (.seq (.seq .nil (.block (some []) (.cut 0 [0, 1, 5]))) (.seq .nil .nil)))
def an0 : An := .seq (.seq .nil (.cond .nil .nil)) (.seq (.block (some [0, 1, 5]) (.seq .nil (.cond (.seq .nil .nil) .nil))) .nil)
abbrev sh0 : ES := ⟨[(0, .v (.sl (.st (.pair (.str) (.sl (.str)))))), (1, .v (.sl (.st (.pair (.str) (.sl (.str)))))), (5, .v (.int .i64))], []⟩
abbrev sh0_0 : ES := ⟨[], []⟩
def T0 (n m : Nat) (e : Env) (kn : Env → Option (RVs rsh)) (kx : Nat → Env → Option (RVs rsh)) : Option (RVs rsh) := ES.on sh0 e fun x => l0 n x.1.1 x.1.2.1 (fun _ => kx 0 (sh0_0.enc ((()), (())))) m x.1.2.2.1
def T (n : Nat) : Tab (RVs rsh) := fun j e kn kx => match j with
  | 0 => T0 n n e kn kx
  | _ => none
theorem co (n : Nat) : CtxOk (cx n) := mkCtx_cok TYS_ok
theorem mx (n : Nat) : (cx n).P.follows .mixedOrders = true := mkCtx_mix MIX
theorem mk (n : Nat) : MOk (cx n) := mkCtx_ok (mem_cons (laws_eqCon.ok n) mem_nil)
theorem us0 : units b0 an0 = [] := by kernel_rfl
theorem e0 (n m : Nat) (v : AVs ash) (x : sh0.V) (kn : Env → Option (RVs rsh)) (kx : Nat → Env → Option (RVs rsh)) : aevT (cx n) 27 (T n) (kr n v) b0 an0 [(0, [])] (meet (some [0, 1, 5]) fun e => T0 n m e kn kx) kx (sh0.enc x) = l0 n x.1.1 x.1.2.1 (fun _ => kx 0 (sh0_0.enc ((()), (())))) (m + 1) x.1.2.2.1 := by kernel_rfl
theorem cl0 : c0 = .loop b0 := by kernel_rfl
theorem u0 (n : Nat) (v : AVs ash) : UnitOk (cx n) 27 (T n) (kr n v) 0 c0 := by
  rw [cl0]
  exact loop_unit (n := n) (co n) (mk n) (mx n) an0 [(0, [])] [0, 1, 5] (T0 n) (fun _ _ _ => rfl) (fun e kn kx out h => by obtain ⟨x, _, h⟩ := ES.on_inv h; cases h) (fun m e kn kx out h => by obtain ⟨x, rfl, h⟩ := ES.on_inv h; exact (e0 n m v x kn kx).trans h) (units_of us0 (mem_nil))
theorem us : units code an = [(0, c0)] := by kernel_rfl
theorem eqn (n : Nat) (v : AVs ash) : fnEvT (cx n) d an (T n) (avEnc ash v) (rvDec rsh) = F n v.1 v.2.1 := by kernel_rfl
theorem ok (n : Nat) : EntOk Try.prog 130 (ent n) :=
  ent_ok (c := cx n) (e := ent n) (d := d) (an := an) (fn := Try.f130) (co n) (mk n) (mx n) (by kernel_rfl) (by kernel_rfl) (by kernel_rfl) (by kernel_rfl) (by kernel_rfl) (fun _ => T n) (fun v => units_of us (mem_cons (u0 n v) mem_nil)) (eqn n)
end laws_eqConS
end Go.Abs
