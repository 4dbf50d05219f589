/- The functions, and that a call of each comes to it. Conditions: none. -/
import Derived.Test.YtmpickbajdimdaaF2
namespace Go.Abs
open Go.Proofs
set_option linter.unusedVariables false
/-! laws.markExpS -/
namespace laws_markExpS
def l0 (n : Nat) (K0 : Int → (List (Int × ByteArray × List Int)) → Option (Int × List (Int × ByteArray × List Int))) : Nat → Int → Int → (List (Int × ByteArray × List Int)) → Option (Int × List (Int × ByteArray × List Int))
  | 0, _, _, _ => none
  | k + 1, k3, i4, a5 =>
    if decide (i4 < (List.length a5 : Int)) = true then
      if 0 ≤ i4 ∧ i4 < (List.length a5 : Int) then
        let w6 : List (Int × ByteArray × List Int) := List.set a5 (Int.toNat i4) (k3, (List.getD a5 (Int.toNat i4) (0, (ByteArray.empty, []))).2)
        (laws_markText.F n (IntKind.i64.wrap (k3 + 1))).bind fun r7 =>
        if 0 ≤ i4 ∧ i4 < (List.length w6 : Int) then
          let w8 : List (Int × ByteArray × List Int) := List.set w6 (Int.toNat i4) ((List.getD w6 (Int.toNat i4) (0, (ByteArray.empty, []))).1, (r7, ((List.getD w6 (Int.toNat i4) (0, (ByteArray.empty, []))).2).2))
          if 0 ≤ i4 ∧ i4 < (List.length w8 : Int) then
            (laws_markIntS.F n (((List.getD w8 (Int.toNat i4) (0, (ByteArray.empty, []))).2).2) (IntKind.i64.wrap ((IntKind.i64.wrap (k3 + 1)) + 1))).bind fun r9 =>
            let w10 : List (Int × ByteArray × List Int) := List.set w8 (Int.toNat i4) ((List.getD w8 (Int.toNat i4) (0, (ByteArray.empty, []))).1, (((List.getD w8 (Int.toNat i4) (0, (ByteArray.empty, []))).2).1, r9.2))
            l0 n K0 k r9.1 (IntKind.i64.wrap (i4 + 1)) w10
          else
            none
        else
          none
      else
        none
    else
      K0 k3 a5
def F (n : Nat) (a1 : List (Int × ByteArray × List Int)) (k2 : Int) : Option (Int × List (Int × ByteArray × List Int)) :=
  l0 n (fun k11 a12 =>
    some (k11, a12)) n k2 0 a1
noncomputable def code : Code := Try.f80.body.getD .skip
abbrev ash : List ASh := [.ms (.sl (.st (.pair (.int .i64) (.pair (.str) (.sl (.int .i64)))))) (.own (.pr .ro (.pr .ro (.own .ro)))), .ro (.int .i64)]
abbrev rsh : List RSh := [.ro (.int .i64), .out (.sl (.st (.pair (.int .i64) (.pair (.str) (.sl (.int .i64))))))]
def ent (n : Nat) : FEnt := ⟨ash, rsh, fun v => F n v.1 v.2.1⟩
noncomputable def cx (n : Nat) : Ctx := mkCtx Try.prog TYS [(30, laws_markIntS.ent n), (90, laws_markText.ent n)]
noncomputable def d : FnD := ⟨code, 35, .nil, [(.tmp 4, .int .i64, .ro)]⟩
noncomputable def kr (n : Nat) (v : AVs ash) : Env → Option (RVs rsh) := endK (cx n) d (avEnc ash v) (rvDec rsh)
noncomputable def c0 : Code := (Code.l (Code.r (Code.l (Code.r code))))
noncomputable def b0 : Code := Code.l c0
def an : An := .seq .nil (.seq (.seq .nil (.block (some [0, 1]) (.cut 0 [0, 1, 5]))) (.seq .nil .nil))
def an0 : An := .seq (.seq .nil (.cond .nil .nil)) (.seq (.block (some [0, 1, 5]) (.seq .nil (.seq .nil (.seq .nil (.seq .nil .nil))))) .nil)
abbrev sh0 : ES := ⟨[(0, .al 0 []), (1, .v (.int .i64)), (5, .v (.int .i64))], [⟨0, .sl (.st (.pair (.int .i64) (.pair (.str) (.sl (.int .i64))))), .own (.pr .ro (.pr .ro (.own .ro))), false, true⟩]⟩
abbrev sh0_0 : ES := ⟨[(0, .al 0 []), (1, .v (.int .i64))], [⟨0, .sl (.st (.pair (.int .i64) (.pair (.str) (.sl (.int .i64))))), .own (.pr .ro (.pr .ro (.own .ro))), false, true⟩]⟩
def T0 (n m : Nat) (e : Env) (kn : Env → Option (RVs rsh)) (kx : Nat → Env → Option (RVs rsh)) : Option (RVs rsh) := ES.on sh0 e fun x => l0 n (fun y0 y1 => kx 0 (sh0_0.enc (((()), y0, ()), (y1, ())))) m x.1.2.1 x.1.2.2.1 x.2.1
def T (n : Nat) : Tab (RVs rsh) := fun j e kn kx => match j with
  | 0 => T0 n n e kn kx
  | _ => none
theorem co (n : Nat) : CtxOk (cx n) := mkCtx_cok TYS_ok
theorem mx (n : Nat) : (cx n).P.follows .mixedOrders = true := mkCtx_mix MIX
theorem mk (n : Nat) : MOk (cx n) := mkCtx_ok (mem_cons (laws_markIntS.ok n) (mem_cons (laws_markText.ok n) mem_nil))
theorem us0 : units b0 an0 = [] := by kernel_rfl
theorem e0 (n m : Nat) (v : AVs ash) (x : sh0.V) (kn : Env → Option (RVs rsh)) (kx : Nat → Env → Option (RVs rsh)) : aevT (cx n) 35 (T n) (kr n v) b0 an0 [(0, [0, 1])] (meet (some [0, 1, 5]) fun e => T0 n m e kn kx) kx (sh0.enc x) = l0 n (fun y0 y1 => kx 0 (sh0_0.enc (((()), y0, ()), (y1, ())))) (m + 1) x.1.2.1 x.1.2.2.1 x.2.1 := by kernel_rfl
theorem cl0 : c0 = .loop b0 := by kernel_rfl
theorem u0 (n : Nat) (v : AVs ash) : UnitOk (cx n) 35 (T n) (kr n v) 0 c0 := by
  rw [cl0]
  exact loop_unit (n := n) (co n) (mk n) (mx n) an0 [(0, [0, 1])] [0, 1, 5] (T0 n) (fun _ _ _ => rfl) (fun e kn kx out h => by obtain ⟨x, _, h⟩ := ES.on_inv h; cases h) (fun m e kn kx out h => by obtain ⟨x, rfl, h⟩ := ES.on_inv h; exact (e0 n m v x kn kx).trans h) (units_of us0 (mem_nil))
theorem us : units code an = [(0, c0)] := by kernel_rfl
theorem eqn (n : Nat) (v : AVs ash) : fnEvT (cx n) d an (T n) (avEnc ash v) (rvDec rsh) = F n v.1 v.2.1 := by kernel_rfl
theorem ok (n : Nat) : EntOk Try.prog 80 (ent n) :=
  ent_ok (c := cx n) (e := ent n) (d := d) (an := an) (fn := Try.f80) (co n) (mk n) (mx n) (by kernel_rfl) (by kernel_rfl) (by kernel_rfl) (by kernel_rfl) (by kernel_rfl) (fun _ => T n) (fun v => units_of us (mem_cons (u0 n v) mem_nil)) (eqn n)
end laws_markExpS
/-! laws.markLitS -/
namespace laws_markLitS
def l0 (n : Nat) (K0 : Int → (List (Int × ByteArray × List Int)) → Option (Int × List (Int × ByteArray × List Int))) : Nat → Int → Int → (List (Int × ByteArray × List Int)) → Option (Int × List (Int × ByteArray × List Int))
  | 0, _, _, _ => none
  | k + 1, k3, i4, a5 =>
    if decide (i4 < (List.length a5 : Int)) = true then
      if 0 ≤ i4 ∧ i4 < (List.length a5 : Int) then
        let w6 : List (Int × ByteArray × List Int) := List.set a5 (Int.toNat i4) (k3, (List.getD a5 (Int.toNat i4) (0, (ByteArray.empty, []))).2)
        (laws_markText.F n (IntKind.i64.wrap (k3 + 1))).bind fun r7 =>
        if 0 ≤ i4 ∧ i4 < (List.length w6 : Int) then
          let w8 : List (Int × ByteArray × List Int) := List.set w6 (Int.toNat i4) ((List.getD w6 (Int.toNat i4) (0, (ByteArray.empty, []))).1, (r7, ((List.getD w6 (Int.toNat i4) (0, (ByteArray.empty, []))).2).2))
          if 0 ≤ i4 ∧ i4 < (List.length w8 : Int) then
            (laws_markIntS.F n (((List.getD w8 (Int.toNat i4) (0, (ByteArray.empty, []))).2).2) (IntKind.i64.wrap ((IntKind.i64.wrap (k3 + 1)) + 1))).bind fun r9 =>
            let w10 : List (Int × ByteArray × List Int) := List.set w8 (Int.toNat i4) ((List.getD w8 (Int.toNat i4) (0, (ByteArray.empty, []))).1, (((List.getD w8 (Int.toNat i4) (0, (ByteArray.empty, []))).2).1, r9.2))
            l0 n K0 k r9.1 (IntKind.i64.wrap (i4 + 1)) w10
          else
            none
        else
          none
      else
        none
    else
      K0 k3 a5
def F (n : Nat) (a1 : List (Int × ByteArray × List Int)) (k2 : Int) : Option (Int × List (Int × ByteArray × List Int)) :=
  l0 n (fun k11 a12 =>
    some (k11, a12)) n k2 0 a1
noncomputable def code : Code := Try.f82.body.getD .skip
abbrev ash : List ASh := [.ms (.sl (.st (.pair (.int .i64) (.pair (.str) (.sl (.int .i64)))))) (.own (.pr .ro (.pr .ro (.own .ro)))), .ro (.int .i64)]
abbrev rsh : List RSh := [.ro (.int .i64), .out (.sl (.st (.pair (.int .i64) (.pair (.str) (.sl (.int .i64))))))]
def ent (n : Nat) : FEnt := ⟨ash, rsh, fun v => F n v.1 v.2.1⟩
noncomputable def cx (n : Nat) : Ctx := mkCtx Try.prog TYS [(30, laws_markIntS.ent n), (90, laws_markText.ent n)]
noncomputable def d : FnD := ⟨code, 35, .nil, [(.tmp 4, .int .i64, .ro)]⟩
noncomputable def kr (n : Nat) (v : AVs ash) : Env → Option (RVs rsh) := endK (cx n) d (avEnc ash v) (rvDec rsh)
noncomputable def c0 : Code := (Code.l (Code.r (Code.l (Code.r code))))
noncomputable def b0 : Code := Code.l c0
def an : An := .seq .nil (.seq (.seq .nil (.block (some [0, 1]) (.cut 0 [0, 1, 5]))) (.seq .nil .nil))
def an0 : An := .seq (.seq .nil (.cond .nil .nil)) (.seq (.block (some [0, 1, 5]) (.seq .nil (.seq .nil (.seq .nil (.seq .nil .nil))))) .nil)
abbrev sh0 : ES := ⟨[(0, .al 0 []), (1, .v (.int .i64)), (5, .v (.int .i64))], [⟨0, .sl (.st (.pair (.int .i64) (.pair (.str) (.sl (.int .i64))))), .own (.pr .ro (.pr .ro (.own .ro))), false, true⟩]⟩
abbrev sh0_0 : ES := ⟨[(0, .al 0 []), (1, .v (.int .i64))], [⟨0, .sl (.st (.pair (.int .i64) (.pair (.str) (.sl (.int .i64))))), .own (.pr .ro (.pr .ro (.own .ro))), false, true⟩]⟩
def T0 (n m : Nat) (e : Env) (kn : Env → Option (RVs rsh)) (kx : Nat → Env → Option (RVs rsh)) : Option (RVs rsh) := ES.on sh0 e fun x => l0 n (fun y0 y1 => kx 0 (sh0_0.enc (((()), y0, ()), (y1, ())))) m x.1.2.1 x.1.2.2.1 x.2.1
def T (n : Nat) : Tab (RVs rsh) := fun j e kn kx => match j with
  | 0 => T0 n n e kn kx
  | _ => none
theorem co (n : Nat) : CtxOk (cx n) := mkCtx_cok TYS_ok
theorem mx (n : Nat) : (cx n).P.follows .mixedOrders = true := mkCtx_mix MIX
theorem mk (n : Nat) : MOk (cx n) := mkCtx_ok (mem_cons (laws_markIntS.ok n) (mem_cons (laws_markText.ok n) mem_nil))
theorem us0 : units b0 an0 = [] := by kernel_rfl
theorem e0 (n m : Nat) (v : AVs ash) (x : sh0.V) (kn : Env → Option (RVs rsh)) (kx : Nat → Env → Option (RVs rsh)) : aevT (cx n) 35 (T n) (kr n v) b0 an0 [(0, [0, 1])] (meet (some [0, 1, 5]) fun e => T0 n m e kn kx) kx (sh0.enc x) = l0 n (fun y0 y1 => kx 0 (sh0_0.enc (((()), y0, ()), (y1, ())))) (m + 1) x.1.2.1 x.1.2.2.1 x.2.1 := by kernel_rfl
theorem cl0 : c0 = .loop b0 := by kernel_rfl
theorem u0 (n : Nat) (v : AVs ash) : UnitOk (cx n) 35 (T n) (kr n v) 0 c0 := by
  rw [cl0]
  exact loop_unit (n := n) (co n) (mk n) (mx n) an0 [(0, [0, 1])] [0, 1, 5] (T0 n) (fun _ _ _ => rfl) (fun e kn kx out h => by obtain ⟨x, _, h⟩ := ES.on_inv h; cases h) (fun m e kn kx out h => by obtain ⟨x, rfl, h⟩ := ES.on_inv h; exact (e0 n m v x kn kx).trans h) (units_of us0 (mem_nil))
theorem us : units code an = [(0, c0)] := by kernel_rfl
theorem eqn (n : Nat) (v : AVs ash) : fnEvT (cx n) d an (T n) (avEnc ash v) (rvDec rsh) = F n v.1 v.2.1 := by kernel_rfl
theorem ok (n : Nat) : EntOk Try.prog 82 (ent n) :=
  ent_ok (c := cx n) (e := ent n) (d := d) (an := an) (fn := Try.f82) (co n) (mk n) (mx n) (by kernel_rfl) (by kernel_rfl) (by kernel_rfl) (by kernel_rfl) (by kernel_rfl) (fun _ => T n) (fun v => units_of us (mem_cons (u0 n v) mem_nil)) (eqn n)
end laws_markLitS
/-! laws.markRuleS -/
namespace laws_markRuleS
def l0 (n : Nat) (K0 : Int → (List ((List (Int × ByteArray × List Int)) × (Int × ByteArray × List Int) × List (Int × ByteArray × List Int))) → Option (Int × List ((List (Int × ByteArray × List Int)) × (Int × ByteArray × List Int) × List (Int × ByteArray × List Int)))) : Nat → Int → Int → (List ((List (Int × ByteArray × List Int)) × (Int × ByteArray × List Int) × List (Int × ByteArray × List Int))) → Option (Int × List ((List (Int × ByteArray × List Int)) × (Int × ByteArray × List Int) × List (Int × ByteArray × List Int)))
  | 0, _, _, _ => none
  | k + 1, k3, i4, a5 =>
    if decide (i4 < (List.length a5 : Int)) = true then
      if 0 ≤ i4 ∧ i4 < (List.length a5 : Int) then
        (laws_markExpS.F n ((List.getD a5 (Int.toNat i4) ([], ((0, (ByteArray.empty, [])), []))).1) k3).bind fun r6 =>
        let w7 : List ((List (Int × ByteArray × List Int)) × (Int × ByteArray × List Int) × List (Int × ByteArray × List Int)) := List.set a5 (Int.toNat i4) (r6.2, (List.getD a5 (Int.toNat i4) ([], ((0, (ByteArray.empty, [])), []))).2)
        if 0 ≤ i4 ∧ i4 < (List.length w7 : Int) then
          let w8 : List ((List (Int × ByteArray × List Int)) × (Int × ByteArray × List Int) × List (Int × ByteArray × List Int)) := List.set w7 (Int.toNat i4) ((List.getD w7 (Int.toNat i4) ([], ((0, (ByteArray.empty, [])), []))).1, ((r6.1, (((List.getD w7 (Int.toNat i4) ([], ((0, (ByteArray.empty, [])), []))).2).1).2), ((List.getD w7 (Int.toNat i4) ([], ((0, (ByteArray.empty, [])), []))).2).2))
          (laws_markText.F n (IntKind.i64.wrap (r6.1 + 1))).bind fun r9 =>
          if 0 ≤ i4 ∧ i4 < (List.length w8 : Int) then
            let w10 : List ((List (Int × ByteArray × List Int)) × (Int × ByteArray × List Int) × List (Int × ByteArray × List Int)) := List.set w8 (Int.toNat i4) ((List.getD w8 (Int.toNat i4) ([], ((0, (ByteArray.empty, [])), []))).1, (((((List.getD w8 (Int.toNat i4) ([], ((0, (ByteArray.empty, [])), []))).2).1).1, (r9, ((((List.getD w8 (Int.toNat i4) ([], ((0, (ByteArray.empty, [])), []))).2).1).2).2)), ((List.getD w8 (Int.toNat i4) ([], ((0, (ByteArray.empty, [])), []))).2).2))
            if 0 ≤ i4 ∧ i4 < (List.length w10 : Int) then
              (laws_markIntS.F n (((((List.getD w10 (Int.toNat i4) ([], ((0, (ByteArray.empty, [])), []))).2).1).2).2) (IntKind.i64.wrap ((IntKind.i64.wrap (r6.1 + 1)) + 1))).bind fun r11 =>
              let w12 : List ((List (Int × ByteArray × List Int)) × (Int × ByteArray × List Int) × List (Int × ByteArray × List Int)) := List.set w10 (Int.toNat i4) ((List.getD w10 (Int.toNat i4) ([], ((0, (ByteArray.empty, [])), []))).1, (((((List.getD w10 (Int.toNat i4) ([], ((0, (ByteArray.empty, [])), []))).2).1).1, (((((List.getD w10 (Int.toNat i4) ([], ((0, (ByteArray.empty, [])), []))).2).1).2).1, r11.2)), ((List.getD w10 (Int.toNat i4) ([], ((0, (ByteArray.empty, [])), []))).2).2))
              if 0 ≤ i4 ∧ i4 < (List.length w12 : Int) then
                (laws_markLitS.F n (((List.getD w12 (Int.toNat i4) ([], ((0, (ByteArray.empty, [])), []))).2).2) r11.1).bind fun r13 =>
                let w14 : List ((List (Int × ByteArray × List Int)) × (Int × ByteArray × List Int) × List (Int × ByteArray × List Int)) := List.set w12 (Int.toNat i4) ((List.getD w12 (Int.toNat i4) ([], ((0, (ByteArray.empty, [])), []))).1, (((List.getD w12 (Int.toNat i4) ([], ((0, (ByteArray.empty, [])), []))).2).1, r13.2))
                l0 n K0 k r13.1 (IntKind.i64.wrap (i4 + 1)) w14
              else
                none
            else
              none
          else
            none
        else
          none
      else
        none
    else
      K0 k3 a5
def F (n : Nat) (a1 : List ((List (Int × ByteArray × List Int)) × (Int × ByteArray × List Int) × List (Int × ByteArray × List Int))) (k2 : Int) : Option (Int × List ((List (Int × ByteArray × List Int)) × (Int × ByteArray × List Int) × List (Int × ByteArray × List Int))) :=
  l0 n (fun k15 a16 =>
    some (k15, a16)) n k2 0 a1
noncomputable def code : Code := Try.f74.body.getD .skip
abbrev ash : List ASh := [.ms (.sl (.st (.pair (.sl (.st (.pair (.int .i64) (.pair (.str) (.sl (.int .i64)))))) (.pair (.st (.pair (.int .i64) (.pair (.str) (.sl (.int .i64))))) (.sl (.st (.pair (.int .i64) (.pair (.str) (.sl (.int .i64)))))))))) (.own (.pr (.own (.pr .ro (.pr .ro (.own .ro)))) (.pr (.pr .ro (.pr .ro (.own .ro))) (.own (.pr .ro (.pr .ro (.own .ro))))))), .ro (.int .i64)]
abbrev rsh : List RSh := [.ro (.int .i64), .out (.sl (.st (.pair (.sl (.st (.pair (.int .i64) (.pair (.str) (.sl (.int .i64)))))) (.pair (.st (.pair (.int .i64) (.pair (.str) (.sl (.int .i64))))) (.sl (.st (.pair (.int .i64) (.pair (.str) (.sl (.int .i64))))))))))]
def ent (n : Nat) : FEnt := ⟨ash, rsh, fun v => F n v.1 v.2.1⟩
noncomputable def cx (n : Nat) : Ctx := mkCtx Try.prog TYS [(30, laws_markIntS.ent n), (80, laws_markExpS.ent n), (82, laws_markLitS.ent n), (90, laws_markText.ent n)]
noncomputable def d : FnD := ⟨code, 52, .nil, [(.tmp 4, .int .i64, .ro)]⟩
noncomputable def kr (n : Nat) (v : AVs ash) : Env → Option (RVs rsh) := endK (cx n) d (avEnc ash v) (rvDec rsh)
noncomputable def c0 : Code := (Code.l (Code.r (Code.l (Code.r code))))
noncomputable def b0 : Code := Code.l c0
def an : An := .seq .nil (.seq (.seq .nil (.block (some [0, 1]) (.cut 0 [0, 1, 5]))) (.seq .nil .nil))
def an0 : An := .seq (.seq .nil (.cond .nil .nil)) (.seq (.block (some [0, 1, 5]) (.seq .nil (.seq .nil (.seq .nil (.seq .nil (.seq .nil (.seq .nil .nil))))))) .nil)
abbrev sh0 : ES := ⟨[(0, .al 0 []), (1, .v (.int .i64)), (5, .v (.int .i64))], [⟨0, .sl (.st (.pair (.sl (.st (.pair (.int .i64) (.pair (.str) (.sl (.int .i64)))))) (.pair (.st (.pair (.int .i64) (.pair (.str) (.sl (.int .i64))))) (.sl (.st (.pair (.int .i64) (.pair (.str) (.sl (.int .i64))))))))), .own (.pr (.own (.pr .ro (.pr .ro (.own .ro)))) (.pr (.pr .ro (.pr .ro (.own .ro))) (.own (.pr .ro (.pr .ro (.own .ro)))))), false, true⟩]⟩
abbrev sh0_0 : ES := ⟨[(0, .al 0 []), (1, .v (.int .i64))], [⟨0, .sl (.st (.pair (.sl (.st (.pair (.int .i64) (.pair (.str) (.sl (.int .i64)))))) (.pair (.st (.pair (.int .i64) (.pair (.str) (.sl (.int .i64))))) (.sl (.st (.pair (.int .i64) (.pair (.str) (.sl (.int .i64))))))))), .own (.pr (.own (.pr .ro (.pr .ro (.own .ro)))) (.pr (.pr .ro (.pr .ro (.own .ro))) (.own (.pr .ro (.pr .ro (.own .ro)))))), false, true⟩]⟩
def T0 (n m : Nat) (e : Env) (kn : Env → Option (RVs rsh)) (kx : Nat → Env → Option (RVs rsh)) : Option (RVs rsh) := ES.on sh0 e fun x => l0 n (fun y0 y1 => kx 0 (sh0_0.enc (((()), y0, ()), (y1, ())))) m x.1.2.1 x.1.2.2.1 x.2.1
def T (n : Nat) : Tab (RVs rsh) := fun j e kn kx => match j with
  | 0 => T0 n n e kn kx
  | _ => none
theorem co (n : Nat) : CtxOk (cx n) := mkCtx_cok TYS_ok
theorem mx (n : Nat) : (cx n).P.follows .mixedOrders = true := mkCtx_mix MIX
theorem mk (n : Nat) : MOk (cx n) := mkCtx_ok (mem_cons (laws_markIntS.ok n) (mem_cons (laws_markExpS.ok n) (mem_cons (laws_markLitS.ok n) (mem_cons (laws_markText.ok n) mem_nil))))
theorem us0 : units b0 an0 = [] := by kernel_rfl
theorem e0 (n m : Nat) (v : AVs ash) (x : sh0.V) (kn : Env → Option (RVs rsh)) (kx : Nat → Env → Option (RVs rsh)) : aevT (cx n) 52 (T n) (kr n v) b0 an0 [(0, [0, 1])] (meet (some [0, 1, 5]) fun e => T0 n m e kn kx) kx (sh0.enc x) = l0 n (fun y0 y1 => kx 0 (sh0_0.enc (((()), y0, ()), (y1, ())))) (m + 1) x.1.2.1 x.1.2.2.1 x.2.1 := by kernel_rfl
theorem cl0 : c0 = .loop b0 := by kernel_rfl
theorem u0 (n : Nat) (v : AVs ash) : UnitOk (cx n) 52 (T n) (kr n v) 0 c0 := by
  rw [cl0]
  exact loop_unit (n := n) (co n) (mk n) (mx n) an0 [(0, [0, 1])] [0, 1, 5] (T0 n) (fun _ _ _ => rfl) (fun e kn kx out h => by obtain ⟨x, _, h⟩ := ES.on_inv h; cases h) (fun m e kn kx out h => by obtain ⟨x, rfl, h⟩ := ES.on_inv h; exact (e0 n m v x kn kx).trans h) (units_of us0 (mem_nil))
theorem us : units code an = [(0, c0)] := by kernel_rfl
theorem eqn (n : Nat) (v : AVs ash) : fnEvT (cx n) d an (T n) (avEnc ash v) (rvDec rsh) = F n v.1 v.2.1 := by kernel_rfl
theorem ok (n : Nat) : EntOk Try.prog 74 (ent n) :=
  ent_ok (c := cx n) (e := ent n) (d := d) (an := an) (fn := Try.f74) (co n) (mk n) (mx n) (by kernel_rfl) (by kernel_rfl) (by kernel_rfl) (by kernel_rfl) (by kernel_rfl) (fun _ => T n) (fun v => units_of us (mem_cons (u0 n v) mem_nil)) (eqn n)
end laws_markRuleS
/-! laws.markProg -/
namespace laws_markProg
def F (n : Nat) (a1 : (List (ByteArray × List (ByteArray × List ByteArray))) × (List (ByteArray × (List ByteArray) × Int)) × List ((List (Int × ByteArray × List Int)) × (Int × ByteArray × List Int) × List (Int × ByteArray × List Int))) (k2 : Int) : Option (Int × (List (ByteArray × List (ByteArray × List ByteArray))) × (List (ByteArray × (List ByteArray) × Int)) × List ((List (Int × ByteArray × List Int)) × (Int × ByteArray × List Int) × List (Int × ByteArray × List Int))) :=
  (laws_markTypeDeclS.F n a1.1 k2).bind fun r3 =>
  (laws_markRelDeclS.F n a1.2.1 r3.1).bind fun r4 =>
  (laws_markRuleS.F n a1.2.2 r4.1).bind fun r5 =>
  some (r5.1, (r3.2, (r4.2, r5.2)))
noncomputable def code : Code := Try.f29.body.getD .skip
abbrev ash : List ASh := [.ms (.st (.pair (.sl (.st (.pair (.str) (.sl (.st (.pair (.str) (.sl (.str)))))))) (.pair (.sl (.st (.pair (.str) (.pair (.sl (.str)) (.int .i64))))) (.sl (.st (.pair (.sl (.st (.pair (.int .i64) (.pair (.str) (.sl (.int .i64)))))) (.pair (.st (.pair (.int .i64) (.pair (.str) (.sl (.int .i64))))) (.sl (.st (.pair (.int .i64) (.pair (.str) (.sl (.int .i64))))))))))))) (.pr (.own (.pr .ro (.own (.pr .ro (.own .ro))))) (.pr (.own (.pr .ro (.pr (.own .ro) .ro))) (.own (.pr (.own (.pr .ro (.pr .ro (.own .ro)))) (.pr (.pr .ro (.pr .ro (.own .ro))) (.own (.pr .ro (.pr .ro (.own .ro))))))))), .ro (.int .i64)]
abbrev rsh : List RSh := [.ro (.int .i64), .out (.st (.pair (.sl (.st (.pair (.str) (.sl (.st (.pair (.str) (.sl (.str)))))))) (.pair (.sl (.st (.pair (.str) (.pair (.sl (.str)) (.int .i64))))) (.sl (.st (.pair (.sl (.st (.pair (.int .i64) (.pair (.str) (.sl (.int .i64)))))) (.pair (.st (.pair (.int .i64) (.pair (.str) (.sl (.int .i64))))) (.sl (.st (.pair (.int .i64) (.pair (.str) (.sl (.int .i64)))))))))))))]
def ent (n : Nat) : FEnt := ⟨ash, rsh, fun v => F n v.1 v.2.1⟩
noncomputable def cx (n : Nat) : Ctx := mkCtx Try.prog TYS [(72, laws_markTypeDeclS.ent n), (73, laws_markRelDeclS.ent n), (74, laws_markRuleS.ent n)]
noncomputable def d : FnD := ⟨code, 18, .nil, [(.tmp 4, .int .i64, .ro)]⟩
noncomputable def kr (n : Nat) (v : AVs ash) : Env → Option (RVs rsh) := endK (cx n) d (avEnc ash v) (rvDec rsh)
def an : An := .seq .nil (.seq .nil (.seq .nil (.seq .nil (.seq .nil .nil))))
def T (n : Nat) : Tab (RVs rsh) := fun j e kn kx => match j with
  | _ => none
theorem co (n : Nat) : CtxOk (cx n) := mkCtx_cok TYS_ok
theorem mx (n : Nat) : (cx n).P.follows .mixedOrders = true := mkCtx_mix MIX
theorem mk (n : Nat) : MOk (cx n) := mkCtx_ok (mem_cons (laws_markTypeDeclS.ok n) (mem_cons (laws_markRelDeclS.ok n) (mem_cons (laws_markRuleS.ok n) mem_nil)))
theorem us : units code an = [] := by kernel_rfl
theorem eqn (n : Nat) (v : AVs ash) : fnEvT (cx n) d an (T n) (avEnc ash v) (rvDec rsh) = F n v.1 v.2.1 := by kernel_rfl
theorem ok (n : Nat) : EntOk Try.prog 29 (ent n) :=
  ent_ok (c := cx n) (e := ent n) (d := d) (an := an) (fn := Try.f29) (co n) (mk n) (mx n) (by kernel_rfl) (by kernel_rfl) (by kernel_rfl) (by kernel_rfl) (by kernel_rfl) (fun _ => T n) (fun v => units_of us (mem_nil)) (eqn n)
end laws_markProg
/-! laws.heldIntS -/
namespace laws_heldIntS
def l0 (n : Nat) (a3 : List Int) (K0 : Int → Option Int) : Nat → Int → Int → Option Int
  | 0, _, _ => none
  | k + 1, k4, i5 =>
    if decide (i5 < (List.length a3 : Int)) = true then
      if 0 ≤ i5 ∧ i5 < (List.length a3 : Int) then
        if (!decide ((List.getD a3 (Int.toNat i5) 0) = k4)) = true then
          some (-1)
        else
          l0 n a3 K0 k (IntKind.i64.wrap (k4 + 1)) (IntKind.i64.wrap (i5 + 1))
      else
        none
    else
      K0 k4
def F (n : Nat) (a1 : List Int) (k2 : Int) : Option Int :=
  l0 n a1 (fun k6 =>
    some k6) n k2 0
noncomputable def code : Code := Try.f31.body.getD .skip
abbrev ash : List ASh := [.ro (.sl (.int .i64)), .ro (.int .i64)]
abbrev rsh : List RSh := [.ro (.int .i64)]
def ent (n : Nat) : FEnt := ⟨ash, rsh, fun v => F n v.1 v.2.1⟩
noncomputable def cx (n : Nat) : Ctx := mkCtx Try.prog TYS []
noncomputable def d : FnD := ⟨code, 21, .nil, [(.tmp 4, .int .i64, .ro)]⟩
noncomputable def kr (n : Nat) (v : AVs ash) : Env → Option (RVs rsh) := endK (cx n) d (avEnc ash v) (rvDec rsh)
noncomputable def c0 : Code := (Code.l (Code.r (Code.l (Code.r code))))
noncomputable def b0 : Code := Code.l c0
def an : An := .seq .nil (.seq (.seq .nil (.block (some [1]) (.cut 0 [0, 1, 5]))) (.seq .nil .nil))
def an0 : An := .seq (.seq .nil (.cond .nil .nil)) (.seq (.block (some [0, 1, 5]) (.seq (.seq .nil (.cond (.seq .nil .nil) .nil)) .nil)) .nil)
abbrev sh0 : ES := ⟨[(0, .v (.sl (.int .i64))), (1, .v (.int .i64)), (5, .v (.int .i64))], []⟩
abbrev sh0_0 : ES := ⟨[(1, .v (.int .i64))], []⟩
def T0 (n m : Nat) (e : Env) (kn : Env → Option (RVs rsh)) (kx : Nat → Env → Option (RVs rsh)) : Option (RVs rsh) := ES.on sh0 e fun x => l0 n x.1.1 (fun y0 => kx 0 (sh0_0.enc ((y0, ()), (())))) m x.1.2.1 x.1.2.2.1
def T (n : Nat) : Tab (RVs rsh) := fun j e kn kx => match j with
  | 0 => T0 n n e kn kx
  | _ => none
theorem co (n : Nat) : CtxOk (cx n) := mkCtx_cok TYS_ok
theorem mx (n : Nat) : (cx n).P.follows .mixedOrders = true := mkCtx_mix MIX
theorem mk (n : Nat) : MOk (cx n) := mkCtx_ok (mem_nil)
theorem us0 : units b0 an0 = [] := by kernel_rfl
theorem e0 (n m : Nat) (v : AVs ash) (x : sh0.V) (kn : Env → Option (RVs rsh)) (kx : Nat → Env → Option (RVs rsh)) : aevT (cx n) 21 (T n) (kr n v) b0 an0 [(0, [1])] (meet (some [0, 1, 5]) fun e => T0 n m e kn kx) kx (sh0.enc x) = l0 n x.1.1 (fun y0 => kx 0 (sh0_0.enc ((y0, ()), (())))) (m + 1) x.1.2.1 x.1.2.2.1 := by kernel_rfl
theorem cl0 : c0 = .loop b0 := by kernel_rfl
theorem u0 (n : Nat) (v : AVs ash) : UnitOk (cx n) 21 (T n) (kr n v) 0 c0 := by
  rw [cl0]
  exact loop_unit (n := n) (co n) (mk n) (mx n) an0 [(0, [1])] [0, 1, 5] (T0 n) (fun _ _ _ => rfl) (fun e kn kx out h => by obtain ⟨x, _, h⟩ := ES.on_inv h; cases h) (fun m e kn kx out h => by obtain ⟨x, rfl, h⟩ := ES.on_inv h; exact (e0 n m v x kn kx).trans h) (units_of us0 (mem_nil))
theorem us : units code an = [(0, c0)] := by kernel_rfl
theorem eqn (n : Nat) (v : AVs ash) : fnEvT (cx n) d an (T n) (avEnc ash v) (rvDec rsh) = F n v.1 v.2.1 := by kernel_rfl
theorem ok (n : Nat) : EntOk Try.prog 31 (ent n) :=
  ent_ok (c := cx n) (e := ent n) (d := d) (an := an) (fn := Try.f31) (co n) (mk n) (mx n) (by kernel_rfl) (by kernel_rfl) (by kernel_rfl) (by kernel_rfl) (by kernel_rfl) (fun _ => T n) (fun v => units_of us (mem_cons (u0 n v) mem_nil)) (eqn n)
end laws_heldIntS
/-! laws.FnExactInlines -/
namespace laws_FnExactInlines
def j0 (n : Nat) (t12 : List Int) (t13 : (List (ByteArray × List (ByteArray × List ByteArray))) × (List (ByteArray × (List ByteArray) × Int)) × List ((List (Int × ByteArray × List Int)) × (Int × ByteArray × List Int) × List (Int × ByteArray × List Int))) (t14 : List Int) : Option Bool :=
  (laws_markIntS.F n t14 1).bind fun r15 =>
  (laws_heldIntS.F n r15.2 1).bind fun r16 =>
  if decide (r16 < 0) = true then
    some false
  else
    if (!decide (r16 = r15.1)) = true then
      some false
    else
      (laws_toProg.F n t13).bind fun r17 =>
      (impl_Inlines.F n r17).bind fun r18 =>
      (laws_eqIntS.F n r18 t12).bind fun r19 =>
      if (!r19) = true then
        some false
      else
        (laws_heldIntS.F n r15.2 1).bind fun r20 =>
        if decide (r20 < 0) = true then
          some false
        else
          if (!decide (r20 = r15.1)) = true then
            some false
          else
            some true
def F (n : Nat) (t1 : (List (ByteArray × List (ByteArray × List ByteArray))) × (List (ByteArray × (List ByteArray) × Int)) × List ((List (Int × ByteArray × List Int)) × (Int × ByteArray × List Int) × List (Int × ByteArray × List Int))) : Option Bool :=
  (laws_szProg.F n t1 1048576).bind fun r2 =>
  if decide (r2 < 0) = true then
    some true
  else
    (laws_toProg.F n t1).bind fun r3 =>
    (spec_Inlines.F n r3).bind fun r4 =>
    (laws_toProg.F n t1).bind fun r5 =>
    (impl_Inlines.F n r5).bind fun r6 =>
    (laws_eqIntS.F n r6 r4).bind fun r7 =>
    if (!r7) = true then
      some false
    else
      (laws_toProg.F n t1).bind fun r8 =>
      (laws_eqProg.F n r5 r8).bind fun r9 =>
      if (!r9) = true then
        some false
      else
        (laws_markProg.F n r5 1).bind fun r10 =>
        if (decide (r10.1 < 0)) = false then
          (laws_eqIntS.F n r6 r4).bind fun r11 =>
          if (!r11) = true then
            some false
          else
            j0 n r4 t1 r6
        else
          some false
noncomputable def code : Code := Try.f6.body.getD .skip
abbrev ash : List ASh := [.ro (.st (.pair (.sl (.st (.pair (.str) (.sl (.st (.pair (.str) (.sl (.str)))))))) (.pair (.sl (.st (.pair (.str) (.pair (.sl (.str)) (.int .i64))))) (.sl (.st (.pair (.sl (.st (.pair (.int .i64) (.pair (.str) (.sl (.int .i64)))))) (.pair (.st (.pair (.int .i64) (.pair (.str) (.sl (.int .i64))))) (.sl (.st (.pair (.int .i64) (.pair (.str) (.sl (.int .i64)))))))))))))]
abbrev rsh : List RSh := [.ro .bool]
def ent (n : Nat) : FEnt := ⟨ash, rsh, fun v => F n v.1⟩
noncomputable def cx (n : Nat) : Ctx := mkCtx Try.prog TYS [(23, laws_szProg.ent n), (24, spec_Inlines.ent n), (25, laws_toProg.ent n), (26, impl_Inlines.ent n), (27, laws_eqIntS.ent n), (28, laws_eqProg.ent n), (29, laws_markProg.ent n), (30, laws_markIntS.ent n), (31, laws_heldIntS.ent n)]
noncomputable def d : FnD := ⟨code, 69, .nil, [(.tmp 2, .bool, .ro)]⟩
noncomputable def kr (n : Nat) (v : AVs ash) : Env → Option (RVs rsh) := endK (cx n) d (avEnc ash v) (rvDec rsh)
noncomputable def c0 : Code := (Code.r (Code.r (Code.r (Code.r (Code.r (Code.r (Code.r (Code.r (Code.r (Code.r (Code.r (Code.r code))))))))))))
def an : An := .seq .nil (.seq .nil (.seq .nil (.seq (.seq .nil (.cond (.seq .nil .nil) .nil)) (.seq .nil (.seq (.reg [(20, .pr (.own (.pr .ro (.own (.pr .ro (.own .ro))))) (.pr (.own (.pr .ro (.pr (.own .ro) .ro))) (.own (.pr (.own (.pr .ro (.pr .ro (.own .ro)))) (.pr (.pr .ro (.pr .ro (.own .ro))) (.own (.pr .ro (.pr .ro (.own .ro))))))))), (5, .pr (.own (.pr .ro (.own (.pr .ro (.own .ro))))) (.pr (.own (.pr .ro (.pr (.own .ro) .ro))) (.own (.pr (.own (.pr .ro (.pr .ro (.own .ro)))) (.pr (.pr .ro (.pr .ro (.own .ro))) (.own (.pr .ro (.pr .ro (.own .ro)))))))))]) (.seq (.reg [(22, .own .ro)]) (.seq (.seq .nil (.cond (.seq .nil .nil) .nil)) (.seq (.seq .nil (.cond (.seq .nil .nil) .nil)) (.seq .nil (.seq .nil (.seq (.seq .nil (.cond (.seq .nil .nil) .nil)) (.cut 0 [1, 4, 6]))))))))))))
def an0 : An := .seq .nil (.seq .nil (.seq .nil (.seq .nil (.seq (.seq .nil (.cond (.seq .nil .nil) .nil)) (.seq (.seq .nil (.cond (.seq .nil .nil) .nil)) (.seq .nil (.seq (.seq .nil (.cond (.seq .nil .nil) .nil)) (.seq .nil (.seq .nil (.seq (.seq .nil (.cond (.seq .nil .nil) .nil)) (.seq (.seq .nil (.cond (.seq .nil .nil) .nil)) (.seq .nil .nil))))))))))))
abbrev sh0 : ES := ⟨[(1, .pt 1 []), (4, .v (.sl (.int .i64))), (6, .al 6 [])], [⟨1, .st (.pair (.sl (.st (.pair (.str) (.sl (.st (.pair (.str) (.sl (.str)))))))) (.pair (.sl (.st (.pair (.str) (.pair (.sl (.str)) (.int .i64))))) (.sl (.st (.pair (.sl (.st (.pair (.int .i64) (.pair (.str) (.sl (.int .i64)))))) (.pair (.st (.pair (.int .i64) (.pair (.str) (.sl (.int .i64))))) (.sl (.st (.pair (.int .i64) (.pair (.str) (.sl (.int .i64)))))))))))), .ro, true, false⟩, ⟨6, .sl (.int .i64), .own .ro, false, false⟩]⟩
def T0 (n m : Nat) (e : Env) (kn : Env → Option (RVs rsh)) (kx : Nat → Env → Option (RVs rsh)) : Option (RVs rsh) := ES.on sh0 e fun x => j0 n x.1.2.1 x.2.1 x.2.2.1 
def T (n : Nat) : Tab (RVs rsh) := fun j e kn kx => match j with
  | 0 => T0 n n e kn kx
  | _ => none
theorem co (n : Nat) : CtxOk (cx n) := mkCtx_cok TYS_ok
theorem mx (n : Nat) : (cx n).P.follows .mixedOrders = true := mkCtx_mix MIX
theorem mk (n : Nat) : MOk (cx n) := mkCtx_ok (mem_cons (laws_szProg.ok n) (mem_cons (spec_Inlines.ok n) (mem_cons (laws_toProg.ok n) (mem_cons (impl_Inlines.ok n) (mem_cons (laws_eqIntS.ok n) (mem_cons (laws_eqProg.ok n) (mem_cons (laws_markProg.ok n) (mem_cons (laws_markIntS.ok n) (mem_cons (laws_heldIntS.ok n) mem_nil)))))))))
theorem us0 : units c0 an0 = [] := by kernel_rfl
theorem e0 (n m : Nat) (v : AVs ash) (x : sh0.V) (kn : Env → Option (RVs rsh)) (kx : Nat → Env → Option (RVs rsh)) : aevT (cx n) 69 (T n) (kr n v) c0 an0 [] (meet (some [2]) kn) kx (sh0.enc x) = j0 n x.1.2.1 x.2.1 x.2.2.1  := by kernel_rfl
theorem u0 (n : Nat) (v : AVs ash) : UnitOk (cx n) 69 (T n) (kr n v) 0 c0 :=
  join_unit (co n) (mk n) (mx n) an0 [] (some [2]) (fun e kn kx out h => by obtain ⟨x, rfl, h⟩ := ES.on_inv (show T0 n n e kn kx = some out from h); exact (e0 n n v x kn kx).trans h) (units_of us0 (mem_nil))
theorem us : units code an = [(0, c0)] := by kernel_rfl
theorem eqn (n : Nat) (v : AVs ash) : fnEvT (cx n) d an (T n) (avEnc ash v) (rvDec rsh) = F n v.1 := by kernel_rfl
theorem ok (n : Nat) : EntOk Try.prog 6 (ent n) :=
  ent_ok (c := cx n) (e := ent n) (d := d) (an := an) (fn := Try.f6) (co n) (mk n) (mx n) (by kernel_rfl) (by kernel_rfl) (by kernel_rfl) (by kernel_rfl) (by kernel_rfl) (fun _ => T n) (fun v => units_of us (mem_cons (u0 n v) mem_nil)) (eqn n)
end laws_FnExactInlines
end Go.Abs
