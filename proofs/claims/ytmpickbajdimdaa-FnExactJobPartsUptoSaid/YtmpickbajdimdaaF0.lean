/- The functions, and that a call of each comes to it. Conditions: none. -/
import Derived.Test.YtmpickbajdimdaaLb
namespace Go.Abs
open Go.Proofs
set_option linter.unusedVariables false
/-! spec.JobParts -/
namespace spec_JobParts
def l0 (n : Nat) (t2 : ByteArray) (K0 : Int → Option (ByteArray × ByteArray × ByteArray × Bool)) : Nat → Int → Option (ByteArray × ByteArray × ByteArray × Bool)
  | 0, _ => none
  | k + 1, t3 =>
    if (decide (t3 < (ByteArray.size t2 : Int))) = true then
      if (0 : Int) ≤ t3 ∧ t3 < (ByteArray.size t2 : Int) then
        if (!decide ((byteAt t2 t3) = 10)) = true then
          l0 n t2 K0 k (IntKind.i64.wrap (t3 + 1))
        else
          K0 t3
      else
        none
    else
      K0 t3
def j2 (n : Nat) (t8 : ByteArray) (t9 : ByteArray) (t10 : Bool) (Kn : Unit → Option (ByteArray × ByteArray × ByteArray × Bool)) : Option (ByteArray × ByteArray × ByteArray × Bool) :=
  if t10 = true then
    some (ByteArray.empty, ByteArray.empty, ByteArray.empty, false)
  else
    Kn ()
def l4 (n : Nat) (t13 : ByteArray) (t14 : ByteArray) (K2 : Unit → Option (ByteArray × ByteArray × ByteArray × Bool)) : Nat → Int → Option (ByteArray × ByteArray × ByteArray × Bool)
  | 0, _ => none
  | k + 1, t15 =>
    if decide ((IntKind.i64.wrap (t15 + 4)) ≤ (ByteArray.size t14 : Int)) = true then
      if (0 : Int) ≤ t15 ∧ t15 ≤ (IntKind.i64.wrap (t15 + 4)) ∧ (IntKind.i64.wrap (t15 + 4)) ≤ (ByteArray.size t14 : Int) then
        if (Abs.seq (ByteArray.extract t14 (Int.toNat t15) (Int.toNat (IntKind.i64.wrap (t15 + 4)))) ⟨#[10, 37, 37, 10]⟩) = true then
          if (0 : Int) ≤ 0 ∧ (0 : Int) ≤ (IntKind.i64.wrap (t15 + 1)) ∧ (IntKind.i64.wrap (t15 + 1)) ≤ (ByteArray.size t14 : Int) then
            if (0 : Int) ≤ (IntKind.i64.wrap (t15 + 4)) ∧ (IntKind.i64.wrap (t15 + 4)) ≤ (ByteArray.size t14 : Int) ∧ (ByteArray.size t14 : Int) ≤ (ByteArray.size t14 : Int) then
              some (t13, ByteArray.extract t14 (Int.toNat 0) (Int.toNat (IntKind.i64.wrap (t15 + 1))), ByteArray.extract t14 (Int.toNat (IntKind.i64.wrap (t15 + 4))) (Int.toNat (ByteArray.size t14 : Int)), true)
            else
              none
          else
            none
        else
          l4 n t13 t14 K2 k (IntKind.i64.wrap (t15 + 1))
      else
        none
    else
      K2 ()
def j3 (n : Nat) (t11 : ByteArray) (t12 : ByteArray) : Option (ByteArray × ByteArray × ByteArray × Bool) :=
  l4 n t11 t12 (fun _ =>
    some (ByteArray.empty, ByteArray.empty, ByteArray.empty, false)) n 0
def j1 (n : Nat) (t5 : ByteArray) (t6 : ByteArray) (t7 : Bool) : Option (ByteArray × ByteArray × ByteArray × Bool) :=
  if (!(Abs.seq t5 ⟨#[114, 117, 110]⟩)) = true then
    if (!(Abs.seq t5 ⟨#[97, 108, 108]⟩)) = true then
      if (!(Abs.seq t5 ⟨#[116, 101, 120, 116]⟩)) = true then
        j2 n t5 t6 (!t7) (fun _ =>
          j3 n t5 t6)
      else
        j2 n t5 t6 false (fun _ =>
          j3 n t5 t6)
    else
      j2 n t5 t6 false (fun _ =>
        j3 n t5 t6)
  else
    j2 n t5 t6 false (fun _ =>
      j3 n t5 t6)
def F (n : Nat) (t1 : ByteArray) : Option (ByteArray × ByteArray × ByteArray × Bool) :=
  if decide ((ByteArray.size t1 : Int) > 10000) = true then
    some (ByteArray.empty, ByteArray.empty, ByteArray.empty, false)
  else
    l0 n t1 (fun t4 =>
      if decide (t4 = (ByteArray.size t1 : Int)) = true then
        some (ByteArray.empty, ByteArray.empty, ByteArray.empty, false)
      else
        if (0 : Int) ≤ 0 ∧ (0 : Int) ≤ t4 ∧ t4 ≤ (ByteArray.size t1 : Int) then
          if (0 : Int) ≤ (IntKind.i64.wrap (t4 + 1)) ∧ (IntKind.i64.wrap (t4 + 1)) ≤ (ByteArray.size t1 : Int) ∧ (ByteArray.size t1 : Int) ≤ (ByteArray.size t1 : Int) then
            if (decide ((ByteArray.size (ByteArray.extract t1 (Int.toNat 0) (Int.toNat t4)) : Int) > 4)) = true then
              if (0 : Int) ≤ 0 ∧ (0 : Int) ≤ 4 ∧ 4 ≤ (ByteArray.size (ByteArray.extract t1 (Int.toNat 0) (Int.toNat t4)) : Int) then
                j1 n (ByteArray.extract t1 (Int.toNat 0) (Int.toNat t4)) (ByteArray.extract t1 (Int.toNat (IntKind.i64.wrap (t4 + 1))) (Int.toNat (ByteArray.size t1 : Int))) (Abs.seq (ByteArray.extract (ByteArray.extract t1 (Int.toNat 0) (Int.toNat t4)) (Int.toNat 0) (Int.toNat 4)) ⟨#[119, 104, 121, 32]⟩)
              else
                none
            else
              j1 n (ByteArray.extract t1 (Int.toNat 0) (Int.toNat t4)) (ByteArray.extract t1 (Int.toNat (IntKind.i64.wrap (t4 + 1))) (Int.toNat (ByteArray.size t1 : Int))) false
          else
            none
        else
          none) n 0
noncomputable def code : Code := Try.f9.body.getD .skip
abbrev ash : List ASh := [.ro .str]
abbrev rsh : List RSh := [.ro .str, .ro .str, .ro .str, .ro .bool]
def ent (n : Nat) : FEnt := ⟨ash, rsh, fun v => F n v.1⟩
noncomputable def cx (n : Nat) : Ctx := mkCtx Try.prog TYS []
noncomputable def d : FnD := ⟨code, 81, .nil, [(.tmp 2, .str, .ro), (.tmp 3, .str, .ro), (.tmp 4, .str, .ro), (.tmp 5, .bool, .ro)]⟩
noncomputable def kr (n : Nat) (v : AVs ash) : Env → Option (RVs rsh) := endK (cx n) d (avEnc ash v) (rvDec rsh)
noncomputable def c0 : Code := (Code.l (Code.l (Code.r (Code.r (Code.r code)))))
noncomputable def b0 : Code := Code.l c0
noncomputable def c2 : Code := (Code.r (Code.l (Code.r (Code.r (Code.r (Code.r (Code.r (Code.r (Code.r (Code.r code))))))))))
noncomputable def c4 : Code := (Code.l (Code.r (Code.l (Code.r (Code.r (Code.r (Code.r (Code.r (Code.r (Code.r (Code.r (Code.r code))))))))))))
noncomputable def b4 : Code := Code.l c4
noncomputable def c3 : Code := (Code.r (Code.r (Code.r (Code.r (Code.r (Code.r (Code.r (Code.r (Code.r code)))))))))
noncomputable def c1 : Code := (Code.r (Code.r (Code.r (Code.r (Code.r (Code.r (Code.r (Code.r code))))))))
def an : An := .seq .nil (.seq (.seq .nil (.cond (.seq .nil .nil) .nil)) (.seq .nil (.seq (.block (some [0, 6]) (.cut 0 [0, 6])) (.seq (.seq .nil (.cond (.seq .nil .nil) .nil)) (.seq .nil (.seq .nil (.seq .nil (.cut 1 [7, 8, 9]))))))))
def an0 : An := .seq (.seq .nil (.cond .nil .nil)) (.block (some [0, 6]) .nil)
abbrev sh0 : ES := ⟨[(0, .v .str), (6, .v (.int .i64))], []⟩
abbrev sh0_0 : ES := ⟨[(0, .v .str), (6, .v (.int .i64))], []⟩
def an2 : An := .cond (.seq .nil .nil) .nil
abbrev sh2 : ES := ⟨[(7, .v .str), (8, .v .str), (58, .v .bool)], []⟩
abbrev sh2_n : ES := ⟨[(7, .v .str), (8, .v .str)], []⟩
def an4 : An := .seq (.seq .nil (.cond .nil .nil)) (.seq (.block (some [7, 8, 10]) (.seq .nil (.cond (.seq .nil .nil) .nil))) .nil)
abbrev sh4 : ES := ⟨[(7, .v .str), (8, .v .str), (10, .v (.int .i64))], []⟩
abbrev sh4_2 : ES := ⟨[], []⟩
def an3 : An := .seq (.seq .nil (.block (some []) (.cut 4 [7, 8, 10]))) (.seq .nil .nil)
abbrev sh3 : ES := ⟨[(7, .v .str), (8, .v .str)], []⟩
def an1 : An := .seq (.seq .nil (.cut 2 [7, 8, 58])) (.cut 3 [7, 8])
abbrev sh1 : ES := ⟨[(7, .v .str), (8, .v .str), (9, .v .bool)], []⟩
def T0 (n m : Nat) (e : Env) (kn : Env → Option (RVs rsh)) (kx : Nat → Env → Option (RVs rsh)) : Option (RVs rsh) := ES.on sh0 e fun x => l0 n x.1.1 (fun y0 => kx 0 (sh0_0.enc ((x.1.1, y0, ()), (())))) m x.1.2.1
def T2 (n m : Nat) (e : Env) (kn : Env → Option (RVs rsh)) (kx : Nat → Env → Option (RVs rsh)) : Option (RVs rsh) := ES.on sh2 e fun x => j2 n x.1.1 x.1.2.1 x.1.2.2.1 (fun _ => kn (sh2_n.enc ((x.1.1, x.1.2.1, ()), (()))))
def T4 (n m : Nat) (e : Env) (kn : Env → Option (RVs rsh)) (kx : Nat → Env → Option (RVs rsh)) : Option (RVs rsh) := ES.on sh4 e fun x => l4 n x.1.1 x.1.2.1 (fun _ => kx 2 (sh4_2.enc ((()), (())))) m x.1.2.2.1
def T3 (n m : Nat) (e : Env) (kn : Env → Option (RVs rsh)) (kx : Nat → Env → Option (RVs rsh)) : Option (RVs rsh) := ES.on sh3 e fun x => j3 n x.1.1 x.1.2.1 
def T1 (n m : Nat) (e : Env) (kn : Env → Option (RVs rsh)) (kx : Nat → Env → Option (RVs rsh)) : Option (RVs rsh) := ES.on sh1 e fun x => j1 n x.1.1 x.1.2.1 x.1.2.2.1 
def T (n : Nat) : Tab (RVs rsh) := fun j e kn kx => match j with
  | 0 => T0 n n e kn kx
  | 2 => T2 n n e kn kx
  | 4 => T4 n n e kn kx
  | 3 => T3 n n e kn kx
  | 1 => T1 n n e kn kx
  | _ => none
theorem co (n : Nat) : CtxOk (cx n) := mkCtx_cok TYS_ok
theorem mx (n : Nat) : (cx n).P.follows .mixedOrders = true := mkCtx_mix MIX
theorem mk (n : Nat) : MOk (cx n) := mkCtx_ok (mem_nil)
theorem us0 : units b0 an0 = [] := by kernel_rfl
theorem e0 (n m : Nat) (v : AVs ash) (x : sh0.V) (kn : Env → Option (RVs rsh)) (kx : Nat → Env → Option (RVs rsh)) : aevT (cx n) 81 (T n) (kr n v) b0 an0 [(0, [0, 6])] (meet (some [0, 6]) fun e => T0 n m e kn kx) kx (sh0.enc x) = l0 n x.1.1 (fun y0 => kx 0 (sh0_0.enc ((x.1.1, y0, ()), (())))) (m + 1) x.1.2.1 := by kernel_rfl
theorem cl0 : c0 = .loop b0 := by kernel_rfl
theorem u0 (n : Nat) (v : AVs ash) : UnitOk (cx n) 81 (T n) (kr n v) 0 c0 := by
  rw [cl0]
  exact loop_unit (n := n) (co n) (mk n) (mx n) an0 [(0, [0, 6])] [0, 6] (T0 n) (fun _ _ _ => rfl) (fun e kn kx out h => by obtain ⟨x, _, h⟩ := ES.on_inv h; cases h) (fun m e kn kx out h => by obtain ⟨x, rfl, h⟩ := ES.on_inv h; exact (e0 n m v x kn kx).trans h) (units_of us0 (mem_nil))
theorem us2 : units c2 an2 = [] := by kernel_rfl
theorem e2 (n m : Nat) (v : AVs ash) (x : sh2.V) (kn : Env → Option (RVs rsh)) (kx : Nat → Env → Option (RVs rsh)) : aevT (cx n) 81 (T n) (kr n v) c2 an2 [] (meet (some [7, 8]) kn) kx (sh2.enc x) = j2 n x.1.1 x.1.2.1 x.1.2.2.1 (fun _ => kn (sh2_n.enc ((x.1.1, x.1.2.1, ()), (())))) := by kernel_rfl
theorem u2 (n : Nat) (v : AVs ash) : UnitOk (cx n) 81 (T n) (kr n v) 2 c2 :=
  join_unit (co n) (mk n) (mx n) an2 [] (some [7, 8]) (fun e kn kx out h => by obtain ⟨x, rfl, h⟩ := ES.on_inv (show T2 n n e kn kx = some out from h); exact (e2 n n v x kn kx).trans h) (units_of us2 (mem_nil))
theorem us4 : units b4 an4 = [] := by kernel_rfl
theorem e4 (n m : Nat) (v : AVs ash) (x : sh4.V) (kn : Env → Option (RVs rsh)) (kx : Nat → Env → Option (RVs rsh)) : aevT (cx n) 81 (T n) (kr n v) b4 an4 [(2, [])] (meet (some [7, 8, 10]) fun e => T4 n m e kn kx) kx (sh4.enc x) = l4 n x.1.1 x.1.2.1 (fun _ => kx 2 (sh4_2.enc ((()), (())))) (m + 1) x.1.2.2.1 := by kernel_rfl
theorem cl4 : c4 = .loop b4 := by kernel_rfl
theorem u4 (n : Nat) (v : AVs ash) : UnitOk (cx n) 81 (T n) (kr n v) 4 c4 := by
  rw [cl4]
  exact loop_unit (n := n) (co n) (mk n) (mx n) an4 [(2, [])] [7, 8, 10] (T4 n) (fun _ _ _ => rfl) (fun e kn kx out h => by obtain ⟨x, _, h⟩ := ES.on_inv h; cases h) (fun m e kn kx out h => by obtain ⟨x, rfl, h⟩ := ES.on_inv h; exact (e4 n m v x kn kx).trans h) (units_of us4 (mem_nil))
theorem us3 : units c3 an3 = [(4, c4)] := by kernel_rfl
theorem e3 (n m : Nat) (v : AVs ash) (x : sh3.V) (kn : Env → Option (RVs rsh)) (kx : Nat → Env → Option (RVs rsh)) : aevT (cx n) 81 (T n) (kr n v) c3 an3 [] (meet (some [2, 3, 4, 5]) kn) kx (sh3.enc x) = j3 n x.1.1 x.1.2.1  := by kernel_rfl
theorem u3 (n : Nat) (v : AVs ash) : UnitOk (cx n) 81 (T n) (kr n v) 3 c3 :=
  join_unit (co n) (mk n) (mx n) an3 [] (some [2, 3, 4, 5]) (fun e kn kx out h => by obtain ⟨x, rfl, h⟩ := ES.on_inv (show T3 n n e kn kx = some out from h); exact (e3 n n v x kn kx).trans h) (units_of us3 (mem_cons (u4 n v) mem_nil))
theorem us1 : units c1 an1 = [(2, c2), (3, c3)] := by kernel_rfl
theorem e1 (n m : Nat) (v : AVs ash) (x : sh1.V) (kn : Env → Option (RVs rsh)) (kx : Nat → Env → Option (RVs rsh)) : aevT (cx n) 81 (T n) (kr n v) c1 an1 [] (meet (some [2, 3, 4, 5]) kn) kx (sh1.enc x) = j1 n x.1.1 x.1.2.1 x.1.2.2.1  := by kernel_rfl
theorem u1 (n : Nat) (v : AVs ash) : UnitOk (cx n) 81 (T n) (kr n v) 1 c1 :=
  join_unit (co n) (mk n) (mx n) an1 [] (some [2, 3, 4, 5]) (fun e kn kx out h => by obtain ⟨x, rfl, h⟩ := ES.on_inv (show T1 n n e kn kx = some out from h); exact (e1 n n v x kn kx).trans h) (units_of us1 (mem_cons (u2 n v) (mem_cons (u3 n v) mem_nil)))
theorem us : units code an = [(0, c0), (1, c1)] := by kernel_rfl
theorem eqn (n : Nat) (v : AVs ash) : fnEvT (cx n) d an (T n) (avEnc ash v) (rvDec rsh) = F n v.1 := by kernel_rfl
theorem ok (n : Nat) : EntOk Try.prog 9 (ent n) :=
  ent_ok (c := cx n) (e := ent n) (d := d) (an := an) (fn := Try.f9) (co n) (mk n) (mx n) (by kernel_rfl) (by kernel_rfl) (by kernel_rfl) (by kernel_rfl) (by kernel_rfl) (fun _ => T n) (fun v => units_of us (mem_cons (u0 n v) (mem_cons (u1 n v) mem_nil))) (eqn n)
end spec_JobParts
/-! internal/stringslite.HasPrefix -/
namespace internal_stringslite_HasPrefix
def F (n : Nat) (s1 : ByteArray) (t2 : ByteArray) : Option Bool :=
  if (decide ((ByteArray.size s1 : Int) ≥ (ByteArray.size t2 : Int))) = true then
    if (0 : Int) ≤ 0 ∧ (0 : Int) ≤ (ByteArray.size t2 : Int) ∧ (ByteArray.size t2 : Int) ≤ (ByteArray.size s1 : Int) then
      some (Abs.seq (ByteArray.extract s1 (Int.toNat 0) (Int.toNat (ByteArray.size t2 : Int))) t2)
    else
      none
  else
    some false
noncomputable def code : Code := Try.f118.body.getD .skip
abbrev ash : List ASh := [.ro .str, .ro .str]
abbrev rsh : List RSh := [.ro .bool]
def ent (n : Nat) : FEnt := ⟨ash, rsh, fun v => F n v.1 v.2.1⟩
noncomputable def cx (n : Nat) : Ctx := mkCtx Try.prog TYS []
noncomputable def d : FnD := ⟨code, 18, .nil, [(.tmp 4, .bool, .ro)]⟩
noncomputable def kr (n : Nat) (v : AVs ash) : Env → Option (RVs rsh) := endK (cx n) d (avEnc ash v) (rvDec rsh)
def an : An := .seq .nil (.seq .nil .nil)
def T (n : Nat) : Tab (RVs rsh) := fun j e kn kx => match j with
  | _ => none
theorem co (n : Nat) : CtxOk (cx n) := mkCtx_cok TYS_ok
theorem mx (n : Nat) : (cx n).P.follows .mixedOrders = true := mkCtx_mix MIX
theorem mk (n : Nat) : MOk (cx n) := mkCtx_ok (mem_nil)
theorem us : units code an = [] := by kernel_rfl
theorem eqn (n : Nat) (v : AVs ash) : fnEvT (cx n) d an (T n) (avEnc ash v) (rvDec rsh) = F n v.1 v.2.1 := by kernel_rfl
theorem ok (n : Nat) : EntOk Try.prog 118 (ent n) :=
  ent_ok (c := cx n) (e := ent n) (d := d) (an := an) (fn := Try.f118) (co n) (mk n) (mx n) (by kernel_rfl) (by kernel_rfl) (by kernel_rfl) (by kernel_rfl) (by kernel_rfl) (fun _ => T n) (fun v => units_of us (mem_nil)) (eqn n)
end internal_stringslite_HasPrefix
/-! strings.HasPrefix -/
namespace strings_HasPrefix
def F (n : Nat) (s1 : ByteArray) (t2 : ByteArray) : Option Bool :=
  (internal_stringslite_HasPrefix.F n s1 t2).bind fun r3 =>
  some r3
noncomputable def code : Code := Try.f84.body.getD .skip
abbrev ash : List ASh := [.ro .str, .ro .str]
abbrev rsh : List RSh := [.ro .bool]
def ent (n : Nat) : FEnt := ⟨ash, rsh, fun v => F n v.1 v.2.1⟩
noncomputable def cx (n : Nat) : Ctx := mkCtx Try.prog TYS [(118, internal_stringslite_HasPrefix.ent n)]
noncomputable def d : FnD := ⟨code, 8, .nil, [(.tmp 4, .bool, .ro)]⟩
noncomputable def kr (n : Nat) (v : AVs ash) : Env → Option (RVs rsh) := endK (cx n) d (avEnc ash v) (rvDec rsh)
def an : An := .seq .nil (.seq .nil .nil)
def T (n : Nat) : Tab (RVs rsh) := fun j e kn kx => match j with
  | _ => none
theorem co (n : Nat) : CtxOk (cx n) := mkCtx_cok TYS_ok
theorem mx (n : Nat) : (cx n).P.follows .mixedOrders = true := mkCtx_mix MIX
theorem mk (n : Nat) : MOk (cx n) := mkCtx_ok (mem_cons (internal_stringslite_HasPrefix.ok n) mem_nil)
theorem us : units code an = [] := by kernel_rfl
theorem eqn (n : Nat) (v : AVs ash) : fnEvT (cx n) d an (T n) (avEnc ash v) (rvDec rsh) = F n v.1 v.2.1 := by kernel_rfl
theorem ok (n : Nat) : EntOk Try.prog 84 (ent n) :=
  ent_ok (c := cx n) (e := ent n) (d := d) (an := an) (fn := Try.f84) (co n) (mk n) (mx n) (by kernel_rfl) (by kernel_rfl) (by kernel_rfl) (by kernel_rfl) (by kernel_rfl) (fun _ => T n) (fun v => units_of us (mem_nil)) (eqn n)
end strings_HasPrefix
/-! impl.jobParts -/
namespace impl_jobParts
def j1 (n : Nat) (first10 : ByteArray) (rest11 : ByteArray) (t12 : Int) (t13 : Bool) (Kn : Unit → Option (ByteArray × ByteArray × ByteArray × Bool)) : Option (ByteArray × ByteArray × ByteArray × Bool) :=
  if t13 = true then
    some (ByteArray.empty, ByteArray.empty, ByteArray.empty, false)
  else
    Kn ()
def j2 (n : Nat) (first14 : ByteArray) (rest15 : ByteArray) (t16 : Int) : Option (ByteArray × ByteArray × ByteArray × Bool) :=
  if (0 : Int) ≤ 0 ∧ (0 : Int) ≤ (IntKind.i64.wrap (t16 + 1)) ∧ (IntKind.i64.wrap (t16 + 1)) ≤ (ByteArray.size rest15 : Int) then
    if (0 : Int) ≤ (IntKind.i64.wrap (t16 + 4)) ∧ (IntKind.i64.wrap (t16 + 4)) ≤ (ByteArray.size rest15 : Int) ∧ (ByteArray.size rest15 : Int) ≤ (ByteArray.size rest15 : Int) then
      some (first14, ByteArray.extract rest15 (Int.toNat 0) (Int.toNat (IntKind.i64.wrap (t16 + 1))), ByteArray.extract rest15 (Int.toNat (IntKind.i64.wrap (t16 + 4))) (Int.toNat (ByteArray.size rest15 : Int)), true)
    else
      none
  else
    none
def j0 (n : Nat) (s4 : ByteArray) (first5 : ByteArray) (rest6 : ByteArray) (has7 : Bool) (word8 : Bool) : Option (ByteArray × ByteArray × ByteArray × Bool) :=
  (strings_Index.F n rest6 ⟨#[10, 37, 37, 10]⟩).bind fun r9 =>
  if (decide ((ByteArray.size s4 : Int) > 10000)) = false then
    if (!has7) = false then
      if (!word8) = false then
        j1 n first5 rest6 r9 (decide (r9 < 0)) (fun _ =>
          j2 n first5 rest6 r9)
      else
        j1 n first5 rest6 r9 true (fun _ =>
          j2 n first5 rest6 r9)
    else
      j1 n first5 rest6 r9 true (fun _ =>
        j2 n first5 rest6 r9)
  else
    j1 n first5 rest6 r9 true (fun _ =>
      j2 n first5 rest6 r9)
def F (n : Nat) (s1 : ByteArray) : Option (ByteArray × ByteArray × ByteArray × Bool) :=
  (strings_Cut.F n s1 ⟨#[10]⟩).bind fun r2 =>
  if (Abs.seq r2.1 ⟨#[114, 117, 110]⟩) = false then
    if (Abs.seq r2.1 ⟨#[97, 108, 108]⟩) = false then
      if (Abs.seq r2.1 ⟨#[116, 101, 120, 116]⟩) = false then
        (strings_HasPrefix.F n r2.1 ⟨#[119, 104, 121, 32]⟩).bind fun r3 =>
        if r3 = true then
          j0 n s1 r2.1 r2.2.1 r2.2.2 (decide ((ByteArray.size r2.1 : Int) > 4))
        else
          j0 n s1 r2.1 r2.2.1 r2.2.2 false
      else
        j0 n s1 r2.1 r2.2.1 r2.2.2 true
    else
      j0 n s1 r2.1 r2.2.1 r2.2.2 true
  else
    j0 n s1 r2.1 r2.2.1 r2.2.2 true
noncomputable def code : Code := Try.f40.body.getD .skip
abbrev ash : List ASh := [.ro .str]
abbrev rsh : List RSh := [.ro .str, .ro .str, .ro .str, .ro .bool]
def ent (n : Nat) : FEnt := ⟨ash, rsh, fun v => F n v.1⟩
noncomputable def cx (n : Nat) : Ctx := mkCtx Try.prog TYS [(83, strings_Cut.ent n), (84, strings_HasPrefix.ent n), (85, strings_Index.ent n)]
noncomputable def d : FnD := ⟨code, 62, .nil, [(.tmp 2, .str, .ro), (.tmp 3, .str, .ro), (.tmp 4, .str, .ro), (.tmp 5, .bool, .ro)]⟩
noncomputable def kr (n : Nat) (v : AVs ash) : Env → Option (RVs rsh) := endK (cx n) d (avEnc ash v) (rvDec rsh)
noncomputable def c1 : Code := (Code.r (Code.l (Code.r (Code.r (Code.r (Code.r code))))))
noncomputable def c2 : Code := (Code.r (Code.r (Code.r (Code.r (Code.r code)))))
noncomputable def c0 : Code := (Code.r (Code.r (Code.r code)))
def an : An := .seq .nil (.seq .nil (.seq .nil (.cut 0 [0, 6, 7, 8, 9])))
def an1 : An := .cond (.seq .nil .nil) .nil
abbrev sh1 : ES := ⟨[(6, .v .str), (7, .v .str), (10, .v (.int .i64)), (52, .v .bool)], []⟩
abbrev sh1_n : ES := ⟨[(6, .v .str), (7, .v .str), (10, .v (.int .i64))], []⟩
def an2 : An := .seq .nil .nil
abbrev sh2 : ES := ⟨[(6, .v .str), (7, .v .str), (10, .v (.int .i64))], []⟩
def an0 : An := .seq .nil (.seq (.seq .nil (.cut 1 [6, 7, 10, 52])) (.cut 2 [6, 7, 10]))
abbrev sh0 : ES := ⟨[(0, .v .str), (6, .v .str), (7, .v .str), (8, .v .bool), (9, .v .bool)], []⟩
def T1 (n m : Nat) (e : Env) (kn : Env → Option (RVs rsh)) (kx : Nat → Env → Option (RVs rsh)) : Option (RVs rsh) := ES.on sh1 e fun x => j1 n x.1.1 x.1.2.1 x.1.2.2.1 x.1.2.2.2.1 (fun _ => kn (sh1_n.enc ((x.1.1, x.1.2.1, x.1.2.2.1, ()), (()))))
def T2 (n m : Nat) (e : Env) (kn : Env → Option (RVs rsh)) (kx : Nat → Env → Option (RVs rsh)) : Option (RVs rsh) := ES.on sh2 e fun x => j2 n x.1.1 x.1.2.1 x.1.2.2.1 
def T0 (n m : Nat) (e : Env) (kn : Env → Option (RVs rsh)) (kx : Nat → Env → Option (RVs rsh)) : Option (RVs rsh) := ES.on sh0 e fun x => j0 n x.1.1 x.1.2.1 x.1.2.2.1 x.1.2.2.2.1 x.1.2.2.2.2.1 
def T (n : Nat) : Tab (RVs rsh) := fun j e kn kx => match j with
  | 1 => T1 n n e kn kx
  | 2 => T2 n n e kn kx
  | 0 => T0 n n e kn kx
  | _ => none
theorem co (n : Nat) : CtxOk (cx n) := mkCtx_cok TYS_ok
theorem mx (n : Nat) : (cx n).P.follows .mixedOrders = true := mkCtx_mix MIX
theorem mk (n : Nat) : MOk (cx n) := mkCtx_ok (mem_cons (strings_Cut.ok n) (mem_cons (strings_HasPrefix.ok n) (mem_cons (strings_Index.ok n) mem_nil)))
theorem us1 : units c1 an1 = [] := by kernel_rfl
theorem e1 (n m : Nat) (v : AVs ash) (x : sh1.V) (kn : Env → Option (RVs rsh)) (kx : Nat → Env → Option (RVs rsh)) : aevT (cx n) 62 (T n) (kr n v) c1 an1 [] (meet (some [6, 7, 10]) kn) kx (sh1.enc x) = j1 n x.1.1 x.1.2.1 x.1.2.2.1 x.1.2.2.2.1 (fun _ => kn (sh1_n.enc ((x.1.1, x.1.2.1, x.1.2.2.1, ()), (())))) := by kernel_rfl
theorem u1 (n : Nat) (v : AVs ash) : UnitOk (cx n) 62 (T n) (kr n v) 1 c1 :=
  join_unit (co n) (mk n) (mx n) an1 [] (some [6, 7, 10]) (fun e kn kx out h => by obtain ⟨x, rfl, h⟩ := ES.on_inv (show T1 n n e kn kx = some out from h); exact (e1 n n v x kn kx).trans h) (units_of us1 (mem_nil))
theorem us2 : units c2 an2 = [] := by kernel_rfl
theorem e2 (n m : Nat) (v : AVs ash) (x : sh2.V) (kn : Env → Option (RVs rsh)) (kx : Nat → Env → Option (RVs rsh)) : aevT (cx n) 62 (T n) (kr n v) c2 an2 [] (meet (some [2, 3, 4, 5]) kn) kx (sh2.enc x) = j2 n x.1.1 x.1.2.1 x.1.2.2.1  := by kernel_rfl
theorem u2 (n : Nat) (v : AVs ash) : UnitOk (cx n) 62 (T n) (kr n v) 2 c2 :=
  join_unit (co n) (mk n) (mx n) an2 [] (some [2, 3, 4, 5]) (fun e kn kx out h => by obtain ⟨x, rfl, h⟩ := ES.on_inv (show T2 n n e kn kx = some out from h); exact (e2 n n v x kn kx).trans h) (units_of us2 (mem_nil))
theorem us0 : units c0 an0 = [(1, c1), (2, c2)] := by kernel_rfl
theorem e0 (n m : Nat) (v : AVs ash) (x : sh0.V) (kn : Env → Option (RVs rsh)) (kx : Nat → Env → Option (RVs rsh)) : aevT (cx n) 62 (T n) (kr n v) c0 an0 [] (meet (some [2, 3, 4, 5]) kn) kx (sh0.enc x) = j0 n x.1.1 x.1.2.1 x.1.2.2.1 x.1.2.2.2.1 x.1.2.2.2.2.1  := by kernel_rfl
theorem u0 (n : Nat) (v : AVs ash) : UnitOk (cx n) 62 (T n) (kr n v) 0 c0 :=
  join_unit (co n) (mk n) (mx n) an0 [] (some [2, 3, 4, 5]) (fun e kn kx out h => by obtain ⟨x, rfl, h⟩ := ES.on_inv (show T0 n n e kn kx = some out from h); exact (e0 n n v x kn kx).trans h) (units_of us0 (mem_cons (u1 n v) (mem_cons (u2 n v) mem_nil)))
theorem us : units code an = [(0, c0)] := by kernel_rfl
theorem eqn (n : Nat) (v : AVs ash) : fnEvT (cx n) d an (T n) (avEnc ash v) (rvDec rsh) = F n v.1 := by kernel_rfl
theorem ok (n : Nat) : EntOk Try.prog 40 (ent n) :=
  ent_ok (c := cx n) (e := ent n) (d := d) (an := an) (fn := Try.f40) (co n) (mk n) (mx n) (by kernel_rfl) (by kernel_rfl) (by kernel_rfl) (by kernel_rfl) (by kernel_rfl) (fun _ => T n) (fun v => units_of us (mem_cons (u0 n v) mem_nil)) (eqn n)
end impl_jobParts
/-! impl.JobParts -/
namespace impl_JobParts
def F (n : Nat) (s1 : ByteArray) : Option (ByteArray × ByteArray × ByteArray × Bool) :=
  (impl_jobParts.F n s1).bind fun r2 =>
  some (r2.1, r2.2.1, r2.2.2.1, r2.2.2.2)
noncomputable def code : Code := Try.f10.body.getD .skip
abbrev ash : List ASh := [.ro .str]
abbrev rsh : List RSh := [.ro .str, .ro .str, .ro .str, .ro .bool]
def ent (n : Nat) : FEnt := ⟨ash, rsh, fun v => F n v.1⟩
noncomputable def cx (n : Nat) : Ctx := mkCtx Try.prog TYS [(40, impl_jobParts.ent n)]
noncomputable def d : FnD := ⟨code, 12, .nil, [(.tmp 2, .str, .ro), (.tmp 3, .str, .ro), (.tmp 4, .str, .ro), (.tmp 5, .bool, .ro)]⟩
noncomputable def kr (n : Nat) (v : AVs ash) : Env → Option (RVs rsh) := endK (cx n) d (avEnc ash v) (rvDec rsh)
def an : An := .seq .nil (.seq .nil .nil)
def T (n : Nat) : Tab (RVs rsh) := fun j e kn kx => match j with
  | _ => none
theorem co (n : Nat) : CtxOk (cx n) := mkCtx_cok TYS_ok
theorem mx (n : Nat) : (cx n).P.follows .mixedOrders = true := mkCtx_mix MIX
theorem mk (n : Nat) : MOk (cx n) := mkCtx_ok (mem_cons (impl_jobParts.ok n) mem_nil)
theorem us : units code an = [] := by kernel_rfl
theorem eqn (n : Nat) (v : AVs ash) : fnEvT (cx n) d an (T n) (avEnc ash v) (rvDec rsh) = F n v.1 := by kernel_rfl
theorem ok (n : Nat) : EntOk Try.prog 10 (ent n) :=
  ent_ok (c := cx n) (e := ent n) (d := d) (an := an) (fn := Try.f10) (co n) (mk n) (mx n) (by kernel_rfl) (by kernel_rfl) (by kernel_rfl) (by kernel_rfl) (by kernel_rfl) (fun _ => T n) (fun v => units_of us (mem_nil)) (eqn n)
end impl_JobParts
/-! laws.FnExactJobParts -/
namespace laws_FnExactJobParts
def F (n : Nat) (aS1 : ByteArray) : Option Bool :=
  if decide ((ByteArray.size aS1 : Int) > 1048576) = true then
    some true
  else
    (spec_JobParts.F n aS1).bind fun r2 =>
    (impl_JobParts.F n aS1).bind fun r3 =>
    if (!(Abs.seq r3.1 r2.1)) = false then
      if (!(Abs.seq r3.2.1 r2.2.1)) = false then
        if (!(Abs.seq r3.2.2.1 r2.2.2.1)) = false then
          if (!(r3.2.2.2 == r2.2.2.2)) = true then
            some false
          else
            some true
        else
          some false
      else
        some false
    else
      some false
noncomputable def code : Code := Try.f3.body.getD .skip
abbrev ash : List ASh := [.ro .str]
abbrev rsh : List RSh := [.ro .bool]
def ent (n : Nat) : FEnt := ⟨ash, rsh, fun v => F n v.1⟩
noncomputable def cx (n : Nat) : Ctx := mkCtx Try.prog TYS [(9, spec_JobParts.ent n), (10, impl_JobParts.ent n)]
noncomputable def d : FnD := ⟨code, 46, .nil, [(.tmp 2, .bool, .ro)]⟩
noncomputable def kr (n : Nat) (v : AVs ash) : Env → Option (RVs rsh) := endK (cx n) d (avEnc ash v) (rvDec rsh)
def an : An := .seq .nil (.seq (.seq .nil (.cond (.seq .nil .nil) .nil)) (.seq .nil (.seq .nil (.seq (.seq .nil (.cond (.seq .nil .nil) .nil)) (.seq .nil .nil)))))
def T (n : Nat) : Tab (RVs rsh) := fun j e kn kx => match j with
  | _ => none
theorem co (n : Nat) : CtxOk (cx n) := mkCtx_cok TYS_ok
theorem mx (n : Nat) : (cx n).P.follows .mixedOrders = true := mkCtx_mix MIX
theorem mk (n : Nat) : MOk (cx n) := mkCtx_ok (mem_cons (spec_JobParts.ok n) (mem_cons (impl_JobParts.ok n) mem_nil))
theorem us : units code an = [] := by kernel_rfl
theorem eqn (n : Nat) (v : AVs ash) : fnEvT (cx n) d an (T n) (avEnc ash v) (rvDec rsh) = F n v.1 := by kernel_rfl
theorem ok (n : Nat) : EntOk Try.prog 3 (ent n) :=
  ent_ok (c := cx n) (e := ent n) (d := d) (an := an) (fn := Try.f3) (co n) (mk n) (mx n) (by kernel_rfl) (by kernel_rfl) (by kernel_rfl) (by kernel_rfl) (by kernel_rfl) (fun _ => T n) (fun v => units_of us (mem_nil)) (eqn n)
end laws_FnExactJobParts
end Go.Abs
