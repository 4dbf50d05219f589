/- The functions, and that a call of each comes to it. Conditions: none. -/
import Derived.Test.YtpgedieoancjkaaHd
namespace Go.Abs
open Go.Proofs
set_option linter.unusedVariables false
/-! laws.szStringS -/
namespace laws_szStringS
def l0 (n : Nat) (a3 : List ByteArray) (K0 : Int → Option Int) : Nat → Int → Int → Option Int
  | 0, _, _ => none
  | k + 1, left4, i5 =>
  if decide (i5 < (List.length a3 : Int)) = true then
  if (0 : Int) ≤ i5 ∧ i5 < (List.length a3 : Int) then
  if decide ((IntKind.i64.wrap (left4 - (ByteArray.size (List.getD a3 (Int.toNat i5) ByteArray.empty) : Int))) < 0) = true then
  some (-1)
  else
  l0 n a3 K0 k (IntKind.i64.wrap (left4 - (ByteArray.size (List.getD a3 (Int.toNat i5) ByteArray.empty) : Int))) (IntKind.i64.wrap (i5 + 1))
  else
  none
  else
  K0 left4
def F (n : Nat) (a1 : List ByteArray) (left2 : Int) : Option Int :=
  if decide ((IntKind.i64.wrap (left2 - (List.length a1 : Int))) < 0) = true then
  some (-1)
  else
  l0 n a1 (fun left6 =>
  some left6) n (IntKind.i64.wrap (left2 - (List.length a1 : Int))) 0
noncomputable def code : Code := Try.f24.body.getD .skip
abbrev ash : List ASh := [.ro (.sl (.str)), .ro (.int .i64)]
abbrev rsh : List RSh := [.ro (.int .i64)]
def ent (n : Nat) : FEnt := ⟨ash, rsh, fun v => F n v.1 v.2.1⟩
noncomputable def cx (n : Nat) : Ctx := mkCtx Try.prog TYS []
noncomputable def d : FnD := ⟨code, 28, .nil, [(.tmp 4, .int .i64, .ro)]⟩
noncomputable def kr (n : Nat) (v : AVs ash) : KN rsh := endK (cx n) d (avEnc ash v) (rvDec rsh)
noncomputable def b0 : Code := Code.l (Code.l (Code.r (Code.l (Code.r (Code.r (Code.r code))))))
def an : An := .seq .nil (.seq .nil (.seq (.seq .nil (.cond (.seq .nil .nil) .nil)) (.seq (.seq .nil (.block (some [1]) (.cut 0 [0, 1, 5]))) (.seq .nil .nil))))
def an0 : An := .seq (.seq .nil (.cond .nil .nil)) (.seq (.block (some [0, 1, 5]) (.seq .nil (.seq .nil (.cond (.seq .nil .nil) .nil)))) .nil)
abbrev sh0 : ES := ⟨[(0, .v (.sl (.str))), (1, .v (.int .i64)), (5, .v (.int .i64))], []⟩
abbrev sh0_0 : ES := ⟨[(1, .v (.int .i64))], []⟩
def g0 (n m : Nat) (x : sh0.V) (kn : KN rsh) (kx : KX rsh) : Option (RVs rsh) := l0 n x.1.1 (fun y0 => kx 0 (sh0_0.enc ((y0, ()), (())))) m x.1.2.1 x.1.2.2.1
def T (n : Nat) : Tab (RVs rsh) := fun j e kn kx => match j with
  | 0 => ES.on sh0 e fun x => g0 n n x kn kx
  | _ => none
theorem mk (n : Nat) : MOk (cx n) := mkCtx_ok (mem_nil)
theorem u0 (n : Nat) (v : AVs ash) : UnitOk (cx n) 28 (T n) (kr n v) 0 (.loop b0) :=
  loop_u (n := n) (CO _) (mk n) (MX _) an0 [(0, [1])] [0, 1, 5] sh0 (g0 n) (fun _ _ _ => rfl) (fun _ _ _ => rfl) (fun m x kn kx => by kernel_rfl) (l := []) (by kernel_rfl) (mem_nil)
theorem ok (n : Nat) : EntOk Try.prog 24 (ent n) :=
  ent_okU (c := cx n) (e := ent n) (d := d) (CO _) (mk n) (MX _) an Try.func24 (by kernel_rfl) (T n) (l := [(0, .loop b0)]) (by kernel_rfl) (fun v => mem_cons (u0 n v) mem_nil) (fun v => by kernel_rfl)
end laws_szStringS
/-! laws.szTuple -/
namespace laws_szTuple
def F (n : Nat) (a1 : List ByteArray) (left2 : Int) : Option Int :=
  (laws_szStringS.F n a1 left2).bind fun r3 =>
  if decide (r3 < 0) = true then
  some (-1)
  else
  some r3
noncomputable def code : Code := Try.f19.body.getD .skip
abbrev ash : List ASh := [.ro (.st (.sl (.str))), .ro (.int .i64)]
abbrev rsh : List RSh := [.ro (.int .i64)]
def ent (n : Nat) : FEnt := ⟨ash, rsh, fun v => F n v.1 v.2.1⟩
noncomputable def cx (n : Nat) : Ctx := mkCtx Try.prog TYS [(24, laws_szStringS.ent n)]
noncomputable def d : FnD := ⟨code, 12, .nil, [(.tmp 4, .int .i64, .ro)]⟩
def an : An := .seq .nil (.seq .nil (.seq (.seq .nil (.cond (.seq .nil .nil) .nil)) (.seq .nil .nil)))
theorem ok (n : Nat) : EntOk Try.prog 19 (ent n) :=
  ent_ok0 (c := cx n) (e := ent n) (d := d) (CO _) (mkCtx_ok (mem_cons (laws_szStringS.ok n) mem_nil)) (MX _) an Try.func19 (by kernel_rfl) (by kernel_rfl) (fun v => by kernel_rfl)
end laws_szTuple
/-! laws.szChange -/
namespace laws_szChange
def F (n : Nat) (a1 : Int × (List ByteArray) × Bool) (left2 : Int) : Option Int :=
  (laws_szTuple.F n a1.2.1 left2).bind fun r3 =>
  if decide (r3 < 0) = true then
  some (-1)
  else
  some r3
noncomputable def code : Code := Try.f11.body.getD .skip
abbrev ash : List ASh := [.ro (.st (.pair (.int .i64) (.pair (.st (.sl (.str))) (.bool)))), .ro (.int .i64)]
abbrev rsh : List RSh := [.ro (.int .i64)]
def ent (n : Nat) : FEnt := ⟨ash, rsh, fun v => F n v.1 v.2.1⟩
noncomputable def cx (n : Nat) : Ctx := mkCtx Try.prog TYS [(19, laws_szTuple.ent n)]
noncomputable def d : FnD := ⟨code, 12, .nil, [(.tmp 4, .int .i64, .ro)]⟩
def an : An := .seq .nil (.seq .nil (.seq (.seq .nil (.cond (.seq .nil .nil) .nil)) (.seq .nil .nil)))
theorem ok (n : Nat) : EntOk Try.prog 11 (ent n) :=
  ent_ok0 (c := cx n) (e := ent n) (d := d) (CO _) (mkCtx_ok (mem_cons (laws_szTuple.ok n) mem_nil)) (MX _) an Try.func11 (by kernel_rfl) (by kernel_rfl) (fun v => by kernel_rfl)
end laws_szChange
/-! laws.szChangeS -/
namespace laws_szChangeS
def l0 (n : Nat) (a3 : List (Int × (List ByteArray) × Bool)) (K0 : Int → Option Int) : Nat → Int → Int → Option Int
  | 0, _, _ => none
  | k + 1, left4, i5 =>
  if decide (i5 < (List.length a3 : Int)) = true then
  if (0 : Int) ≤ i5 ∧ i5 < (List.length a3 : Int) then
  (laws_szChange.F n (List.getD a3 (Int.toNat i5) (0, ([], false))) left4).bind fun r6 =>
  if decide (r6 < 0) = true then
  some (-1)
  else
  l0 n a3 K0 k r6 (IntKind.i64.wrap (i5 + 1))
  else
  none
  else
  K0 left4
def F (n : Nat) (a1 : List (Int × (List ByteArray) × Bool)) (left2 : Int) : Option Int :=
  if decide ((IntKind.i64.wrap (left2 - (List.length a1 : Int))) < 0) = true then
  some (-1)
  else
  l0 n a1 (fun left7 =>
  some left7) n (IntKind.i64.wrap (left2 - (List.length a1 : Int))) 0
noncomputable def code : Code := Try.f4.body.getD .skip
abbrev ash : List ASh := [.ro (.sl (.st (.pair (.int .i64) (.pair (.st (.sl (.str))) (.bool))))), .ro (.int .i64)]
abbrev rsh : List RSh := [.ro (.int .i64)]
def ent (n : Nat) : FEnt := ⟨ash, rsh, fun v => F n v.1 v.2.1⟩
noncomputable def cx (n : Nat) : Ctx := mkCtx Try.prog TYS [(11, laws_szChange.ent n)]
noncomputable def d : FnD := ⟨code, 27, .nil, [(.tmp 4, .int .i64, .ro)]⟩
noncomputable def kr (n : Nat) (v : AVs ash) : KN rsh := endK (cx n) d (avEnc ash v) (rvDec rsh)
noncomputable def b0 : Code := Code.l (Code.l (Code.r (Code.l (Code.r (Code.r (Code.r code))))))
def an : An := .seq .nil (.seq .nil (.seq (.seq .nil (.cond (.seq .nil .nil) .nil)) (.seq (.seq .nil (.block (some [1]) (.cut 0 [0, 1, 5]))) (.seq .nil .nil))))
def an0 : An := .seq (.seq .nil (.cond .nil .nil)) (.seq (.block (some [0, 1, 5]) (.seq .nil (.seq .nil (.cond (.seq .nil .nil) .nil)))) .nil)
abbrev sh0 : ES := ⟨[(0, .v (.sl (.st (.pair (.int .i64) (.pair (.st (.sl (.str))) (.bool)))))), (1, .v (.int .i64)), (5, .v (.int .i64))], []⟩
abbrev sh0_0 : ES := ⟨[(1, .v (.int .i64))], []⟩
def g0 (n m : Nat) (x : sh0.V) (kn : KN rsh) (kx : KX rsh) : Option (RVs rsh) := l0 n x.1.1 (fun y0 => kx 0 (sh0_0.enc ((y0, ()), (())))) m x.1.2.1 x.1.2.2.1
def T (n : Nat) : Tab (RVs rsh) := fun j e kn kx => match j with
  | 0 => ES.on sh0 e fun x => g0 n n x kn kx
  | _ => none
theorem mk (n : Nat) : MOk (cx n) := mkCtx_ok (mem_cons (laws_szChange.ok n) mem_nil)
theorem u0 (n : Nat) (v : AVs ash) : UnitOk (cx n) 27 (T n) (kr n v) 0 (.loop b0) :=
  loop_u (n := n) (CO _) (mk n) (MX _) an0 [(0, [1])] [0, 1, 5] sh0 (g0 n) (fun _ _ _ => rfl) (fun _ _ _ => rfl) (fun m x kn kx => by kernel_rfl) (l := []) (by kernel_rfl) (mem_nil)
theorem ok (n : Nat) : EntOk Try.prog 4 (ent n) :=
  ent_okU (c := cx n) (e := ent n) (d := d) (CO _) (mk n) (MX _) an Try.func4 (by kernel_rfl) (T n) (l := [(0, .loop b0)]) (by kernel_rfl) (fun v => mem_cons (u0 n v) mem_nil) (fun v => by kernel_rfl)
end laws_szChangeS
/-! laws.toStringS -/
namespace laws_toStringS
def l0 (n : Nat) (a2 : List ByteArray) (K0 : (List ByteArray) → Option (List ByteArray)) : Nat → Int → (List ByteArray) → Option (List ByteArray)
  | 0, _, _ => none
  | k + 1, i3, out4 =>
  if decide (i3 < (List.length a2 : Int)) = true then
  if (0 : Int) ≤ i3 ∧ i3 < (List.length a2 : Int) then
  if (0 : Int) ≤ i3 ∧ i3 < (List.length out4 : Int) then
  let w5 : List ByteArray := List.set out4 (Int.toNat i3) (List.getD a2 (Int.toNat i3) ByteArray.empty)
  l0 n a2 K0 k (IntKind.i64.wrap (i3 + 1)) w5
  else
  none
  else
  none
  else
  K0 out4
def F (n : Nat) (a1 : List ByteArray) : Option (List ByteArray) :=
  if (0 : Int) ≤ (List.length a1 : Int) ∧ (List.length a1 : Int) ≤ (List.length a1 : Int) ∧ (List.length a1 : Int) ≤ (lim : Int) then
  l0 n a1 (fun out6 =>
  some out6) n 0 (List.replicate (Int.toNat (List.length a1 : Int)) ByteArray.empty)
  else
  none
noncomputable def code : Code := Try.f25.body.getD .skip
abbrev ash : List ASh := [.ro (.sl (.str))]
abbrev rsh : List RSh := [.own (.sl (.str)) (.own .ro)]
def ent (n : Nat) : FEnt := ⟨ash, rsh, fun v => F n v.1⟩
noncomputable def cx (n : Nat) : Ctx := mkCtx Try.prog TYS []
noncomputable def d : FnD := ⟨code, 22, .nil, [(.tmp 2, .sl (.str), .own .ro)]⟩
noncomputable def kr (n : Nat) (v : AVs ash) : KN rsh := endK (cx n) d (avEnc ash v) (rvDec rsh)
noncomputable def b0 : Code := Code.l (Code.l (Code.r (Code.l (Code.r (Code.r code)))))
def an : An := .seq .nil (.seq (.reg [(7, .own .ro)]) (.seq (.seq .nil (.block (some [3]) (.cut 0 [0, 3, 4]))) (.seq .nil .nil)))
def an0 : An := .seq (.seq .nil (.cond .nil .nil)) (.seq (.block (some [0, 3, 4]) .nil) .nil)
abbrev sh0 : ES := ⟨[(0, .v (.sl (.str))), (3, .al 3 []), (4, .v (.int .i64))], [⟨3, .sl (.str), .own .ro, false, false, none⟩]⟩
abbrev sh0_0 : ES := ⟨[(3, .al 3 [])], [⟨3, .sl (.str), .own .ro, false, false, none⟩]⟩
def g0 (n m : Nat) (x : sh0.V) (kn : KN rsh) (kx : KX rsh) : Option (RVs rsh) := l0 n x.1.1 (fun y0 => kx 0 (sh0_0.enc (((()), ()), (y0, ())))) m x.1.2.2.1 x.2.1
def T (n : Nat) : Tab (RVs rsh) := fun j e kn kx => match j with
  | 0 => ES.on sh0 e fun x => g0 n n x kn kx
  | _ => none
theorem mk (n : Nat) : MOk (cx n) := mkCtx_ok (mem_nil)
theorem u0 (n : Nat) (v : AVs ash) : UnitOk (cx n) 22 (T n) (kr n v) 0 (.loop b0) :=
  loop_u (n := n) (CO _) (mk n) (MX _) an0 [(0, [3])] [0, 3, 4] sh0 (g0 n) (fun _ _ _ => rfl) (fun _ _ _ => rfl) (fun m x kn kx => by kernel_rfl) (l := []) (by kernel_rfl) (mem_nil)
theorem ok (n : Nat) : EntOk Try.prog 25 (ent n) :=
  ent_okU (c := cx n) (e := ent n) (d := d) (CO _) (mk n) (MX _) an Try.func25 (by kernel_rfl) (T n) (l := [(0, .loop b0)]) (by kernel_rfl) (fun v => mem_cons (u0 n v) mem_nil) (fun v => by kernel_rfl)
end laws_toStringS
/-! laws.toTuple -/
namespace laws_toTuple
def F (n : Nat) (a1 : List ByteArray) : Option (List ByteArray) :=
  (laws_toStringS.F n a1).bind fun r2 =>
  some r2
noncomputable def code : Code := Try.f20.body.getD .skip
abbrev ash : List ASh := [.ro (.st (.sl (.str)))]
abbrev rsh : List RSh := [.own (.st (.sl (.str))) (.own .ro)]
def ent (n : Nat) : FEnt := ⟨ash, rsh, fun v => F n v.1⟩
noncomputable def cx (n : Nat) : Ctx := mkCtx Try.prog TYS [(25, laws_toStringS.ent n)]
noncomputable def d : FnD := ⟨code, 9, .nil, [(.cell 2 36, .st (.sl (.str)), .own .ro)]⟩
def an : An := .seq (.reg [(2, .own .ro)]) (.seq (.reg [(3, .own .ro)]) (.seq (.reg [(6, .own .ro)]) (.seq .nil .nil)))
theorem ok (n : Nat) : EntOk Try.prog 20 (ent n) :=
  ent_ok0 (c := cx n) (e := ent n) (d := d) (CO _) (mkCtx_ok (mem_cons (laws_toStringS.ok n) mem_nil)) (MX _) an Try.func20 (by kernel_rfl) (by kernel_rfl) (fun v => by kernel_rfl)
end laws_toTuple
/-! laws.toChange -/
namespace laws_toChange
def F (n : Nat) (a1 : Int × (List ByteArray) × Bool) : Option (Int × (List ByteArray) × Bool) :=
  (laws_toTuple.F n a1.2.1).bind fun r2 =>
  some (a1.1, (r2, a1.2.2))
noncomputable def code : Code := Try.f13.body.getD .skip
abbrev ash : List ASh := [.ro (.st (.pair (.int .i64) (.pair (.st (.sl (.str))) (.bool))))]
abbrev rsh : List RSh := [.own (.st (.pair (.int .i64) (.pair (.st (.sl (.str))) (.bool)))) (.pr .ro (.pr (.own .ro) .ro))]
def ent (n : Nat) : FEnt := ⟨ash, rsh, fun v => F n v.1⟩
noncomputable def cx (n : Nat) : Ctx := mkCtx Try.prog TYS [(20, laws_toTuple.ent n)]
noncomputable def d : FnD := ⟨code, 15, .nil, [(.cell 2 38, .st (.pair (.int .i64) (.pair (.st (.sl (.str))) (.bool))), .pr .ro (.pr (.own .ro) .ro))]⟩
def an : An := .seq (.reg [(2, .pr .ro (.pr (.own .ro) .ro))]) (.seq (.reg [(3, .pr .ro (.pr (.own .ro) .ro))]) (.seq .nil (.seq (.reg [(9, .own .ro)]) (.seq .nil (.seq .nil .nil)))))
theorem ok (n : Nat) : EntOk Try.prog 13 (ent n) :=
  ent_ok0 (c := cx n) (e := ent n) (d := d) (CO _) (mkCtx_ok (mem_cons (laws_toTuple.ok n) mem_nil)) (MX _) an Try.func13 (by kernel_rfl) (by kernel_rfl) (fun v => by kernel_rfl)
end laws_toChange
/-! laws.toChangeS -/
namespace laws_toChangeS
def l0 (n : Nat) (a2 : List (Int × (List ByteArray) × Bool)) (K0 : (List (Int × (List ByteArray) × Bool)) → Option (List (Int × (List ByteArray) × Bool))) : Nat → Int → (List (Int × (List ByteArray) × Bool)) → Option (List (Int × (List ByteArray) × Bool))
  | 0, _, _ => none
  | k + 1, i3, out4 =>
  if decide (i3 < (List.length a2 : Int)) = true then
  if (0 : Int) ≤ i3 ∧ i3 < (List.length a2 : Int) then
  (laws_toChange.F n (List.getD a2 (Int.toNat i3) (0, ([], false)))).bind fun r5 =>
  if (0 : Int) ≤ i3 ∧ i3 < (List.length out4 : Int) then
  l0 n a2 K0 k (IntKind.i64.wrap (i3 + 1)) (List.set out4 (Int.toNat i3) r5)
  else
  none
  else
  none
  else
  K0 out4
def F (n : Nat) (a1 : List (Int × (List ByteArray) × Bool)) : Option (List (Int × (List ByteArray) × Bool)) :=
  if (0 : Int) ≤ (List.length a1 : Int) ∧ (List.length a1 : Int) ≤ (List.length a1 : Int) ∧ (List.length a1 : Int) ≤ (lim : Int) then
  l0 n a1 (fun out6 =>
  some out6) n 0 (List.replicate (Int.toNat (List.length a1 : Int)) (0, ([], false)))
  else
  none
noncomputable def code : Code := Try.f6.body.getD .skip
abbrev ash : List ASh := [.ro (.sl (.st (.pair (.int .i64) (.pair (.st (.sl (.str))) (.bool)))))]
abbrev rsh : List RSh := [.own (.sl (.st (.pair (.int .i64) (.pair (.st (.sl (.str))) (.bool))))) (.own (.pr .ro (.pr (.own .ro) .ro)))]
def ent (n : Nat) : FEnt := ⟨ash, rsh, fun v => F n v.1⟩
noncomputable def cx (n : Nat) : Ctx := mkCtx Try.prog TYS [(13, laws_toChange.ent n)]
noncomputable def d : FnD := ⟨code, 23, .nil, [(.tmp 2, .sl (.st (.pair (.int .i64) (.pair (.st (.sl (.str))) (.bool)))), .own (.pr .ro (.pr (.own .ro) .ro)))]⟩
noncomputable def kr (n : Nat) (v : AVs ash) : KN rsh := endK (cx n) d (avEnc ash v) (rvDec rsh)
noncomputable def b0 : Code := Code.l (Code.l (Code.r (Code.l (Code.r (Code.r code)))))
def an : An := .seq .nil (.seq (.reg [(7, .own (.pr .ro (.pr (.own .ro) .ro)))]) (.seq (.seq .nil (.block (some [3]) (.cut 0 [0, 3, 4]))) (.seq .nil .nil)))
def an0 : An := .seq (.seq .nil (.cond .nil .nil)) (.seq (.block (some [0, 3, 4]) (.reg [(20, .pr .ro (.pr (.own .ro) .ro))])) .nil)
abbrev sh0 : ES := ⟨[(0, .v (.sl (.st (.pair (.int .i64) (.pair (.st (.sl (.str))) (.bool)))))), (3, .al 3 []), (4, .v (.int .i64))], [⟨3, .sl (.st (.pair (.int .i64) (.pair (.st (.sl (.str))) (.bool)))), .own (.pr .ro (.pr (.own .ro) .ro)), false, false, none⟩]⟩
abbrev sh0_0 : ES := ⟨[(3, .al 3 [])], [⟨3, .sl (.st (.pair (.int .i64) (.pair (.st (.sl (.str))) (.bool)))), .own (.pr .ro (.pr (.own .ro) .ro)), false, false, none⟩]⟩
def g0 (n m : Nat) (x : sh0.V) (kn : KN rsh) (kx : KX rsh) : Option (RVs rsh) := l0 n x.1.1 (fun y0 => kx 0 (sh0_0.enc (((()), ()), (y0, ())))) m x.1.2.2.1 x.2.1
def T (n : Nat) : Tab (RVs rsh) := fun j e kn kx => match j with
  | 0 => ES.on sh0 e fun x => g0 n n x kn kx
  | _ => none
theorem mk (n : Nat) : MOk (cx n) := mkCtx_ok (mem_cons (laws_toChange.ok n) mem_nil)
theorem u0 (n : Nat) (v : AVs ash) : UnitOk (cx n) 23 (T n) (kr n v) 0 (.loop b0) :=
  loop_u (n := n) (CO _) (mk n) (MX _) an0 [(0, [3])] [0, 3, 4] sh0 (g0 n) (fun _ _ _ => rfl) (fun _ _ _ => rfl) (fun m x kn kx => by kernel_rfl) (l := []) (by kernel_rfl) (mem_nil)
theorem ok (n : Nat) : EntOk Try.prog 6 (ent n) :=
  ent_okU (c := cx n) (e := ent n) (d := d) (CO _) (mk n) (MX _) an Try.func6 (by kernel_rfl) (T n) (l := [(0, .loop b0)]) (by kernel_rfl) (fun v => mem_cons (u0 n v) mem_nil) (fun v => by kernel_rfl)
end laws_toChangeS
/-! spec.l02Tuple -/
namespace spec_l02Tuple
def F (n : Nat) (t1 : List ByteArray) : Option (List ByteArray) :=
  if List.length ([] : List ByteArray) + List.length t1 ≤ lim then
  some ([] ++ t1)
  else
  none
noncomputable def code : Code := Try.f12.body.getD .skip
abbrev ash : List ASh := [.ro (.st (.sl (.str)))]
abbrev rsh : List RSh := [.ro (.st (.sl (.str)))]
def ent (n : Nat) : FEnt := ⟨ash, rsh, fun v => F n v.1⟩
noncomputable def cx (n : Nat) : Ctx := mkCtx Try.prog TYS []
noncomputable def d : FnD := ⟨code, 8, .nil, [(.cell 2 36, .st (.sl (.str)), .ro)]⟩
def an : An := .seq .nil (.seq (.reg [(3, .own .ro), (7, .own .ro)]) .nil)
theorem ok (n : Nat) : EntOk Try.prog 12 (ent n) :=
  ent_ok0 (c := cx n) (e := ent n) (d := d) (CO _) (mkCtx_ok (mem_nil)) (MX _) an Try.func12 (by kernel_rfl) (by kernel_rfl) (fun v => by kernel_rfl)
end spec_l02Tuple
/-! spec.Back -/
namespace spec_Back
def l0 (n : Nat) (list2 : List (Int × (List ByteArray) × Bool)) (K0 : (List (Int × (List ByteArray) × Bool)) → Option (List (Int × (List ByteArray) × Bool))) : Nat → Int → (List (Int × (List ByteArray) × Bool)) → Option (List (Int × (List ByteArray) × Bool))
  | 0, _, _ => none
  | k + 1, i3, out4 =>
  if decide (i3 ≥ 0) = true then
  if (0 : Int) ≤ i3 ∧ i3 < (List.length list2 : Int) then
  if (0 : Int) ≤ i3 ∧ i3 < (List.length list2 : Int) then
  (spec_l02Tuple.F n (((List.getD list2 (Int.toNat i3) (0, ([], false))).2).1)).bind fun r5 =>
  if (0 : Int) ≤ i3 ∧ i3 < (List.length list2 : Int) then
  if List.length out4 + List.length ([((List.getD list2 (Int.toNat i3) (0, ([], false))).1, (r5, !(((List.getD list2 (Int.toNat i3) (0, ([], false))).2).2)))] : List (Int × (List ByteArray) × Bool)) ≤ lim then
  l0 n list2 K0 k (IntKind.i64.wrap (i3 - 1)) (out4 ++ [((List.getD list2 (Int.toNat i3) (0, ([], false))).1, (r5, !(((List.getD list2 (Int.toNat i3) (0, ([], false))).2).2)))])
  else
  none
  else
  none
  else
  none
  else
  none
  else
  K0 out4
def F (n : Nat) (list1 : List (Int × (List ByteArray) × Bool)) : Option (List (Int × (List ByteArray) × Bool)) :=
  l0 n list1 (fun out6 =>
  some out6) n (IntKind.i64.wrap ((List.length list1 : Int) - 1)) []
noncomputable def code : Code := Try.f5.body.getD .skip
abbrev ash : List ASh := [.ro (.sl (.st (.pair (.int .i64) (.pair (.st (.sl (.str))) (.bool)))))]
abbrev rsh : List RSh := [.ro (.sl (.st (.pair (.int .i64) (.pair (.st (.sl (.str))) (.bool)))))]
def ent (n : Nat) : FEnt := ⟨ash, rsh, fun v => F n v.1⟩
noncomputable def cx (n : Nat) : Ctx := mkCtx Try.prog TYS [(12, spec_l02Tuple.ent n)]
noncomputable def d : FnD := ⟨code, 35, .nil, [(.tmp 2, .sl (.st (.pair (.int .i64) (.pair (.st (.sl (.str))) (.bool)))), .ro)]⟩
noncomputable def kr (n : Nat) (v : AVs ash) : KN rsh := endK (cx n) d (avEnc ash v) (rvDec rsh)
noncomputable def b0 : Code := Code.l (Code.l (Code.r (Code.l (Code.r (Code.r code)))))
def an : An := .seq .nil (.seq (.reg [(5, .own .ro)]) (.seq (.seq .nil (.block (some [3]) (.cut 0 [0, 3, 4]))) (.seq .nil .nil)))
def an0 : An := .seq (.seq .nil (.cond .nil .nil)) (.seq (.block (some [0, 3, 4]) .nil) .nil)
abbrev sh0 : ES := ⟨[(0, .v (.sl (.st (.pair (.int .i64) (.pair (.st (.sl (.str))) (.bool)))))), (3, .al 3 []), (4, .v (.int .i64))], [⟨3, .sl (.st (.pair (.int .i64) (.pair (.st (.sl (.str))) (.bool)))), .own .ro, false, false, none⟩]⟩
abbrev sh0_0 : ES := ⟨[(3, .al 3 [])], [⟨3, .sl (.st (.pair (.int .i64) (.pair (.st (.sl (.str))) (.bool)))), .own .ro, false, false, none⟩]⟩
def g0 (n m : Nat) (x : sh0.V) (kn : KN rsh) (kx : KX rsh) : Option (RVs rsh) := l0 n x.1.1 (fun y0 => kx 0 (sh0_0.enc (((()), ()), (y0, ())))) m x.1.2.2.1 x.2.1
def T (n : Nat) : Tab (RVs rsh) := fun j e kn kx => match j with
  | 0 => ES.on sh0 e fun x => g0 n n x kn kx
  | _ => none
theorem mk (n : Nat) : MOk (cx n) := mkCtx_ok (mem_cons (spec_l02Tuple.ok n) mem_nil)
theorem u0 (n : Nat) (v : AVs ash) : UnitOk (cx n) 35 (T n) (kr n v) 0 (.loop b0) :=
  loop_u (n := n) (CO _) (mk n) (MX _) an0 [(0, [3])] [0, 3, 4] sh0 (g0 n) (fun _ _ _ => rfl) (fun _ _ _ => rfl) (fun m x kn kx => by kernel_rfl) (l := []) (by kernel_rfl) (mem_nil)
theorem ok (n : Nat) : EntOk Try.prog 5 (ent n) :=
  ent_okU (c := cx n) (e := ent n) (d := d) (CO _) (mk n) (MX _) an Try.func5 (by kernel_rfl) (T n) (l := [(0, .loop b0)]) (by kernel_rfl) (fun v => mem_cons (u0 n v) mem_nil) (fun v => by kernel_rfl)
end spec_Back
/-! laws.eqStringS -/
namespace laws_eqStringS
def l0 (n : Nat) (a3 : List ByteArray) (b4 : List ByteArray) (K0 : Unit → Option Bool) : Nat → Int → Option Bool
  | 0, _ => none
  | k + 1, i5 =>
  if decide (i5 < (List.length a3 : Int)) = true then
  if (0 : Int) ≤ i5 ∧ i5 < (List.length a3 : Int) then
  if (0 : Int) ≤ i5 ∧ i5 < (List.length b4 : Int) then
  if (!(Abs.seq (List.getD a3 (Int.toNat i5) ByteArray.empty) (List.getD b4 (Int.toNat i5) ByteArray.empty))) = true then
  some false
  else
  l0 n a3 b4 K0 k (IntKind.i64.wrap (i5 + 1))
  else
  none
  else
  none
  else
  K0 ()
def F (n : Nat) (a1 : List ByteArray) (b2 : List ByteArray) : Option Bool :=
  if (!decide ((List.length a1 : Int) = (List.length b2 : Int))) = true then
  some false
  else
  l0 n a1 b2 (fun _ =>
  some true) n 0
noncomputable def code : Code := Try.f26.body.getD .skip
abbrev ash : List ASh := [.ro (.sl (.str)), .ro (.sl (.str))]
abbrev rsh : List RSh := [.ro .bool]
def ent (n : Nat) : FEnt := ⟨ash, rsh, fun v => F n v.1 v.2.1⟩
noncomputable def cx (n : Nat) : Ctx := mkCtx Try.prog TYS []
noncomputable def d : FnD := ⟨code, 26, .nil, [(.tmp 4, .bool, .ro)]⟩
noncomputable def kr (n : Nat) (v : AVs ash) : KN rsh := endK (cx n) d (avEnc ash v) (rvDec rsh)
noncomputable def b0 : Code := Code.l (Code.l (Code.r (Code.l (Code.r (Code.r code)))))
def an : An := .seq .nil (.seq (.seq .nil (.cond (.seq .nil .nil) .nil)) (.seq (.seq .nil (.block (some []) (.cut 0 [0, 1, 5]))) (.seq .nil .nil)))
def an0 : An := .seq (.seq .nil (.cond .nil .nil)) (.seq (.block (some [0, 1, 5]) (.seq .nil (.cond (.seq .nil .nil) .nil))) .nil)
abbrev sh0 : ES := ⟨[(0, .v (.sl (.str))), (1, .v (.sl (.str))), (5, .v (.int .i64))], []⟩
abbrev sh0_0 : ES := ⟨[], []⟩
def g0 (n m : Nat) (x : sh0.V) (kn : KN rsh) (kx : KX rsh) : Option (RVs rsh) := l0 n x.1.1 x.1.2.1 (fun _ => kx 0 (sh0_0.enc ((()), (())))) m x.1.2.2.1
def T (n : Nat) : Tab (RVs rsh) := fun j e kn kx => match j with
  | 0 => ES.on sh0 e fun x => g0 n n x kn kx
  | _ => none
theorem mk (n : Nat) : MOk (cx n) := mkCtx_ok (mem_nil)
theorem u0 (n : Nat) (v : AVs ash) : UnitOk (cx n) 26 (T n) (kr n v) 0 (.loop b0) :=
  loop_u (n := n) (CO _) (mk n) (MX _) an0 [(0, [])] [0, 1, 5] sh0 (g0 n) (fun _ _ _ => rfl) (fun _ _ _ => rfl) (fun m x kn kx => by kernel_rfl) (l := []) (by kernel_rfl) (mem_nil)
theorem ok (n : Nat) : EntOk Try.prog 26 (ent n) :=
  ent_okU (c := cx n) (e := ent n) (d := d) (CO _) (mk n) (MX _) an Try.func26 (by kernel_rfl) (T n) (l := [(0, .loop b0)]) (by kernel_rfl) (fun v => mem_cons (u0 n v) mem_nil) (fun v => by kernel_rfl)
end laws_eqStringS
/-! laws.eqTuple -/
namespace laws_eqTuple
def F (n : Nat) (a1 : List ByteArray) (b2 : List ByteArray) : Option Bool :=
  (laws_eqStringS.F n a1 b2).bind fun r3 =>
  if (!r3) = true then
  some false
  else
  some true
noncomputable def code : Code := Try.f22.body.getD .skip
abbrev ash : List ASh := [.ro (.st (.sl (.str))), .ro (.st (.sl (.str)))]
abbrev rsh : List RSh := [.ro .bool]
def ent (n : Nat) : FEnt := ⟨ash, rsh, fun v => F n v.1 v.2.1⟩
noncomputable def cx (n : Nat) : Ctx := mkCtx Try.prog TYS [(26, laws_eqStringS.ent n)]
noncomputable def d : FnD := ⟨code, 11, .nil, [(.tmp 4, .bool, .ro)]⟩
def an : An := .seq .nil (.seq (.seq .nil (.cond (.seq .nil .nil) .nil)) (.seq .nil .nil))
theorem ok (n : Nat) : EntOk Try.prog 22 (ent n) :=
  ent_ok0 (c := cx n) (e := ent n) (d := d) (CO _) (mkCtx_ok (mem_cons (laws_eqStringS.ok n) mem_nil)) (MX _) an Try.func22 (by kernel_rfl) (by kernel_rfl) (fun v => by kernel_rfl)
end laws_eqTuple
/-! laws.eqChange -/
namespace laws_eqChange
def F (n : Nat) (a1 : Int × (List ByteArray) × Bool) (b2 : Int × (List ByteArray) × Bool) : Option Bool :=
  if (!decide (a1.1 = b2.1)) = true then
  some false
  else
  (laws_eqTuple.F n a1.2.1 b2.2.1).bind fun r3 =>
  if (!r3) = true then
  some false
  else
  if (!(a1.2.2 == b2.2.2)) = true then
  some false
  else
  some true
noncomputable def code : Code := Try.f16.body.getD .skip
abbrev ash : List ASh := [.ro (.st (.pair (.int .i64) (.pair (.st (.sl (.str))) (.bool)))), .ro (.st (.pair (.int .i64) (.pair (.st (.sl (.str))) (.bool))))]
abbrev rsh : List RSh := [.ro .bool]
def ent (n : Nat) : FEnt := ⟨ash, rsh, fun v => F n v.1 v.2.1⟩
noncomputable def cx (n : Nat) : Ctx := mkCtx Try.prog TYS [(22, laws_eqTuple.ent n)]
noncomputable def d : FnD := ⟨code, 21, .nil, [(.tmp 4, .bool, .ro)]⟩
def an : An := .seq .nil (.seq (.seq .nil (.cond (.seq .nil .nil) .nil)) (.seq (.seq .nil (.cond (.seq .nil .nil) .nil)) (.seq (.seq .nil (.cond (.seq .nil .nil) .nil)) (.seq .nil .nil))))
theorem ok (n : Nat) : EntOk Try.prog 16 (ent n) :=
  ent_ok0 (c := cx n) (e := ent n) (d := d) (CO _) (mkCtx_ok (mem_cons (laws_eqTuple.ok n) mem_nil)) (MX _) an Try.func16 (by kernel_rfl) (by kernel_rfl) (fun v => by kernel_rfl)
end laws_eqChange
/-! laws.eqChangeS -/
namespace laws_eqChangeS
def l0 (n : Nat) (a3 : List (Int × (List ByteArray) × Bool)) (b4 : List (Int × (List ByteArray) × Bool)) (K0 : Unit → Option Bool) : Nat → Int → Option Bool
  | 0, _ => none
  | k + 1, i5 =>
  if decide (i5 < (List.length a3 : Int)) = true then
  if (0 : Int) ≤ i5 ∧ i5 < (List.length a3 : Int) then
  if (0 : Int) ≤ i5 ∧ i5 < (List.length b4 : Int) then
  (laws_eqChange.F n (List.getD a3 (Int.toNat i5) (0, ([], false))) (List.getD b4 (Int.toNat i5) (0, ([], false)))).bind fun r6 =>
  if (!r6) = true then
  some false
  else
  l0 n a3 b4 K0 k (IntKind.i64.wrap (i5 + 1))
  else
  none
  else
  none
  else
  K0 ()
def F (n : Nat) (a1 : List (Int × (List ByteArray) × Bool)) (b2 : List (Int × (List ByteArray) × Bool)) : Option Bool :=
  if (!decide ((List.length a1 : Int) = (List.length b2 : Int))) = true then
  some false
  else
  l0 n a1 b2 (fun _ =>
  some true) n 0
noncomputable def code : Code := Try.f8.body.getD .skip
abbrev ash : List ASh := [.ro (.sl (.st (.pair (.int .i64) (.pair (.st (.sl (.str))) (.bool))))), .ro (.sl (.st (.pair (.int .i64) (.pair (.st (.sl (.str))) (.bool)))))]
abbrev rsh : List RSh := [.ro .bool]
def ent (n : Nat) : FEnt := ⟨ash, rsh, fun v => F n v.1 v.2.1⟩
noncomputable def cx (n : Nat) : Ctx := mkCtx Try.prog TYS [(16, laws_eqChange.ent n)]
noncomputable def d : FnD := ⟨code, 27, .nil, [(.tmp 4, .bool, .ro)]⟩
noncomputable def kr (n : Nat) (v : AVs ash) : KN rsh := endK (cx n) d (avEnc ash v) (rvDec rsh)
noncomputable def b0 : Code := Code.l (Code.l (Code.r (Code.l (Code.r (Code.r code)))))
def an : An := .seq .nil (.seq (.seq .nil (.cond (.seq .nil .nil) .nil)) (.seq (.seq .nil (.block (some []) (.cut 0 [0, 1, 5]))) (.seq .nil .nil)))
def an0 : An := .seq (.seq .nil (.cond .nil .nil)) (.seq (.block (some [0, 1, 5]) (.seq .nil (.cond (.seq .nil .nil) .nil))) .nil)
abbrev sh0 : ES := ⟨[(0, .v (.sl (.st (.pair (.int .i64) (.pair (.st (.sl (.str))) (.bool)))))), (1, .v (.sl (.st (.pair (.int .i64) (.pair (.st (.sl (.str))) (.bool)))))), (5, .v (.int .i64))], []⟩
abbrev sh0_0 : ES := ⟨[], []⟩
def g0 (n m : Nat) (x : sh0.V) (kn : KN rsh) (kx : KX rsh) : Option (RVs rsh) := l0 n x.1.1 x.1.2.1 (fun _ => kx 0 (sh0_0.enc ((()), (())))) m x.1.2.2.1
def T (n : Nat) : Tab (RVs rsh) := fun j e kn kx => match j with
  | 0 => ES.on sh0 e fun x => g0 n n x kn kx
  | _ => none
theorem mk (n : Nat) : MOk (cx n) := mkCtx_ok (mem_cons (laws_eqChange.ok n) mem_nil)
theorem u0 (n : Nat) (v : AVs ash) : UnitOk (cx n) 27 (T n) (kr n v) 0 (.loop b0) :=
  loop_u (n := n) (CO _) (mk n) (MX _) an0 [(0, [])] [0, 1, 5] sh0 (g0 n) (fun _ _ _ => rfl) (fun _ _ _ => rfl) (fun m x kn kx => by kernel_rfl) (l := []) (by kernel_rfl) (mem_nil)
theorem ok (n : Nat) : EntOk Try.prog 8 (ent n) :=
  ent_okU (c := cx n) (e := ent n) (d := d) (CO _) (mk n) (MX _) an Try.func8 (by kernel_rfl) (T n) (l := [(0, .loop b0)]) (by kernel_rfl) (fun v => mem_cons (u0 n v) mem_nil) (fun v => by kernel_rfl)
end laws_eqChangeS
/-! laws.markText -/
namespace laws_markText
def l0 (n : Nat) (K0 : ByteArray → Option ByteArray) : Nat → Int → ByteArray → Option ByteArray
  | 0, _, _ => none
  | k + 1, k2, out3 =>
  if decide (k2 > 0) = true then
  if ByteArray.size (bstr [IntKind.u8.wrap (IntKind.i64.wrap (48 + (Int.tmod k2 10)))]) + ByteArray.size out3 ≤ lim then
  l0 n K0 k (IntKind.i64.wrap (Int.tdiv k2 10)) ((bstr [IntKind.u8.wrap (IntKind.i64.wrap (48 + (Int.tmod k2 10)))]) ++ out3)
  else
  none
  else
  K0 out3
def F (n : Nat) (k1 : Int) : Option ByteArray :=
  if decide (k1 ≤ 0) = true then
  some ⟨#[109, 48]⟩
  else
  l0 n (fun out4 =>
  if ByteArray.size ⟨#[109]⟩ + ByteArray.size out4 ≤ lim then
  some (⟨#[109]⟩ ++ out4)
  else
  none) n k1 ByteArray.empty
noncomputable def code : Code := Try.f23.body.getD .skip
abbrev ash : List ASh := [.ro (.int .i64)]
abbrev rsh : List RSh := [.ro .str]
def ent (n : Nat) : FEnt := ⟨ash, rsh, fun v => F n v.1⟩
noncomputable def cx (n : Nat) : Ctx := mkCtx Try.prog TYS []
noncomputable def d : FnD := ⟨code, 20, .nil, [(.tmp 2, .str, .ro)]⟩
noncomputable def kr (n : Nat) (v : AVs ash) : KN rsh := endK (cx n) d (avEnc ash v) (rvDec rsh)
noncomputable def b0 : Code := Code.l (Code.l (Code.l (Code.r (Code.r (Code.r code)))))
def an : An := .seq .nil (.seq (.seq .nil (.cond (.seq .nil .nil) .nil)) (.seq .nil (.seq (.block (some [3]) (.cut 0 [0, 3])) (.seq .nil .nil))))
def an0 : An := .seq (.seq .nil (.cond .nil .nil)) (.block (some [0, 3]) (.seq .nil .nil))
abbrev sh0 : ES := ⟨[(0, .v (.int .i64)), (3, .v .str)], []⟩
abbrev sh0_0 : ES := ⟨[(3, .v .str)], []⟩
def g0 (n m : Nat) (x : sh0.V) (kn : KN rsh) (kx : KX rsh) : Option (RVs rsh) := l0 n (fun y0 => kx 0 (sh0_0.enc ((y0, ()), (())))) m x.1.1 x.1.2.1
def T (n : Nat) : Tab (RVs rsh) := fun j e kn kx => match j with
  | 0 => ES.on sh0 e fun x => g0 n n x kn kx
  | _ => none
theorem mk (n : Nat) : MOk (cx n) := mkCtx_ok (mem_nil)
theorem u0 (n : Nat) (v : AVs ash) : UnitOk (cx n) 20 (T n) (kr n v) 0 (.loop b0) :=
  loop_u (n := n) (CO _) (mk n) (MX _) an0 [(0, [3])] [0, 3] sh0 (g0 n) (fun _ _ _ => rfl) (fun _ _ _ => rfl) (fun m x kn kx => by kernel_rfl) (l := []) (by kernel_rfl) (mem_nil)
theorem ok (n : Nat) : EntOk Try.prog 23 (ent n) :=
  ent_okU (c := cx n) (e := ent n) (d := d) (CO _) (mk n) (MX _) an Try.func23 (by kernel_rfl) (T n) (l := [(0, .loop b0)]) (by kernel_rfl) (fun v => mem_cons (u0 n v) mem_nil) (fun v => by kernel_rfl)
end laws_markText
/-! laws.markStringS -/
namespace laws_markStringS
def l0 (n : Nat) (K0 : Int → (List ByteArray) → Option (Int × List ByteArray)) : Nat → Int → Int → (List ByteArray) → Option (Int × List ByteArray)
  | 0, _, _, _ => none
  | k + 1, k3, i4, a5 =>
  if decide (i4 < (List.length a5 : Int)) = true then
  (laws_markText.F n k3).bind fun r6 =>
  if (0 : Int) ≤ i4 ∧ i4 < (List.length a5 : Int) then
  l0 n K0 k (IntKind.i64.wrap (k3 + 1)) (IntKind.i64.wrap (i4 + 1)) (List.set a5 (Int.toNat i4) r6)
  else
  none
  else
  K0 k3 a5
def F (n : Nat) (a1 : List ByteArray) (k2 : Int) : Option (Int × List ByteArray) :=
  l0 n (fun k7 a8 =>
  some (k7, a8)) n k2 0 a1
noncomputable def code : Code := Try.f17.body.getD .skip
abbrev ash : List ASh := [.ms (.sl (.str)) (.own .ro), .ro (.int .i64)]
abbrev rsh : List RSh := [.ro (.int .i64), .out (.sl (.str))]
def ent (n : Nat) : FEnt := ⟨ash, rsh, fun v => F n v.1 v.2.1⟩
noncomputable def cx (n : Nat) : Ctx := mkCtx Try.prog TYS [(23, laws_markText.ent n)]
noncomputable def d : FnD := ⟨code, 20, .nil, [(.tmp 4, .int .i64, .ro)]⟩
noncomputable def kr (n : Nat) (v : AVs ash) : KN rsh := endK (cx n) d (avEnc ash v) (rvDec rsh)
noncomputable def b0 : Code := Code.l (Code.l (Code.r (Code.l (Code.r code))))
def an : An := .seq .nil (.seq (.seq .nil (.block (some [0, 1]) (.cut 0 [0, 1, 5]))) (.seq .nil .nil))
def an0 : An := .seq (.seq .nil (.cond .nil .nil)) (.seq (.block (some [0, 1, 5]) (.seq .nil .nil)) .nil)
abbrev sh0 : ES := ⟨[(0, .al 0 []), (1, .v (.int .i64)), (5, .v (.int .i64))], [⟨0, .sl (.str), .own .ro, false, true, none⟩]⟩
abbrev sh0_0 : ES := ⟨[(0, .al 0 []), (1, .v (.int .i64))], [⟨0, .sl (.str), .own .ro, false, true, none⟩]⟩
def g0 (n m : Nat) (x : sh0.V) (kn : KN rsh) (kx : KX rsh) : Option (RVs rsh) := l0 n (fun y0 y1 => kx 0 (sh0_0.enc (((()), y0, ()), (y1, ())))) m x.1.2.1 x.1.2.2.1 x.2.1
def T (n : Nat) : Tab (RVs rsh) := fun j e kn kx => match j with
  | 0 => ES.on sh0 e fun x => g0 n n x kn kx
  | _ => none
theorem mk (n : Nat) : MOk (cx n) := mkCtx_ok (mem_cons (laws_markText.ok n) mem_nil)
theorem u0 (n : Nat) (v : AVs ash) : UnitOk (cx n) 20 (T n) (kr n v) 0 (.loop b0) :=
  loop_u (n := n) (CO _) (mk n) (MX _) an0 [(0, [0, 1])] [0, 1, 5] sh0 (g0 n) (fun _ _ _ => rfl) (fun _ _ _ => rfl) (fun m x kn kx => by kernel_rfl) (l := []) (by kernel_rfl) (mem_nil)
theorem ok (n : Nat) : EntOk Try.prog 17 (ent n) :=
  ent_okU (c := cx n) (e := ent n) (d := d) (CO _) (mk n) (MX _) an Try.func17 (by kernel_rfl) (T n) (l := [(0, .loop b0)]) (by kernel_rfl) (fun v => mem_cons (u0 n v) mem_nil) (fun v => by kernel_rfl)
end laws_markStringS
/-! laws.markChangeS -/
namespace laws_markChangeS
def l0 (n : Nat) (K0 : Int → (List (Int × (List ByteArray) × Bool)) → Option (Int × List (Int × (List ByteArray) × Bool))) : Nat → Int → Int → (List (Int × (List ByteArray) × Bool)) → Option (Int × List (Int × (List ByteArray) × Bool))
  | 0, _, _, _ => none
  | k + 1, k3, i4, a5 =>
  if decide (i4 < (List.length a5 : Int)) = true then
  if (0 : Int) ≤ i4 ∧ i4 < (List.length a5 : Int) then
  let w6 : List (Int × (List ByteArray) × Bool) := List.set a5 (Int.toNat i4) (k3, (List.getD a5 (Int.toNat i4) (0, ([], false))).2)
  if (0 : Int) ≤ i4 ∧ i4 < (List.length w6 : Int) then
  (laws_markStringS.F n (((List.getD w6 (Int.toNat i4) (0, ([], false))).2).1) (IntKind.i64.wrap (k3 + 1))).bind fun r7 =>
  let w8 : List (Int × (List ByteArray) × Bool) := List.set w6 (Int.toNat i4) ((List.getD w6 (Int.toNat i4) (0, ([], false))).1, (r7.2, ((List.getD w6 (Int.toNat i4) (0, ([], false))).2).2))
  if (0 : Int) ≤ i4 ∧ i4 < (List.length w8 : Int) then
  let w9 : List (Int × (List ByteArray) × Bool) := List.set w8 (Int.toNat i4) ((List.getD w8 (Int.toNat i4) (0, ([], false))).1, (((List.getD w8 (Int.toNat i4) (0, ([], false))).2).1, decide ((Int.tmod r7.1 3) = 0)))
  l0 n K0 k (IntKind.i64.wrap (r7.1 + 1)) (IntKind.i64.wrap (i4 + 1)) w9
  else
  none
  else
  none
  else
  none
  else
  K0 k3 a5
def F (n : Nat) (a1 : List (Int × (List ByteArray) × Bool)) (k2 : Int) : Option (Int × List (Int × (List ByteArray) × Bool)) :=
  l0 n (fun k10 a11 =>
  some (k10, a11)) n k2 0 a1
noncomputable def code : Code := Try.f9.body.getD .skip
abbrev ash : List ASh := [.ms (.sl (.st (.pair (.int .i64) (.pair (.st (.sl (.str))) (.bool))))) (.own (.pr .ro (.pr (.own .ro) .ro))), .ro (.int .i64)]
abbrev rsh : List RSh := [.ro (.int .i64), .out (.sl (.st (.pair (.int .i64) (.pair (.st (.sl (.str))) (.bool)))))]
def ent (n : Nat) : FEnt := ⟨ash, rsh, fun v => F n v.1 v.2.1⟩
noncomputable def cx (n : Nat) : Ctx := mkCtx Try.prog TYS [(17, laws_markStringS.ent n)]
noncomputable def d : FnD := ⟨code, 37, .nil, [(.tmp 4, .int .i64, .ro)]⟩
noncomputable def kr (n : Nat) (v : AVs ash) : KN rsh := endK (cx n) d (avEnc ash v) (rvDec rsh)
noncomputable def b0 : Code := Code.l (Code.l (Code.r (Code.l (Code.r code))))
def an : An := .seq .nil (.seq (.seq .nil (.block (some [0, 1]) (.cut 0 [0, 1, 5]))) (.seq .nil .nil))
def an0 : An := .seq (.seq .nil (.cond .nil .nil)) (.seq (.block (some [0, 1, 5]) (.seq .nil (.seq .nil (.seq .nil (.seq .nil .nil))))) .nil)
abbrev sh0 : ES := ⟨[(0, .al 0 []), (1, .v (.int .i64)), (5, .v (.int .i64))], [⟨0, .sl (.st (.pair (.int .i64) (.pair (.st (.sl (.str))) (.bool)))), .own (.pr .ro (.pr (.own .ro) .ro)), false, true, none⟩]⟩
abbrev sh0_0 : ES := ⟨[(0, .al 0 []), (1, .v (.int .i64))], [⟨0, .sl (.st (.pair (.int .i64) (.pair (.st (.sl (.str))) (.bool)))), .own (.pr .ro (.pr (.own .ro) .ro)), false, true, none⟩]⟩
def g0 (n m : Nat) (x : sh0.V) (kn : KN rsh) (kx : KX rsh) : Option (RVs rsh) := l0 n (fun y0 y1 => kx 0 (sh0_0.enc (((()), y0, ()), (y1, ())))) m x.1.2.1 x.1.2.2.1 x.2.1
def T (n : Nat) : Tab (RVs rsh) := fun j e kn kx => match j with
  | 0 => ES.on sh0 e fun x => g0 n n x kn kx
  | _ => none
theorem mk (n : Nat) : MOk (cx n) := mkCtx_ok (mem_cons (laws_markStringS.ok n) mem_nil)
theorem u0 (n : Nat) (v : AVs ash) : UnitOk (cx n) 37 (T n) (kr n v) 0 (.loop b0) :=
  loop_u (n := n) (CO _) (mk n) (MX _) an0 [(0, [0, 1])] [0, 1, 5] sh0 (g0 n) (fun _ _ _ => rfl) (fun _ _ _ => rfl) (fun m x kn kx => by kernel_rfl) (l := []) (by kernel_rfl) (mem_nil)
theorem ok (n : Nat) : EntOk Try.prog 9 (ent n) :=
  ent_okU (c := cx n) (e := ent n) (d := d) (CO _) (mk n) (MX _) an Try.func9 (by kernel_rfl) (T n) (l := [(0, .loop b0)]) (by kernel_rfl) (fun v => mem_cons (u0 n v) mem_nil) (fun v => by kernel_rfl)
end laws_markChangeS
/-! laws.heldStringS -/
namespace laws_heldStringS
def l0 (n : Nat) (a3 : List ByteArray) (K0 : Int → Option Int) : Nat → Int → Int → Option Int
  | 0, _, _ => none
  | k + 1, k4, i5 =>
  if decide (i5 < (List.length a3 : Int)) = true then
  if (0 : Int) ≤ i5 ∧ i5 < (List.length a3 : Int) then
  (laws_markText.F n k4).bind fun r6 =>
  if (!(Abs.seq (List.getD a3 (Int.toNat i5) ByteArray.empty) r6)) = true then
  some (-1)
  else
  l0 n a3 K0 k (IntKind.i64.wrap (k4 + 1)) (IntKind.i64.wrap (i5 + 1))
  else
  none
  else
  K0 k4
def F (n : Nat) (a1 : List ByteArray) (k2 : Int) : Option Int :=
  l0 n a1 (fun k7 =>
  some k7) n k2 0
noncomputable def code : Code := Try.f18.body.getD .skip
abbrev ash : List ASh := [.ro (.sl (.str)), .ro (.int .i64)]
abbrev rsh : List RSh := [.ro (.int .i64)]
def ent (n : Nat) : FEnt := ⟨ash, rsh, fun v => F n v.1 v.2.1⟩
noncomputable def cx (n : Nat) : Ctx := mkCtx Try.prog TYS [(23, laws_markText.ent n)]
noncomputable def d : FnD := ⟨code, 22, .nil, [(.tmp 4, .int .i64, .ro)]⟩
noncomputable def kr (n : Nat) (v : AVs ash) : KN rsh := endK (cx n) d (avEnc ash v) (rvDec rsh)
noncomputable def b0 : Code := Code.l (Code.l (Code.r (Code.l (Code.r code))))
def an : An := .seq .nil (.seq (.seq .nil (.block (some [1]) (.cut 0 [0, 1, 5]))) (.seq .nil .nil))
def an0 : An := .seq (.seq .nil (.cond .nil .nil)) (.seq (.block (some [0, 1, 5]) (.seq (.seq .nil (.cond (.seq .nil .nil) .nil)) .nil)) .nil)
abbrev sh0 : ES := ⟨[(0, .v (.sl (.str))), (1, .v (.int .i64)), (5, .v (.int .i64))], []⟩
abbrev sh0_0 : ES := ⟨[(1, .v (.int .i64))], []⟩
def g0 (n m : Nat) (x : sh0.V) (kn : KN rsh) (kx : KX rsh) : Option (RVs rsh) := l0 n x.1.1 (fun y0 => kx 0 (sh0_0.enc ((y0, ()), (())))) m x.1.2.1 x.1.2.2.1
def T (n : Nat) : Tab (RVs rsh) := fun j e kn kx => match j with
  | 0 => ES.on sh0 e fun x => g0 n n x kn kx
  | _ => none
theorem mk (n : Nat) : MOk (cx n) := mkCtx_ok (mem_cons (laws_markText.ok n) mem_nil)
theorem u0 (n : Nat) (v : AVs ash) : UnitOk (cx n) 22 (T n) (kr n v) 0 (.loop b0) :=
  loop_u (n := n) (CO _) (mk n) (MX _) an0 [(0, [1])] [0, 1, 5] sh0 (g0 n) (fun _ _ _ => rfl) (fun _ _ _ => rfl) (fun m x kn kx => by kernel_rfl) (l := []) (by kernel_rfl) (mem_nil)
theorem ok (n : Nat) : EntOk Try.prog 18 (ent n) :=
  ent_okU (c := cx n) (e := ent n) (d := d) (CO _) (mk n) (MX _) an Try.func18 (by kernel_rfl) (T n) (l := [(0, .loop b0)]) (by kernel_rfl) (fun v => mem_cons (u0 n v) mem_nil) (fun v => by kernel_rfl)
end laws_heldStringS
/-! laws.heldChangeS -/
namespace laws_heldChangeS
def l0 (n : Nat) (a3 : List (Int × (List ByteArray) × Bool)) (K0 : Int → Option Int) : Nat → Int → Int → Option Int
  | 0, _, _ => none
  | k + 1, k4, i5 =>
  if decide (i5 < (List.length a3 : Int)) = true then
  if (0 : Int) ≤ i5 ∧ i5 < (List.length a3 : Int) then
  if (!decide (((List.getD a3 (Int.toNat i5) (0, ([], false))).1) = k4)) = true then
  some (-1)
  else
  if (0 : Int) ≤ i5 ∧ i5 < (List.length a3 : Int) then
  (laws_heldStringS.F n (((List.getD a3 (Int.toNat i5) (0, ([], false))).2).1) (IntKind.i64.wrap (k4 + 1))).bind fun r6 =>
  if decide (r6 < 0) = true then
  some (-1)
  else
  if (0 : Int) ≤ i5 ∧ i5 < (List.length a3 : Int) then
  if (!((((List.getD a3 (Int.toNat i5) (0, ([], false))).2).2) == (decide ((Int.tmod r6 3) = 0)))) = true then
  some (-1)
  else
  l0 n a3 K0 k (IntKind.i64.wrap (r6 + 1)) (IntKind.i64.wrap (i5 + 1))
  else
  none
  else
  none
  else
  none
  else
  K0 k4
def F (n : Nat) (a1 : List (Int × (List ByteArray) × Bool)) (k2 : Int) : Option Int :=
  l0 n a1 (fun k7 =>
  some k7) n k2 0
noncomputable def code : Code := Try.f10.body.getD .skip
abbrev ash : List ASh := [.ro (.sl (.st (.pair (.int .i64) (.pair (.st (.sl (.str))) (.bool))))), .ro (.int .i64)]
abbrev rsh : List RSh := [.ro (.int .i64)]
def ent (n : Nat) : FEnt := ⟨ash, rsh, fun v => F n v.1 v.2.1⟩
noncomputable def cx (n : Nat) : Ctx := mkCtx Try.prog TYS [(18, laws_heldStringS.ent n)]
noncomputable def d : FnD := ⟨code, 43, .nil, [(.tmp 4, .int .i64, .ro)]⟩
noncomputable def kr (n : Nat) (v : AVs ash) : KN rsh := endK (cx n) d (avEnc ash v) (rvDec rsh)
noncomputable def b0 : Code := Code.l (Code.l (Code.r (Code.l (Code.r code))))
def an : An := .seq .nil (.seq (.seq .nil (.block (some [1]) (.cut 0 [0, 1, 5]))) (.seq .nil .nil))
def an0 : An := .seq (.seq .nil (.cond .nil .nil)) (.seq (.block (some [0, 1, 5]) (.seq (.seq .nil (.cond (.seq .nil .nil) .nil)) (.seq .nil (.seq .nil (.seq (.seq .nil (.cond (.seq .nil .nil) .nil)) (.seq (.seq .nil (.cond (.seq .nil .nil) .nil)) .nil)))))) .nil)
abbrev sh0 : ES := ⟨[(0, .v (.sl (.st (.pair (.int .i64) (.pair (.st (.sl (.str))) (.bool)))))), (1, .v (.int .i64)), (5, .v (.int .i64))], []⟩
abbrev sh0_0 : ES := ⟨[(1, .v (.int .i64))], []⟩
def g0 (n m : Nat) (x : sh0.V) (kn : KN rsh) (kx : KX rsh) : Option (RVs rsh) := l0 n x.1.1 (fun y0 => kx 0 (sh0_0.enc ((y0, ()), (())))) m x.1.2.1 x.1.2.2.1
def T (n : Nat) : Tab (RVs rsh) := fun j e kn kx => match j with
  | 0 => ES.on sh0 e fun x => g0 n n x kn kx
  | _ => none
theorem mk (n : Nat) : MOk (cx n) := mkCtx_ok (mem_cons (laws_heldStringS.ok n) mem_nil)
theorem u0 (n : Nat) (v : AVs ash) : UnitOk (cx n) 43 (T n) (kr n v) 0 (.loop b0) :=
  loop_u (n := n) (CO _) (mk n) (MX _) an0 [(0, [1])] [0, 1, 5] sh0 (g0 n) (fun _ _ _ => rfl) (fun _ _ _ => rfl) (fun m x kn kx => by kernel_rfl) (l := []) (by kernel_rfl) (mem_nil)
theorem ok (n : Nat) : EntOk Try.prog 10 (ent n) :=
  ent_okU (c := cx n) (e := ent n) (d := d) (CO _) (mk n) (MX _) an Try.func10 (by kernel_rfl) (T n) (l := [(0, .loop b0)]) (by kernel_rfl) (fun v => mem_cons (u0 n v) mem_nil) (fun v => by kernel_rfl)
end laws_heldChangeS
/-! laws.FnExactBack -/
namespace laws_FnExactBack
def j0 (n : Nat) (t12 : List (Int × (List ByteArray) × Bool)) (t13 : List (Int × (List ByteArray) × Bool)) (t14 : List (Int × (List ByteArray) × Bool)) : Option Bool :=
  (laws_markChangeS.F n t14 1).bind fun r15 =>
  (laws_heldChangeS.F n r15.2 1).bind fun r16 =>
  if decide (r16 < 0) = true then
  some false
  else
  if (!decide (r16 = r15.1)) = true then
  some false
  else
  (laws_toChangeS.F n t12).bind fun r17 =>
  (impl_Back.F n r17).bind fun r18 =>
  (laws_eqChangeS.F n r18 t13).bind fun r19 =>
  if (!r19) = true then
  some false
  else
  (laws_heldChangeS.F n r15.2 1).bind fun r20 =>
  if decide (r20 < 0) = true then
  some false
  else
  if (!decide (r20 = r15.1)) = true then
  some false
  else
  some true
def F (n : Nat) (t1 : List (Int × (List ByteArray) × Bool)) : Option Bool :=
  (laws_szChangeS.F n t1 1048576).bind fun r2 =>
  if decide (r2 < 0) = true then
  some true
  else
  (laws_toChangeS.F n t1).bind fun r3 =>
  (spec_Back.F n r3).bind fun r4 =>
  (laws_toChangeS.F n t1).bind fun r5 =>
  (impl_Back.F n r5).bind fun r6 =>
  (laws_eqChangeS.F n r6 r4).bind fun r7 =>
  if (!r7) = true then
  some false
  else
  (laws_toChangeS.F n t1).bind fun r8 =>
  (laws_eqChangeS.F n r5 r8).bind fun r9 =>
  if (!r9) = true then
  some false
  else
  (laws_markChangeS.F n r5 1).bind fun r10 =>
  if (decide (r10.1 < 0)) = false then
  (laws_eqChangeS.F n r6 r4).bind fun r11 =>
  if (!r11) = true then
  some false
  else
  j0 n t1 r4 r6
  else
  some false
noncomputable def code : Code := Try.f3.body.getD .skip
abbrev ash : List ASh := [.ro (.sl (.st (.pair (.int .i64) (.pair (.st (.sl (.str))) (.bool)))))]
abbrev rsh : List RSh := [.ro .bool]
def ent (n : Nat) : FEnt := ⟨ash, rsh, fun v => F n v.1⟩
noncomputable def cx (n : Nat) : Ctx := mkCtx Try.prog TYS [(4, laws_szChangeS.ent n), (5, spec_Back.ent n), (6, laws_toChangeS.ent n), (7, impl_Back.ent n), (8, laws_eqChangeS.ent n), (9, laws_markChangeS.ent n), (10, laws_heldChangeS.ent n)]
noncomputable def d : FnD := ⟨code, 69, .nil, [(.tmp 2, .bool, .ro)]⟩
noncomputable def kr (n : Nat) (v : AVs ash) : KN rsh := endK (cx n) d (avEnc ash v) (rvDec rsh)
noncomputable def c0 : Code := (Code.r (Code.r (Code.r (Code.r (Code.r (Code.r (Code.r (Code.r (Code.r (Code.r (Code.r (Code.r code))))))))))))
def an : An := .seq .nil (.seq .nil (.seq .nil (.seq (.seq .nil (.cond (.seq .nil .nil) .nil)) (.seq .nil (.seq (.reg [(20, .own (.pr .ro (.pr (.own .ro) .ro)))]) (.seq (.reg [(22, .own (.pr .ro (.pr (.own .ro) .ro)))]) (.seq (.seq .nil (.cond (.seq .nil .nil) .nil)) (.seq (.seq .nil (.cond (.seq .nil .nil) .nil)) (.seq .nil (.seq .nil (.seq (.seq .nil (.cond (.seq .nil .nil) .nil)) (.cut 0 [0, 4, 6]))))))))))))
def an0 : An := .seq .nil (.seq .nil (.seq .nil (.seq .nil (.seq (.seq .nil (.cond (.seq .nil .nil) .nil)) (.seq (.seq .nil (.cond (.seq .nil .nil) .nil)) (.seq .nil (.seq (.seq .nil (.cond (.seq .nil .nil) .nil)) (.seq .nil (.seq .nil (.seq (.seq .nil (.cond (.seq .nil .nil) .nil)) (.seq (.seq .nil (.cond (.seq .nil .nil) .nil)) (.seq .nil .nil))))))))))))
abbrev sh0 : ES := ⟨[(0, .v (.sl (.st (.pair (.int .i64) (.pair (.st (.sl (.str))) (.bool)))))), (4, .v (.sl (.st (.pair (.int .i64) (.pair (.st (.sl (.str))) (.bool)))))), (6, .al 6 [])], [⟨6, .sl (.st (.pair (.int .i64) (.pair (.st (.sl (.str))) (.bool)))), .own (.pr .ro (.pr (.own .ro) .ro)), false, false, none⟩]⟩
def g0 (n m : Nat) (x : sh0.V) (kn : KN rsh) (kx : KX rsh) : Option (RVs rsh) := j0 n x.1.1 x.1.2.1 x.2.1 
def T (n : Nat) : Tab (RVs rsh) := fun j e kn kx => match j with
  | 0 => ES.on sh0 e fun x => g0 n n x kn kx
  | _ => none
theorem mk (n : Nat) : MOk (cx n) := mkCtx_ok (mem_cons (laws_szChangeS.ok n) (mem_cons (spec_Back.ok n) (mem_cons (laws_toChangeS.ok n) (mem_cons (impl_Back.ok n) (mem_cons (laws_eqChangeS.ok n) (mem_cons (laws_markChangeS.ok n) (mem_cons (laws_heldChangeS.ok n) mem_nil)))))))
theorem u0 (n : Nat) (v : AVs ash) : UnitOk (cx n) 69 (T n) (kr n v) 0 (c0) :=
  join_u (CO _) (mk n) (MX _) an0 [] [2] sh0 (g0 n n) (fun _ _ _ => rfl) (fun x kn kx => by kernel_rfl) (l := []) (by kernel_rfl) (mem_nil)
theorem ok (n : Nat) : EntOk Try.prog 3 (ent n) :=
  ent_okU (c := cx n) (e := ent n) (d := d) (CO _) (mk n) (MX _) an Try.func3 (by kernel_rfl) (T n) (l := [(0, c0)]) (by kernel_rfl) (fun v => mem_cons (u0 n v) mem_nil) (fun v => by kernel_rfl)
end laws_FnExactBack
end Go.Abs
