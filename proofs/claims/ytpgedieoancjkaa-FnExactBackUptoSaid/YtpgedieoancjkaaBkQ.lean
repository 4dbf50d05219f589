/- impl.Back: what a round answers. Conditions: none. -/
import Derived.Test.YtpgedieoancjkaaBkP
import Derived.Test.YtpgedieoancjkaaBk
import Derived.Test.YtpgedieoancjkaaIn
import Derived.Test.YtpgedieoancjkaaBF0
set_option linter.unusedVariables false
namespace Go.Abs
open Go.Proofs

def TYK : List (Nat × Kd) := [(3, .int .i64), (4, .bool), (9, .str), (31, .sl .str), (36, .st (.sl .str)), (24, .sl CHK), (38, CHK)]
theorem TYK_ok : TysOk Try.prog TYK := show (TYK.all (tyCheck Try.prog TYK)) = true by kernel_rfl
noncomputable def cB (n : Nat) : Ctx := mkCtx Try.prog TYK [(15, B.impl_copyTuple.ent n)]
theorem cB_ok (n : Nat) : CtxOk (cB n) := mkCtx_cok TYK_ok
theorem mB_ok (n : Nat) : MOk (cB n) := mkCtx_ok (mem_cons (B.impl_copyTuple.ok n) mem_nil)

def rfOf : Code → Code × Code
  | .seq _ (.seq _ (.seq (.seq _ (.block _ (.rangeFunc _ _ x (.block _ y)))) _)) => (x, y)
  | _ => (.skip, .skip)
def opsOf : Code → Array Oper
  | .region _ o _ => o
  | _ => #[]
noncomputable def opsA : Array Oper := opsOf (rfOf (Try.f7.body.getD .skip)).1
noncomputable def opsC : Array Oper := opsOf (rfOf (Try.f7.body.getD .skip)).2

abbrev OB (ys : List CHK.T) : Obj := ⟨.sl CHK, .own mB, ys, true, true, [], none⟩
abbrev envR (x : CHK.T) (ys : List CHK.T) : Env := ⟨[(10, .v CHK x), (3, .pt 3 0 [])], [(3, some (OB ys))]⟩

def outOf (e : Env) : Option (List CHK.T) := match e.obj 3 with
  | some (some o) => if h : o.K.beq (.sl CHK) = true then (if (o.m.beq (.own mB) && o.par && o.box && o.hl.isNone) = true then some (castK h o.x) else none) else none
  | _ => none

theorem outOf_inv {e : Env} {ys : List CHK.T} (h : outOf e = some ys) : ∃ lg, e.obj 3 = some (some ⟨.sl CHK, .own mB, ys, true, true, lg, none⟩) := by
  unfold outOf at h
  split at h
  · rename_i o ho
    split at h
    · rename_i hb
      split at h
      · rename_i hc
        obtain ⟨K, m, x, box, par, log, hl⟩ := o
        simp only [Bool.and_eq_true, Option.isNone_iff_eq_none] at hc
        obtain ⟨⟨⟨h1, h2⟩, h3⟩, h4⟩ := hc
        have e1 := Kd.eq_of_beq hb
        have e2 := Md.eq_of_beq h1
        dsimp only at e1 e2 h2 h3 h4
        subst e1 e2 h2 h3 h4
        cases h
        exact ⟨log, ho⟩
      · cases h
    · cases h
  · cases h

noncomputable def envA (n : Nat) (x : CHK.T) (ys : List CHK.T) : Option Env := aops (cB n) 24 [] opsA.toList opsA.toList (envR x ys) some
theorem evA (n : Nat) (x : CHK.T) (ys : List CHK.T) : (envA n x ys).isSome = true := by kernel_rfl
theorem evC (n : Nat) (x : CHK.T) (ys : List CHK.T) : ((envA n x ys).bind fun e => aopsD (cB n) 24 [(16, .own .ro), (20, mB), (21, .own mB), (22, .own mB)] opsC.toList opsC.toList e [] fun tr e' => if indep opsC.toList tr = true then outOf e' else none) =
    (B.impl_copyTuple.F n x.2.1).bind fun r => if List.length ys + List.length [(x.1, (r, !x.2.2))] ≤ lim then some (ys ++ [(x.1, (r, !x.2.2))]) else none := by kernel_rfl
end Go.Abs
