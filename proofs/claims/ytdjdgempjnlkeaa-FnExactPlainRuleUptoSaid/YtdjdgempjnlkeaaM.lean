/- PlainRule: both sides. Conditions: none. -/
import Derived.Test.YtdjdgempjnlkeaaH
import Derived.Test.YtdjdgempjnlkeaaPI
namespace Go.Abs
set_option linter.unusedVariables false
set_option linter.unusedSimpArgs false
theorem main_X {n : Nat} (hn : big ≤ n) (a : Ru) (ho0 : Kd.okv KRu a) (hb0 : Kd.bulk KRu a ≤ 1048576) :
  ∃ w, spec_PlainRule.F n a = some w ∧ impl_PlainRule.F n a = some w ∧ True := by
 refine ⟨_, specPlain hn hb0, ?_, trivial⟩
 unfold impl_PlainRule.F
 rw [implPlain hn hb0]
 rfl
theorem law_laws_FnExactPlainRule {n : Nat} (hn : big ≤ n) (a0 : (List (Int × ByteArray × List Int)) × (Int × ByteArray × List Int) × List (Int × ByteArray × List Int)) (ho0 : Kd.okv (.st (.pair (.sl (.st (.pair (.int .i64) (.pair (.str) (.sl (.int .i64)))))) (.pair (.st (.pair (.int .i64) (.pair (.str) (.sl (.int .i64))))) (.sl (.st (.pair (.int .i64) (.pair (.str) (.sl (.int .i64))))))))) a0) (hb0 : Kd.bulk (.st (.pair (.sl (.st (.pair (.int .i64) (.pair (.str) (.sl (.int .i64)))))) (.pair (.st (.pair (.int .i64) (.pair (.str) (.sl (.int .i64))))) (.sl (.st (.pair (.int .i64) (.pair (.str) (.sl (.int .i64))))))))) a0 ≤ 1048576) : laws_FnExactPlainRule.F n a0 = some true := by
 obtain ⟨w, hs, hi, hw⟩ := main_X hn a0 ho0 hb0
 unfold laws_FnExactPlainRule.F
 refine bind_some_of (sz_Rule hn _ (by first | omega | (simp only [Kd.bulk] at *; omega)) _) fun z1 => ?_
 split
 ·rfl
 refine bind_eq (to_Rule hn _ (by first | omega | (simp only [Kd.bulk] at *; omega))) ?_
 try dsimp only
 refine bind_eq hs ?_
 try dsimp only
 refine bind_eq (to_Rule hn _ (by first | omega | (simp only [Kd.bulk] at *; omega))) ?_
 try dsimp only
 refine bind_eq hi ?_
 try dsimp only
 rw [if_neg (by simp [seq_refl])]
 refine bind_eq (to_Rule hn _ (by first | omega | (simp only [Kd.bulk] at *; omega))) ?_
 try dsimp only
 refine bind_eq (eq_Rule hn _ (by first | omega | (simp only [Kd.bulk] at *; omega))) ?_
 try dsimp only
 rw [if_neg (by simp [seq_refl])]
 all_goals rfl
end Go.Abs
