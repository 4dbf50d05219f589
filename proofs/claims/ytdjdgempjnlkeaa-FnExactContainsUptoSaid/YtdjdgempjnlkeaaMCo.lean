/- Contains: both sides. Conditions: none. -/
import Derived.Test.YtdjdgempjnlkeaaH
import Derived.Test.YtdjdgempjnlkeaaC3
namespace Go.Abs
set_option linter.unusedVariables false
set_option linter.unusedSimpArgs false
theorem main_X {n : Nat} (hn : big ≤ n) (a b : Ru) (ho0 : Kd.okv KRu a) (hb0 : Kd.bulk KRu a ≤ 1048576) (ho1 : Kd.okv KRu b) (hb1 : Kd.bulk KRu b ≤ 1048576) :
  ∃ w, spec_Contains.F n a b = some w ∧ impl_Contains.F n a b = some w ∧ True := by
 refine ⟨_, ?_, implContains hn hb0 hb1, trivial⟩
 unfold spec_Contains.F
 rw [specCarries hn hb0 hb1]
 rfl
theorem law_laws_FnExactContains {n : Nat} (hn : big ≤ n) (a0 : (List (Int × ByteArray × List Int)) × (Int × ByteArray × List Int) × List (Int × ByteArray × List Int)) (a1 : (List (Int × ByteArray × List Int)) × (Int × ByteArray × List Int) × List (Int × ByteArray × List Int)) (ho0 : Kd.okv (.st (.pair (.sl (.st (.pair (.int .i64) (.pair (.str) (.sl (.int .i64)))))) (.pair (.st (.pair (.int .i64) (.pair (.str) (.sl (.int .i64))))) (.sl (.st (.pair (.int .i64) (.pair (.str) (.sl (.int .i64))))))))) a0) (ho1 : Kd.okv (.st (.pair (.sl (.st (.pair (.int .i64) (.pair (.str) (.sl (.int .i64)))))) (.pair (.st (.pair (.int .i64) (.pair (.str) (.sl (.int .i64))))) (.sl (.st (.pair (.int .i64) (.pair (.str) (.sl (.int .i64))))))))) a1) (hb0 : Kd.bulk (.st (.pair (.sl (.st (.pair (.int .i64) (.pair (.str) (.sl (.int .i64)))))) (.pair (.st (.pair (.int .i64) (.pair (.str) (.sl (.int .i64))))) (.sl (.st (.pair (.int .i64) (.pair (.str) (.sl (.int .i64))))))))) a0 ≤ 1048576) (hb1 : Kd.bulk (.st (.pair (.sl (.st (.pair (.int .i64) (.pair (.str) (.sl (.int .i64)))))) (.pair (.st (.pair (.int .i64) (.pair (.str) (.sl (.int .i64))))) (.sl (.st (.pair (.int .i64) (.pair (.str) (.sl (.int .i64))))))))) a1 ≤ 1048576) : laws_FnExactContains.F n a0 a1 = some true := by
 obtain ⟨w, hs, hi, hw⟩ := main_X hn a0 a1 ho0 hb0 ho1 hb1
 unfold laws_FnExactContains.F
 refine bind_some_of (sz_Rule hn _ (by first | omega | (simp only [Kd.bulk] at *; omega)) _) fun z1 => ?_
 split
 ·rfl
 refine bind_some_of (sz_Rule hn _ (by first | omega | (simp only [Kd.bulk] at *; omega)) _) fun z2 => ?_
 split
 ·rfl
 refine bind_eq (to_Rule hn _ (by first | omega | (simp only [Kd.bulk] at *; omega))) ?_
 try dsimp only
 refine bind_eq (to_Rule hn _ (by first | omega | (simp only [Kd.bulk] at *; omega))) ?_
 try dsimp only
 refine bind_eq hs ?_
 try dsimp only
 refine bind_eq (to_Rule hn _ (by first | omega | (simp only [Kd.bulk] at *; omega))) ?_
 try dsimp only
 refine bind_eq (to_Rule hn _ (by first | omega | (simp only [Kd.bulk] at *; omega))) ?_
 try dsimp only
 refine bind_eq hi ?_
 try dsimp only
 rw [if_neg (by simp [seq_refl])]
 refine bind_eq (to_Rule hn _ (by first | omega | (simp only [Kd.bulk] at *; omega))) ?_
 try dsimp only
 refine bind_eq (eq_Rule hn _ (by first | omega | (simp only [Kd.bulk] at *; omega))) ?_
 try dsimp only
 rw [if_neg (by simp [seq_refl])]
 refine bind_eq (to_Rule hn _ (by first | omega | (simp only [Kd.bulk] at *; omega))) ?_
 try dsimp only
 refine bind_eq (eq_Rule hn _ (by first | omega | (simp only [Kd.bulk] at *; omega))) ?_
 try dsimp only
 rw [if_neg (by simp [seq_refl])]
 all_goals rfl
end Go.Abs
