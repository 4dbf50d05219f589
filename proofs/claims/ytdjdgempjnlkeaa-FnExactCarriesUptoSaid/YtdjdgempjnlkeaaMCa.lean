/- Carries: both sides. Conditions: none. -/
import Derived.Test.YtdjdgempjnlkeaaH
import Derived.Test.YtdjdgempjnlkeaaC3
namespace Go.Abs
set_option linter.unusedVariables false
set_option linter.unusedSimpArgs false
theorem main_X {n : Nat} (hn : big ≤ n) (a b : Ru) (ho0 : Kd.okv KRu a) (hb0 : Kd.bulk KRu a ≤ 1048576) (ho1 : Kd.okv KRu b) (hb1 : Kd.bulk KRu b ≤ 1048576) :
  ∃ w, spec_Carries.F n a b = some w ∧ impl_Carries.F n a b = some w ∧ Kd.bulk KMa w.1 ≤ 2147483648 :=
 ⟨_, specCarries hn hb0 hb1, implCarries hn hb0 hb1, car_bulk hb0 hb1⟩
theorem law_laws_FnExactCarries {n : Nat} (hn : big ≤ n) (a0 : (List (Int × ByteArray × List Int)) × (Int × ByteArray × List Int) × List (Int × ByteArray × List Int)) (a1 : (List (Int × ByteArray × List Int)) × (Int × ByteArray × List Int) × List (Int × ByteArray × List Int)) (ho0 : Kd.okv (.st (.pair (.sl (.st (.pair (.int .i64) (.pair (.str) (.sl (.int .i64)))))) (.pair (.st (.pair (.int .i64) (.pair (.str) (.sl (.int .i64))))) (.sl (.st (.pair (.int .i64) (.pair (.str) (.sl (.int .i64))))))))) a0) (ho1 : Kd.okv (.st (.pair (.sl (.st (.pair (.int .i64) (.pair (.str) (.sl (.int .i64)))))) (.pair (.st (.pair (.int .i64) (.pair (.str) (.sl (.int .i64))))) (.sl (.st (.pair (.int .i64) (.pair (.str) (.sl (.int .i64))))))))) a1) (hb0 : Kd.bulk (.st (.pair (.sl (.st (.pair (.int .i64) (.pair (.str) (.sl (.int .i64)))))) (.pair (.st (.pair (.int .i64) (.pair (.str) (.sl (.int .i64))))) (.sl (.st (.pair (.int .i64) (.pair (.str) (.sl (.int .i64))))))))) a0 ≤ 1048576) (hb1 : Kd.bulk (.st (.pair (.sl (.st (.pair (.int .i64) (.pair (.str) (.sl (.int .i64)))))) (.pair (.st (.pair (.int .i64) (.pair (.str) (.sl (.int .i64))))) (.sl (.st (.pair (.int .i64) (.pair (.str) (.sl (.int .i64))))))))) a1 ≤ 1048576) : laws_FnExactCarries.F n a0 a1 = some true := by
 obtain ⟨w, hs, hi, hw⟩ := main_X hn a0 a1 ho0 hb0 ho1 hb1
 unfold laws_FnExactCarries.F
 refine bind_some_of (sz_Rule hn _ (by first | omega | (simp only [Kd.bulk] at *; omega)) _) fun z1 => ?_
 split
 ·rfl
 refine bind_some_of (sz_Rule hn _ (by first | omega | (simp only [Kd.bulk] at *; omega)) _) fun z2 => ?_
 split
 ·rfl
 refine bind_eq (to_Rule hn _ (by first | omega | (simp only [Kd.bulk] at *; omega))) ?_
 try dsimp only
 refine bind_eq (to_Rule hn _ (by first | omega | (simp only [Kd.bulk] at *; omega))) ?_
 try dsimp only
 refine bind_eq hs ?_
 try dsimp only
 refine bind_eq (to_Rule hn _ (by first | omega | (simp only [Kd.bulk] at *; omega))) ?_
 try dsimp only
 refine bind_eq (to_Rule hn _ (by first | omega | (simp only [Kd.bulk] at *; omega))) ?_
 try dsimp only
 refine bind_eq hi ?_
 try dsimp only
 refine bind_eq (eq_Match hn _ (by first | omega | (simp only [Kd.bulk] at *; omega))) ?_
 try dsimp only
 rw [if_pos (by simp [seq_refl])]
 rw [if_neg (by simp [seq_refl])]
 unfold laws_FnExactCarries.j0
 refine bind_eq (to_Rule hn _ (by first | omega | (simp only [Kd.bulk] at *; omega))) ?_
 try dsimp only
 refine bind_eq (eq_Rule hn _ (by first | omega | (simp only [Kd.bulk] at *; omega))) ?_
 try dsimp only
 rw [if_neg (by simp [seq_refl])]
 refine bind_eq (to_Rule hn _ (by first | omega | (simp only [Kd.bulk] at *; omega))) ?_
 try dsimp only
 refine bind_eq (eq_Rule hn _ (by first | omega | (simp only [Kd.bulk] at *; omega))) ?_
 try dsimp only
 rw [if_neg (by simp [seq_refl])]
 obtain ⟨q3, y3, a3, b3, c3⟩ := mk_Rule hn a0 (by first | omega | (simp only [Kd.bulk] at *; omega)) 1 (by omega) (by first | omega | (simp only [Kd.bulk] at *; omega))
 refine bind_eq a3 ?_
 try dsimp only
 obtain ⟨q4, y4, a4, b4, c4⟩ := mk_Rule hn a1 (by first | omega | (simp only [Kd.bulk] at *; omega)) q3 (by omega) (by first | omega | (simp only [Kd.bulk] at *; omega))
 refine bind_eq a4 ?_
 try dsimp only
 rw [if_pos (by simp only [decide_eq_false_iff_not]; omega)]
 refine bind_eq (eq_Match hn _ (by first | omega | (simp only [Kd.bulk] at *; omega))) ?_
 try dsimp only
 rw [if_pos (by simp [seq_refl])]
 rw [if_neg (by simp [seq_refl])]
 unfold laws_FnExactCarries.j1
 obtain ⟨q5, y5, a5, b5, c5, d5⟩ := mk_Match hn w.1 (by first | omega | (simp only [Kd.bulk] at *; omega)) 1 (by omega) (by first | omega | (simp only [Kd.bulk] at *; omega))
 refine bind_eq a5 ?_
 try dsimp only
 refine bind_eq d5 ?_
 try dsimp only
 rw [if_neg (by simp only [decide_eq_true_eq]; omega)]
 rw [if_neg (by simp [seq_refl])]
 refine bind_eq (to_Rule hn _ (by first | omega | (simp only [Kd.bulk] at *; omega))) ?_
 try dsimp only
 refine bind_eq (to_Rule hn _ (by first | omega | (simp only [Kd.bulk] at *; omega))) ?_
 try dsimp only
 refine bind_eq hi ?_
 try dsimp only
 refine bind_eq (eq_Match hn _ (by first | omega | (simp only [Kd.bulk] at *; omega))) ?_
 try dsimp only
 rw [if_pos (by simp [seq_refl])]
 rw [if_neg (by simp [seq_refl])]
 unfold laws_FnExactCarries.j2
 refine bind_eq d5 ?_
 try dsimp only
 rw [if_neg (by simp only [decide_eq_true_eq]; omega)]
 rw [if_neg (by simp [seq_refl])]
 all_goals rfl
end Go.Abs
