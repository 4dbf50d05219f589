/- Canon: both sides. Conditions: none. -/
import Derived.Test.YtpgedieoancjkaaDoorHC
import Derived.Test.YtpgedieoancjkaaDoorMB
namespace Go.Abs
set_option linter.unusedVariables false
set_option linter.unusedSimpArgs false
theorem main_X {n : Nat} (hn : big ≤ n) (a : Ru) (ho0 : Kd.okv KRu a) (hb0 : Kd.bulk KRu a ≤ 1048576) :
  ∃ w, spec_Canon.F n a = some w ∧ impl_Canon.F n a = some w ∧ Kd.bulk (.st (.pair (.sl (.st (.pair (.int .i64) (.pair (.str) (.sl (.int .i64)))))) (.pair (.st (.pair (.int .i64) (.pair (.str) (.sl (.int .i64))))) (.sl (.st (.pair (.int .i64) (.pair (.str) (.sl (.int .i64))))))))) w ≤ 1100000 := by
 have hn' : 1100000 ≤ n := by unfold big at hn; omega
 have Sa := (smT_of hb0).toSmR
 unfold spec_Canon.F impl_Canon.F
 rw [specText hn hb0, Option.bind_some, hasForm hn hb0, Option.bind_some]
 by_cases c1 : Abs.seq (textR a) ByteArray.empty = true
 ·rw [if_pos c1, if_pos (by simp [c1])]
  refine ⟨_, rfl, rfl, ?_⟩
  refine Nat.le_trans (Nat.le_of_eq (bulk_ru _)) ?_
  decide
 ·have h1 := textR_few c1
  rw [if_neg c1, if_neg (by simp [c1]), specCanon_eq n hn' a Sa (by omega), Option.bind_some, implCanon_eq n hn' a Sa (by omega), Option.bind_some]
  refine ⟨_, rfl, rfl, ?_⟩
  have := canonR_bx (r := a) (by omega)
  have := bulk_le hb0
  refine Nat.le_trans (Nat.le_of_eq (bulk_ru _)) ?_
  omega
theorem law_laws_FnExactCanon {n : Nat} (hn : big ≤ n) (a0 : (List (Int × ByteArray × List Int)) × (Int × ByteArray × List Int) × List (Int × ByteArray × List Int)) (ho0 : Kd.okv (.st (.pair (.sl (.st (.pair (.int .i64) (.pair (.str) (.sl (.int .i64)))))) (.pair (.st (.pair (.int .i64) (.pair (.str) (.sl (.int .i64))))) (.sl (.st (.pair (.int .i64) (.pair (.str) (.sl (.int .i64))))))))) a0) (hb0 : Kd.bulk (.st (.pair (.sl (.st (.pair (.int .i64) (.pair (.str) (.sl (.int .i64)))))) (.pair (.st (.pair (.int .i64) (.pair (.str) (.sl (.int .i64))))) (.sl (.st (.pair (.int .i64) (.pair (.str) (.sl (.int .i64))))))))) a0 ≤ 1048576) : laws_FnExactCanon.F n a0 = some true := by
 obtain ⟨w, hs, hi, hw⟩ := main_X hn a0 ho0 hb0
 unfold laws_FnExactCanon.F
 refine bind_some_of (sz_Rule hn _ (by first | omega | (simp only [Kd.bulk] at *; omega)) _) fun z1 => ?_
 split
 ·rfl
 refine bind_eq (to_Rule hn _ (by first | omega | (simp only [Kd.bulk] at *; omega))) ?_
 try dsimp only
 refine bind_eq hs ?_
 try dsimp only
 refine bind_eq (to_Rule hn _ (by first | omega | (simp only [Kd.bulk] at *; omega))) ?_
 try dsimp only
 refine bind_eq hi ?_
 try dsimp only
 refine bind_eq (eq_Rule hn _ (by first | omega | (simp only [Kd.bulk] at *; omega))) ?_
 try dsimp only
 rw [if_neg (by simp [seq_refl])]
 refine bind_eq (to_Rule hn _ (by first | omega | (simp only [Kd.bulk] at *; omega))) ?_
 try dsimp only
 refine bind_eq (eq_Rule hn _ (by first | omega | (simp only [Kd.bulk] at *; omega))) ?_
 try dsimp only
 rw [if_neg (by simp [seq_refl])]
 obtain ⟨q2, y2, a2, b2, c2, d2⟩ := mk_Rule hn a0 (by first | omega | (simp only [Kd.bulk] at *; omega)) 1 (by omega) (by first | omega | (simp only [Kd.bulk] at *; omega))
 refine bind_eq a2 ?_
 try dsimp only
 rw [if_pos (by simp only [decide_eq_false_iff_not]; omega)]
 refine bind_eq (eq_Rule hn _ (by first | omega | (simp only [Kd.bulk] at *; omega))) ?_
 try dsimp only
 rw [if_neg (by simp [seq_refl])]
 unfold laws_FnExactCanon.j0
 obtain ⟨q3, y3, a3, b3, c3, d3⟩ := mk_Rule hn w (by first | omega | (simp only [Kd.bulk] at *; omega)) 1 (by omega) (by first | omega | (simp only [Kd.bulk] at *; omega))
 refine bind_eq a3 ?_
 try dsimp only
 refine bind_eq d3 ?_
 try dsimp only
 rw [if_neg (by simp only [decide_eq_true_eq]; omega)]
 rw [if_neg (by simp [seq_refl])]
 refine bind_eq (to_Rule hn _ (by first | omega | (simp only [Kd.bulk] at *; omega))) ?_
 try dsimp only
 refine bind_eq hi ?_
 try dsimp only
 refine bind_eq (eq_Rule hn _ (by first | omega | (simp only [Kd.bulk] at *; omega))) ?_
 try dsimp only
 rw [if_neg (by simp [seq_refl])]
 refine bind_eq d3 ?_
 try dsimp only
 rw [if_neg (by simp only [decide_eq_true_eq]; omega)]
 rw [if_neg (by simp [seq_refl])]
 all_goals rfl
end Go.Abs
