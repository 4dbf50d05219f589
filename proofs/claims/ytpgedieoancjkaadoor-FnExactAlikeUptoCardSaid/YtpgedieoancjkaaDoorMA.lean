/- Alike: both sides. Conditions: none. -/
import Derived.Test.YtpgedieoancjkaaDoorHA
import Derived.Test.YtpgedieoancjkaaDoorMB
namespace Go.Abs
set_option linter.unusedVariables false
set_option linter.unusedSimpArgs false
theorem main_X {n : Nat} (hn : big ≤ n) (a b : Ru) (ho0 : Kd.okv KRu a) (hb0 : Kd.bulk KRu a ≤ 1048576) (ho1 : Kd.okv KRu b) (hb1 : Kd.bulk KRu b ≤ 1048576) :
  ∃ w, spec_Alike.F n a b = some w ∧ impl_Alike.F n a b = some w ∧ True := by
 have hn' : 1100000 ≤ n := by unfold big at hn; omega
 have Sa := (smT_of hb0).toSmR
 have Sb := (smT_of hb1).toSmR
 unfold spec_Alike.F impl_Alike.F
 rw [specText hn hb0, Option.bind_some, hasForm hn hb0, Option.bind_some]
 by_cases c1 : Abs.seq (textR a) ByteArray.empty = true
 ·rw [if_neg (by simp [c1]), if_neg (by simp [c1])]
  exact ⟨_, rfl, rfl, trivial⟩
 ·rw [if_pos (by simp [c1]), if_pos (by simp [c1]), specText hn hb1, Option.bind_some, hasForm hn hb1, Option.bind_some]
  by_cases c2 : Abs.seq (textR b) ByteArray.empty = true
  ·rw [if_neg (by simp [c2]), if_neg (by simp [c2])]
   exact ⟨_, rfl, rfl, trivial⟩
  ·have h1 := textR_few c1
   have h2 := textR_few c2
   have Sc := canonR_sm Sa (by omega) (bulk_le hb0)
   rw [if_pos (by simp [c2]), if_pos (by simp [c2]), specCanon_eq n hn' a Sa (by omega), Option.bind_some, specCanon_eq n hn' b Sb (by omega), Option.bind_some, specSame_eq n hn' _ _ Sc, Option.bind_some,
    implCanon_eq n hn' a Sa (by omega), Option.bind_some, implCanon_eq n hn' b Sb (by omega), Option.bind_some, implSame_eq n hn' _ _ Sc, Option.bind_some]
   exact ⟨_, rfl, rfl, trivial⟩
theorem law_laws_FnExactAlike {n : Nat} (hn : big ≤ n) (a0 : (List (Int × ByteArray × List Int)) × (Int × ByteArray × List Int) × List (Int × ByteArray × List Int)) (a1 : (List (Int × ByteArray × List Int)) × (Int × ByteArray × List Int) × List (Int × ByteArray × List Int)) (ho0 : Kd.okv (.st (.pair (.sl (.st (.pair (.int .i64) (.pair (.str) (.sl (.int .i64)))))) (.pair (.st (.pair (.int .i64) (.pair (.str) (.sl (.int .i64))))) (.sl (.st (.pair (.int .i64) (.pair (.str) (.sl (.int .i64))))))))) a0) (ho1 : Kd.okv (.st (.pair (.sl (.st (.pair (.int .i64) (.pair (.str) (.sl (.int .i64)))))) (.pair (.st (.pair (.int .i64) (.pair (.str) (.sl (.int .i64))))) (.sl (.st (.pair (.int .i64) (.pair (.str) (.sl (.int .i64))))))))) a1) (hb0 : Kd.bulk (.st (.pair (.sl (.st (.pair (.int .i64) (.pair (.str) (.sl (.int .i64)))))) (.pair (.st (.pair (.int .i64) (.pair (.str) (.sl (.int .i64))))) (.sl (.st (.pair (.int .i64) (.pair (.str) (.sl (.int .i64))))))))) a0 ≤ 1048576) (hb1 : Kd.bulk (.st (.pair (.sl (.st (.pair (.int .i64) (.pair (.str) (.sl (.int .i64)))))) (.pair (.st (.pair (.int .i64) (.pair (.str) (.sl (.int .i64))))) (.sl (.st (.pair (.int .i64) (.pair (.str) (.sl (.int .i64))))))))) a1 ≤ 1048576) : laws_FnExactAlike.F n a0 a1 = some true := by
 obtain ⟨w, hs, hi, hw⟩ := main_X hn a0 a1 ho0 hb0 ho1 hb1
 unfold laws_FnExactAlike.F
 refine bind_some_of (sz_Rule hn _ (by first | omega | (simp only [Kd.bulk] at *; omega)) _) fun z1 => ?_
 split
 ·rfl
 refine bind_some_of (sz_Rule hn _ (by first | omega | (simp only [Kd.bulk] at *; omega)) _) fun z2 => ?_
 split
 ·rfl
 refine bind_eq (to_Rule hn _ (by first | omega | (simp only [Kd.bulk] at *; omega))) ?_
 try dsimp only
 refine bind_eq (to_Rule hn _ (by first | omega | (simp only [Kd.bulk] at *; omega))) ?_
 try dsimp only
 refine bind_eq hs ?_
 try dsimp only
 refine bind_eq (to_Rule hn _ (by first | omega | (simp only [Kd.bulk] at *; omega))) ?_
 try dsimp only
 refine bind_eq (to_Rule hn _ (by first | omega | (simp only [Kd.bulk] at *; omega))) ?_
 try dsimp only
 refine bind_eq hi ?_
 try dsimp only
 rw [if_neg (by simp [seq_refl])]
 refine bind_eq (to_Rule hn _ (by first | omega | (simp only [Kd.bulk] at *; omega))) ?_
 try dsimp only
 refine bind_eq (eq_Rule hn _ (by first | omega | (simp only [Kd.bulk] at *; omega))) ?_
 try dsimp only
 rw [if_neg (by simp [seq_refl])]
 refine bind_eq (to_Rule hn _ (by first | omega | (simp only [Kd.bulk] at *; omega))) ?_
 try dsimp only
 refine bind_eq (eq_Rule hn _ (by first | omega | (simp only [Kd.bulk] at *; omega))) ?_
 try dsimp only
 rw [if_neg (by simp [seq_refl])]
 all_goals rfl
end Go.Abs
