/- FnExactGreatestBy: the program's GreatestBy and the reference's answer alike, for all arguments within the bound. Conditions: none. -/
import Derived.Test.YtgdlicpmbgodjaaGreatDoorH
import Derived.Test.YtgdlicpmbgodjaaGreatDoorE2G
namespace Go.Abs
set_option linter.unusedVariables false
set_option linter.unusedSimpArgs false
theorem main_GreatestBy {n : Nat} (hn : big ≤ n) (a0 : Int × List (List ByteArray)) (a1 : List Int) (ho0 : Kd.okv (.st (.pair (.int .i64) (.sl (.st (.sl (.str)))))) a0) (hb0 : Kd.bulk (.st (.pair (.int .i64) (.sl (.st (.sl (.str)))))) a0 ≤ 1048576) (ho1 : Kd.okv (.sl (.int .i64)) a1) (hb1 : Kd.bulk (.sl (.int .i64)) a1 ≤ 1048576) :
  ∃ w, spec_GreatestBy.F n a0 a1 = some w ∧ impl_GreatestBy.F n a0 a1 = some w ∧ Kd.bulk (.st (.pair (.int .i64) (.sl (.st (.sl (.str)))))) w ≤ 2147483648 := by
 obtain ⟨h1, h2⟩ := rel_small a0 hb0
 have h3 := bulk_len (e := .int .i64) a1
 have h4 : Kd.bulk (.sl (.int .i64)) a1 = (List.map (Kd.bulk (.int .i64)) a1).sum + 1 := rfl
 have hb : 1100000 ≤ n := by unfold big at hn; omega
 obtain ⟨w, w1, w2, w3⟩ := Greatest_eq n n hb hb a0 a1 (by omega) h1 h2
 refine ⟨w, w1, w2, ?_⟩
 rcases w3 with rfl | ⟨rfl, R⟩
 ·show 1 + 1 ≤ 2147483648
  omega
 ·exact ends_bulk R _
theorem law_laws_FnExactGreatestBy {n : Nat} (hn : big ≤ n) (a0 : Int × List (List ByteArray)) (a1 : List Int) (ho0 : Kd.okv (.st (.pair (.int .i64) (.sl (.st (.sl (.str)))))) a0) (ho1 : Kd.okv (.sl (.int .i64)) a1) (hb0 : Kd.bulk (.st (.pair (.int .i64) (.sl (.st (.sl (.str)))))) a0 ≤ 1048576) (hb1 : Kd.bulk (.sl (.int .i64)) a1 ≤ 1048576) : laws_FnExactGreatestBy.F n a0 a1 = some true := by
 obtain ⟨w, hs, hi, hw⟩ := main_GreatestBy hn a0 a1 ho0 hb0 ho1 hb1
 unfold laws_FnExactGreatestBy.F
 split
 ·rfl
 refine bind_some_of (sz_Rel hn _ (by first | omega | (simp only [Kd.bulk] at *; omega)) _) fun z1 => ?_
 split
 ·rfl
 refine bind_eq (to_Rel hn _ (by first | omega | (simp only [Kd.bulk] at *; omega))) ?_
 try dsimp only
 refine bind_eq (to_IntS hn _ (by first | omega | (simp only [Kd.bulk] at *; omega))) ?_
 try dsimp only
 refine bind_eq hs ?_
 try dsimp only
 refine bind_eq (to_Rel hn _ (by first | omega | (simp only [Kd.bulk] at *; omega))) ?_
 try dsimp only
 refine bind_eq (to_IntS hn _ (by first | omega | (simp only [Kd.bulk] at *; omega))) ?_
 try dsimp only
 refine bind_eq hi ?_
 try dsimp only
 refine bind_eq (eq_Rel hn _ (by first | omega | (simp only [Kd.bulk] at *; omega))) ?_
 try dsimp only
 rw [if_neg (by simp [seq_refl])]
 refine bind_eq (to_Rel hn _ (by first | omega | (simp only [Kd.bulk] at *; omega))) ?_
 try dsimp only
 refine bind_eq (eq_Rel hn _ (by first | omega | (simp only [Kd.bulk] at *; omega))) ?_
 try dsimp only
 rw [if_neg (by simp [seq_refl])]
 refine bind_eq (to_IntS hn _ (by first | omega | (simp only [Kd.bulk] at *; omega))) ?_
 try dsimp only
 refine bind_eq (eq_IntS hn _ (by first | omega | (simp only [Kd.bulk] at *; omega))) ?_
 try dsimp only
 rw [if_neg (by simp [seq_refl])]
 obtain ⟨q2, y2, a2, b2, c2, d2⟩ := mk_Rel hn a0 (by first | omega | (simp only [Kd.bulk] at *; omega)) 1 (by omega) (by first | omega | (simp only [Kd.bulk] at *; omega))
 refine bind_eq a2 ?_
 try dsimp only
 obtain ⟨q3, y3, a3, b3, c3⟩ := mk_IntS hn a1 (by first | omega | (simp only [Kd.bulk] at *; omega)) q2 (by omega) (by first | omega | (simp only [Kd.bulk] at *; omega))
 refine bind_eq a3 ?_
 try dsimp only
 rw [if_pos (by simp only [decide_eq_false_iff_not]; omega)]
 refine bind_eq (eq_Rel hn _ (by first | omega | (simp only [Kd.bulk] at *; omega))) ?_
 try dsimp only
 rw [if_neg (by simp [seq_refl])]
 unfold laws_FnExactGreatestBy.j0
 obtain ⟨q4, y4, a4, b4, c4, d4⟩ := mk_Rel hn w (by first | omega | (simp only [Kd.bulk] at *; omega)) 1 (by omega) (by first | omega | (simp only [Kd.bulk] at *; omega))
 refine bind_eq a4 ?_
 try dsimp only
 refine bind_eq d4 ?_
 try dsimp only
 rw [if_neg (by simp only [decide_eq_true_eq]; omega)]
 rw [if_neg (by simp [seq_refl])]
 refine bind_eq (to_Rel hn _ (by first | omega | (simp only [Kd.bulk] at *; omega))) ?_
 try dsimp only
 refine bind_eq (to_IntS hn _ (by first | omega | (simp only [Kd.bulk] at *; omega))) ?_
 try dsimp only
 refine bind_eq hi ?_
 try dsimp only
 refine bind_eq (eq_Rel hn _ (by first | omega | (simp only [Kd.bulk] at *; omega))) ?_
 try dsimp only
 rw [if_neg (by simp [seq_refl])]
 refine bind_eq d4 ?_
 try dsimp only
 rw [if_neg (by simp only [decide_eq_true_eq]; omega)]
 rw [if_neg (by simp [seq_refl])]
 all_goals rfl
end Go.Abs
