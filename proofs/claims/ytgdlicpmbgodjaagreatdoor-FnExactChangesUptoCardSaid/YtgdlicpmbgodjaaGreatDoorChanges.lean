/- FnExactChanges: the program's Changes and the reference's answer alike, for all arguments within the bound. Conditions: none. -/
import Derived.Test.YtgdlicpmbgodjaaGreatDoorH
import Derived.Test.YtgdlicpmbgodjaaGreatDoorU2
namespace Go.Abs
set_option linter.unusedVariables false
set_option linter.unusedSimpArgs false

theorem main_Changes {n : Nat} (hn : big ≤ n) (a0 a1 : List (Int × List (List ByteArray))) (ho0 : Kd.okv (.st (.sl (.st (.pair (.int .i64) (.sl (.st (.sl (.str)))))))) a0) (hb0 : Kd.bulk (.st (.sl (.st (.pair (.int .i64) (.sl (.st (.sl (.str)))))))) a0 ≤ 1048576) (ho1 : Kd.okv (.st (.sl (.st (.pair (.int .i64) (.sl (.st (.sl (.str)))))))) a1) (hb1 : Kd.bulk (.st (.sl (.st (.pair (.int .i64) (.sl (.st (.sl (.str)))))))) a1 ≤ 1048576) :
    ∃ w, spec_Changes.F n a0 a1 = some w ∧ impl_Changes.F n a0 a1 = some w ∧ Kd.bulk (.sl (.st (.pair (.int .i64) (.pair (.st (.sl (.str))) (.bool))))) w.1 ≤ 2147483648 := by
  obtain ⟨h1, h2, h3⟩ := db_small a0 hb0
  obtain ⟨k1, k2, k3⟩ := db_small a1 hb1
  have hb : 1100000 ≤ n := by unfold big at hn; omega
  obtain ⟨w, w1, w2, w3⟩ := changes_eq n n hb hb a0 a1 h1 h2 h3 k1 k2 k3
  refine ⟨w, w1, w2, ?_⟩
  rcases w3 with rfl | ⟨rfl, A, B, _⟩
  · show 1 ≤ 2147483648
    omega
  · exact chs_bulk A B

theorem law_laws_FnExactChanges {n : Nat} (hn : big ≤ n) (a0 : List (Int × List (List ByteArray))) (a1 : List (Int × List (List ByteArray))) (ho0 : Kd.okv (.st (.sl (.st (.pair (.int .i64) (.sl (.st (.sl (.str)))))))) a0) (ho1 : Kd.okv (.st (.sl (.st (.pair (.int .i64) (.sl (.st (.sl (.str)))))))) a1) (hb0 : Kd.bulk (.st (.sl (.st (.pair (.int .i64) (.sl (.st (.sl (.str)))))))) a0 ≤ 1048576) (hb1 : Kd.bulk (.st (.sl (.st (.pair (.int .i64) (.sl (.st (.sl (.str)))))))) a1 ≤ 1048576) : laws_FnExactChanges.F n a0 a1 = some true := by
  obtain ⟨w, hs, hi, hw⟩ := main_Changes hn a0 a1 ho0 hb0 ho1 hb1
  unfold laws_FnExactChanges.F
  refine bind_some_of (sz_Db hn _ (by first | omega | (simp only [Kd.bulk] at *; omega)) _) fun z1 => ?_
  split
  · rfl
  refine bind_some_of (sz_Db hn _ (by first | omega | (simp only [Kd.bulk] at *; omega)) _) fun z2 => ?_
  split
  · rfl
  refine bind_eq (to_Db hn _ (by first | omega | (simp only [Kd.bulk] at *; omega))) ?_
  try dsimp only
  refine bind_eq (to_Db hn _ (by first | omega | (simp only [Kd.bulk] at *; omega))) ?_
  try dsimp only
  refine bind_eq hs ?_
  try dsimp only
  refine bind_eq (to_Db hn _ (by first | omega | (simp only [Kd.bulk] at *; omega))) ?_
  try dsimp only
  refine bind_eq (to_Db hn _ (by first | omega | (simp only [Kd.bulk] at *; omega))) ?_
  try dsimp only
  refine bind_eq hi ?_
  try dsimp only
  refine bind_eq (eq_ChangeS hn _ (by first | omega | (simp only [Kd.bulk] at *; omega))) ?_
  try dsimp only
  rw [if_pos (by simp [seq_refl])]
  rw [if_neg (by simp [seq_refl])]
  unfold laws_FnExactChanges.j0
  refine bind_eq (to_Db hn _ (by first | omega | (simp only [Kd.bulk] at *; omega))) ?_
  try dsimp only
  refine bind_eq (eq_Db hn _ (by first | omega | (simp only [Kd.bulk] at *; omega))) ?_
  try dsimp only
  rw [if_neg (by simp [seq_refl])]
  refine bind_eq (to_Db hn _ (by first | omega | (simp only [Kd.bulk] at *; omega))) ?_
  try dsimp only
  refine bind_eq (eq_Db hn _ (by first | omega | (simp only [Kd.bulk] at *; omega))) ?_
  try dsimp only
  rw [if_neg (by simp [seq_refl])]
  obtain ⟨q3, y3, a3, b3, c3⟩ := mk_Db hn a0 (by first | omega | (simp only [Kd.bulk] at *; omega)) 1 (by omega) (by first | omega | (simp only [Kd.bulk] at *; omega))
  refine bind_eq a3 ?_
  try dsimp only
  obtain ⟨q4, y4, a4, b4, c4⟩ := mk_Db hn a1 (by first | omega | (simp only [Kd.bulk] at *; omega)) q3 (by omega) (by first | omega | (simp only [Kd.bulk] at *; omega))
  refine bind_eq a4 ?_
  try dsimp only
  rw [if_pos (by simp only [decide_eq_false_iff_not]; omega)]
  refine bind_eq (eq_ChangeS hn _ (by first | omega | (simp only [Kd.bulk] at *; omega))) ?_
  try dsimp only
  rw [if_pos (by simp [seq_refl])]
  rw [if_neg (by simp [seq_refl])]
  unfold laws_FnExactChanges.j1
  obtain ⟨q5, y5, a5, b5, c5, d5⟩ := mk_ChangeS hn w.1 (by first | omega | (simp only [Kd.bulk] at *; omega)) 1 (by omega) (by first | omega | (simp only [Kd.bulk] at *; omega))
  refine bind_eq a5 ?_
  try dsimp only
  refine bind_eq d5 ?_
  try dsimp only
  rw [if_neg (by simp only [decide_eq_true_eq]; omega)]
  rw [if_neg (by simp [seq_refl])]
  refine bind_eq (to_Db hn _ (by first | omega | (simp only [Kd.bulk] at *; omega))) ?_
  try dsimp only
  refine bind_eq (to_Db hn _ (by first | omega | (simp only [Kd.bulk] at *; omega))) ?_
  try dsimp only
  refine bind_eq hi ?_
  try dsimp only
  refine bind_eq (eq_ChangeS hn _ (by first | omega | (simp only [Kd.bulk] at *; omega))) ?_
  try dsimp only
  rw [if_pos (by simp [seq_refl])]
  rw [if_neg (by simp [seq_refl])]
  unfold laws_FnExactChanges.j2
  refine bind_eq d5 ?_
  try dsimp only
  rw [if_neg (by simp only [decide_eq_true_eq]; omega)]
  rw [if_neg (by simp [seq_refl])]
  all_goals rfl


end Go.Abs
