/- FnExactInlines: the program's Inlines and the reference's answer alike, for all arguments within the bound. Conditions: none. -/
import Derived.Test.YtmpickbajdimdaaH
namespace Go.Abs
set_option linter.unusedVariables false
set_option linter.unusedSimpArgs false

def inlF : Nat → List (ByteArray × (List ByteArray) × Int) → List Int
  | _, [] => []
  | i, x :: l => if x.2.2 = 3 then (i : Int) :: inlF (i + 1) l else inlF (i + 1) l

theorem inlF_len : ∀ (l : List (ByteArray × (List ByteArray) × Int)) (i : Nat), (inlF i l).length ≤ l.length
  | [], _ => Nat.le_refl _
  | x :: l, i => by
    have := inlF_len l (i + 1)
    unfold inlF
    split
    · simp; omega
    · simp; omega

theorem spec_inl {n : Nat} (p) {K0 : List Int → Option (List Int)} : ∀ (post pre : List (ByteArray × (List ByteArray) × Int)) (k : Nat) (out : List Int), p.2.1 = pre ++ post → post.length < k → pre.length + post.length ≤ 1048576 → out.length ≤ pre.length →
    spec_Inlines.l0 n p K0 k (pre.length : Int) out = K0 (out ++ inlF pre.length post) := by
  intro post
  induction post with
  | nil =>
    intro pre k out hp hk hl ho
    obtain ⟨k, rfl⟩ : ∃ m, k = m + 1 := ⟨k - 1, by omega⟩
    rw [spec_Inlines.l0, hp]
    simp only [decide_eq_true_eq, end_lt, if_false, inlF]
    rw [List.append_nil]
  | cons x post ih =>
    intro pre k out hp hk hl ho
    simp only [List.length_cons] at hk hl
    obtain ⟨k, rfl⟩ : ∃ m, k = m + 1 := ⟨k - 1, by omega⟩
    have hw : IntKind.i64.wrap ((pre.length : Int) + 1) = ((pre ++ [x]).length : Int) := by
      rw [wrap64 _ (by omega) (by omega)]; simp
    have hl1 : (pre ++ [x]).length = pre.length + 1 := by simp
    have hlim : List.length out + List.length [(pre.length : Int)] ≤ lim := by simp only [List.length_singleton]; unfold lim; omega
    rw [spec_Inlines.l0, hp]
    simp only [decide_eq_true_eq, mid_lt, nn, and_true, if_true, Int.toNat_natCast, getD_mid, hw, inlF]
    rw [← hl1]
    by_cases hx : x.2.2 = 3
    · rw [if_pos hx, if_pos hx, if_pos hlim, ih (pre ++ [x]) k _ (by rw [hp]; simp) (by omega) (by simp; omega) (by simp; omega)]
      simp
    · rw [if_neg hx, if_neg hx, ih (pre ++ [x]) k _ (by rw [hp]; simp) (by omega) (by simp; omega) (by simp; omega)]

theorem impl_inl {n : Nat} (a : List (ByteArray × (List ByteArray) × Int)) {K0 : List Int → Option (List Int)} : ∀ (post pre : List (ByteArray × (List ByteArray) × Int)) (k : Nat) (out : List Int), a = pre ++ post → post.length < k → pre.length + post.length ≤ 1048576 → out.length ≤ pre.length →
    impl_Prog_inlines.l0 n a (a.length : Int) K0 k (pre.length : Int) out = K0 (out ++ inlF pre.length post) := by
  intro post
  induction post with
  | nil =>
    intro pre k out hp hk hl ho
    obtain ⟨k, rfl⟩ : ∃ m, k = m + 1 := ⟨k - 1, by omega⟩
    rw [impl_Prog_inlines.l0, hp, List.append_nil]
    simp only [decide_eq_true_eq, inlF]
    rw [if_neg (by omega), List.append_nil]
  | cons x post ih =>
    intro pre k out hp hk hl ho
    simp only [List.length_cons] at hk hl
    obtain ⟨k, rfl⟩ : ∃ m, k = m + 1 := ⟨k - 1, by omega⟩
    have hw : IntKind.i64.wrap ((pre.length : Int) + 1) = ((pre ++ [x]).length : Int) := by
      rw [wrap64 _ (by omega) (by omega)]; simp
    have hl1 : (pre ++ [x]).length = pre.length + 1 := by simp
    have hlim : List.length out + List.length [(pre.length : Int)] ≤ lim := by simp only [List.length_singleton]; unfold lim; omega
    have i1 := fun out ho => ih (pre ++ [x]) k out (by rw [hp]; simp) (by omega) (by simp; omega) ho
    subst hp
    simp only [impl_Prog_inlines.l0, decide_eq_true_eq, mid_lt, nn, and_true, if_true, Int.toNat_natCast, getD_mid, hw, inlF]
    rw [← hl1]
    by_cases hx : x.2.2 = 3
    · rw [if_pos hx, if_pos hx, if_pos hlim, i1 _ (by simp; omega)]
      simp
    · rw [if_neg hx, if_neg hx, i1 _ (by simp; omega)]

theorem main_Inlines {n : Nat} (hn : big ≤ n) (a0 : Kd.T ((.st (.pair (.sl (.st (.pair (.str) (.sl (.st (.pair (.str) (.sl (.str)))))))) (.pair (.sl (.st (.pair (.str) (.pair (.sl (.str)) (.int .i64))))) (.sl (.st (.pair (.sl (.st (.pair (.int .i64) (.pair (.str) (.sl (.int .i64)))))) (.pair (.st (.pair (.int .i64) (.pair (.str) (.sl (.int .i64))))) (.sl (.st (.pair (.int .i64) (.pair (.str) (.sl (.int .i64))))))))))))))) (ho0 : Kd.okv ((.st (.pair (.sl (.st (.pair (.str) (.sl (.st (.pair (.str) (.sl (.str)))))))) (.pair (.sl (.st (.pair (.str) (.pair (.sl (.str)) (.int .i64))))) (.sl (.st (.pair (.sl (.st (.pair (.int .i64) (.pair (.str) (.sl (.int .i64)))))) (.pair (.st (.pair (.int .i64) (.pair (.str) (.sl (.int .i64))))) (.sl (.st (.pair (.int .i64) (.pair (.str) (.sl (.int .i64)))))))))))))) a0) (hb0 : Kd.bulk ((.st (.pair (.sl (.st (.pair (.str) (.sl (.st (.pair (.str) (.sl (.str)))))))) (.pair (.sl (.st (.pair (.str) (.pair (.sl (.str)) (.int .i64))))) (.sl (.st (.pair (.sl (.st (.pair (.int .i64) (.pair (.str) (.sl (.int .i64)))))) (.pair (.st (.pair (.int .i64) (.pair (.str) (.sl (.int .i64))))) (.sl (.st (.pair (.int .i64) (.pair (.str) (.sl (.int .i64)))))))))))))) a0 ≤ 1048576) :
    ∃ w, spec_Inlines.F n a0 = some w ∧ impl_Inlines.F n a0 = some w ∧ Kd.bulk (.sl (.int .i64)) w ≤ 2147483648 := by
  have hl : a0.2.1.length ≤ 1048576 := by
    have h1 := bulk_len (e := .st (.pair (.str) (.pair (.sl (.str)) (.int .i64)))) a0.2.1
    simp only [Kd.bulk] at hb0 h1
    omega
  have hs : ∀ l : List Int, (List.map (Kd.bulk (.int .i64)) l).sum = l.length := by
    intro l
    induction l with
    | nil => rfl
    | cons x l ih =>
      have h1 : Kd.bulk (.int .i64) x = 1 := rfl
      rw [List.map_cons, List.sum_cons, ih, h1, List.length_cons]; omega
  refine ⟨inlF 0 a0.2.1, ?_, ?_, ?_⟩
  · unfold spec_Inlines.F
    have := spec_inl (n := n) a0 (K0 := some) a0.2.1 [] n [] rfl (by unfold big at hn; omega) (by simp; omega) (by simp)
    simpa using this
  · unfold impl_Inlines.F impl_Prog_inlines.F
    have := impl_inl (n := n) a0.2.1 (K0 := some) a0.2.1 [] n [] rfl (by unfold big at hn; omega) (by simp; omega) (by simp)
    refine bind_eq (a := inlF 0 a0.2.1) ?_ rfl
    simpa using this
  · rw [bulk_sl, hs]
    have := inlF_len a0.2.1 0
    omega
theorem law_laws_FnExactInlines {n : Nat} (hn : big ≤ n) (a0 : (List (ByteArray × List (ByteArray × List ByteArray))) × (List (ByteArray × (List ByteArray) × Int)) × List ((List (Int × ByteArray × List Int)) × (Int × ByteArray × List Int) × List (Int × ByteArray × List Int))) (ho0 : Kd.okv (.st (.pair (.sl (.st (.pair (.str) (.sl (.st (.pair (.str) (.sl (.str)))))))) (.pair (.sl (.st (.pair (.str) (.pair (.sl (.str)) (.int .i64))))) (.sl (.st (.pair (.sl (.st (.pair (.int .i64) (.pair (.str) (.sl (.int .i64)))))) (.pair (.st (.pair (.int .i64) (.pair (.str) (.sl (.int .i64))))) (.sl (.st (.pair (.int .i64) (.pair (.str) (.sl (.int .i64))))))))))))) a0) (hb0 : Kd.bulk (.st (.pair (.sl (.st (.pair (.str) (.sl (.st (.pair (.str) (.sl (.str)))))))) (.pair (.sl (.st (.pair (.str) (.pair (.sl (.str)) (.int .i64))))) (.sl (.st (.pair (.sl (.st (.pair (.int .i64) (.pair (.str) (.sl (.int .i64)))))) (.pair (.st (.pair (.int .i64) (.pair (.str) (.sl (.int .i64))))) (.sl (.st (.pair (.int .i64) (.pair (.str) (.sl (.int .i64))))))))))))) a0 ≤ 1048576) : laws_FnExactInlines.F n a0 = some true := by
  obtain ⟨w, hs, hi, hw⟩ := main_Inlines hn a0 ho0 hb0
  unfold laws_FnExactInlines.F
  refine bind_some_of (sz_Prog hn _ (by first | omega | (simp only [Kd.bulk] at *; omega)) _) fun z1 => ?_
  split
  · rfl
  refine bind_eq (to_Prog hn _ (by first | omega | (simp only [Kd.bulk] at *; omega))) ?_
  try dsimp only
  refine bind_eq hs ?_
  try dsimp only
  refine bind_eq (to_Prog hn _ (by first | omega | (simp only [Kd.bulk] at *; omega))) ?_
  try dsimp only
  refine bind_eq hi ?_
  try dsimp only
  refine bind_eq (eq_IntS hn _ (by first | omega | (simp only [Kd.bulk] at *; omega))) ?_
  try dsimp only
  rw [if_neg (by simp [seq_refl])]
  refine bind_eq (to_Prog hn _ (by first | omega | (simp only [Kd.bulk] at *; omega))) ?_
  try dsimp only
  refine bind_eq (eq_Prog hn _ (by first | omega | (simp only [Kd.bulk] at *; omega))) ?_
  try dsimp only
  rw [if_neg (by simp [seq_refl])]
  obtain ⟨q2, y2, a2, b2, c2⟩ := mk_Prog hn a0 (by first | omega | (simp only [Kd.bulk] at *; omega)) 1 (by omega) (by first | omega | (simp only [Kd.bulk] at *; omega))
  refine bind_eq a2 ?_
  try dsimp only
  rw [if_pos (by simp only [decide_eq_false_iff_not]; omega)]
  refine bind_eq (eq_IntS hn _ (by first | omega | (simp only [Kd.bulk] at *; omega))) ?_
  try dsimp only
  rw [if_neg (by simp [seq_refl])]
  unfold laws_FnExactInlines.j0
  obtain ⟨q3, y3, a3, b3, c3, d3⟩ := mk_IntS hn w (by first | omega | (simp only [Kd.bulk] at *; omega)) 1 (by omega) (by first | omega | (simp only [Kd.bulk] at *; omega))
  refine bind_eq a3 ?_
  try dsimp only
  refine bind_eq d3 ?_
  try dsimp only
  rw [if_neg (by simp only [decide_eq_true_eq]; omega)]
  rw [if_neg (by simp [seq_refl])]
  refine bind_eq (to_Prog hn _ (by first | omega | (simp only [Kd.bulk] at *; omega))) ?_
  try dsimp only
  refine bind_eq hi ?_
  try dsimp only
  refine bind_eq (eq_IntS hn _ (by first | omega | (simp only [Kd.bulk] at *; omega))) ?_
  try dsimp only
  rw [if_neg (by simp [seq_refl])]
  refine bind_eq d3 ?_
  try dsimp only
  rw [if_neg (by simp only [decide_eq_true_eq]; omega)]
  rw [if_neg (by simp [seq_refl])]
  all_goals rfl


end Go.Abs
