/- What the laws' helpers answer. Conditions: none. -/
import Derived.Test.YtdjdgempjnlkeaaF1
import Derived.Test.YtdjdgempjnlkeaaPl
namespace Go.Abs
set_option linter.unusedVariables false
set_option linter.unusedSimpArgs false
theorem sz_IntS {n : Nat} (hn : big ≤ n) (a : List Int) (hb : Kd.bulk (.sl (.int .i64)) a ≤ 2147483648) (left : Int) : ∃ r, laws_szIntS.F n a left = some r := by
 unfold laws_szIntS.F
 split
 ·exact ⟨_, rfl⟩
 exact ⟨_, rfl⟩
theorem sz_Exp {n : Nat} (hn : big ≤ n) (a : Int × ByteArray × List Int) (hb : Kd.bulk (.st (.pair (.int .i64) (.pair (.str) (.sl (.int .i64))))) a ≤ 2147483648) (left : Int) : ∃ r, laws_szExp.F n a left = some r := by
 unfold laws_szExp.F
 split
 ·exact ⟨_, rfl⟩
 refine bind_total (sz_IntS hn _ (by simp only [Kd.bulk] at hb ⊢; omega) _) (fun r => ?_)
 try dsimp only
 split
 ·exact ⟨_, rfl⟩
 exact ⟨_, rfl⟩
theorem sz_ExpS_l {n : Nat} (hn : big ≤ n) (a : List (Int × ByteArray × List Int)) (hb : ∀ x, x ∈ a → Kd.bulk (.st (.pair (.int .i64) (.pair (.str) (.sl (.int .i64))))) x ≤ 2147483648) (hl : List.length a ≤ 2147483648) {K0 : Int → Option Int} (hK : ∀ x, ∃ r, K0 x = some r) : ∀ (d k : Nat) (left i : Int), 0 ≤ i → (List.length a : Int) - i = d → d < k → ∃ r, laws_szExpS.l0 n a K0 k left i = some r := by
 intro d
 induction d with
 | zero =>
  intro k left i h0 h1 hk
  obtain ⟨k, rfl⟩ : ∃ m, k = m + 1 := ⟨k - 1, by omega⟩
  simp only [laws_szExpS.l0, decide_eq_true_eq]
  rw [if_neg (by omega)]
  exact hK _
 | succ d ih =>
  intro k left i h0 h1 hk
  obtain ⟨k, rfl⟩ : ∃ m, k = m + 1 := ⟨k - 1, by omega⟩
  have hw : IntKind.i64.wrap (i + 1) = i + 1 := wrap64 _ (by omega) (by omega)
  have hx := hb _ (getD_mem' a i (0, (ByteArray.empty, [])) h0 (by omega))
  simp only [laws_szExpS.l0, decide_eq_true_eq, hw]
  rw [if_pos (by omega), if_pos ⟨h0, by omega⟩]
  repeat' first | exact ⟨_, rfl⟩ | exact ih _ _ _ (by omega) (by omega) (by omega) | split | refine bind_total (sz_Exp hn _ hx _) (fun r => ?_)
theorem sz_ExpS {n : Nat} (hn : big ≤ n) (a : List (Int × ByteArray × List Int)) (hb : Kd.bulk (.sl (.st (.pair (.int .i64) (.pair (.str) (.sl (.int .i64)))))) a ≤ 2147483648) (left : Int) : ∃ r, laws_szExpS.F n a left = some r := by
 have hs := bulk_sl (e := .st (.pair (.int .i64) (.pair (.str) (.sl (.int .i64))))) a
 have hl := bulk_len (e := .st (.pair (.int .i64) (.pair (.str) (.sl (.int .i64))))) a
 have hm : ∀ x, x ∈ a → Kd.bulk (.st (.pair (.int .i64) (.pair (.str) (.sl (.int .i64))))) x ≤ 2147483648 := fun x hx => by have := bulk_mem (e := .st (.pair (.int .i64) (.pair (.str) (.sl (.int .i64))))) hx; omega
 unfold laws_szExpS.F
 repeat' first | exact ⟨_, rfl⟩ | exact sz_ExpS_l hn a hm (by omega) (fun x => ⟨_, rfl⟩) (List.length a) n _ 0 (by omega) (by omega) (by unfold big at hn; omega) | split
theorem sz_Lit {n : Nat} (hn : big ≤ n) (a : Int × ByteArray × List Int) (hb : Kd.bulk (.st (.pair (.int .i64) (.pair (.str) (.sl (.int .i64))))) a ≤ 2147483648) (left : Int) : ∃ r, laws_szLit.F n a left = some r := by
 unfold laws_szLit.F
 split
 ·exact ⟨_, rfl⟩
 refine bind_total (sz_IntS hn _ (by simp only [Kd.bulk] at hb ⊢; omega) _) (fun r => ?_)
 try dsimp only
 split
 ·exact ⟨_, rfl⟩
 exact ⟨_, rfl⟩
theorem sz_LitS_l {n : Nat} (hn : big ≤ n) (a : List (Int × ByteArray × List Int)) (hb : ∀ x, x ∈ a → Kd.bulk (.st (.pair (.int .i64) (.pair (.str) (.sl (.int .i64))))) x ≤ 2147483648) (hl : List.length a ≤ 2147483648) {K0 : Int → Option Int} (hK : ∀ x, ∃ r, K0 x = some r) : ∀ (d k : Nat) (left i : Int), 0 ≤ i → (List.length a : Int) - i = d → d < k → ∃ r, laws_szLitS.l0 n a K0 k left i = some r := by
 intro d
 induction d with
 | zero =>
  intro k left i h0 h1 hk
  obtain ⟨k, rfl⟩ : ∃ m, k = m + 1 := ⟨k - 1, by omega⟩
  simp only [laws_szLitS.l0, decide_eq_true_eq]
  rw [if_neg (by omega)]
  exact hK _
 | succ d ih =>
  intro k left i h0 h1 hk
  obtain ⟨k, rfl⟩ : ∃ m, k = m + 1 := ⟨k - 1, by omega⟩
  have hw : IntKind.i64.wrap (i + 1) = i + 1 := wrap64 _ (by omega) (by omega)
  have hx := hb _ (getD_mem' a i (0, (ByteArray.empty, [])) h0 (by omega))
  simp only [laws_szLitS.l0, decide_eq_true_eq, hw]
  rw [if_pos (by omega), if_pos ⟨h0, by omega⟩]
  repeat' first | exact ⟨_, rfl⟩ | exact ih _ _ _ (by omega) (by omega) (by omega) | split | refine bind_total (sz_Lit hn _ hx _) (fun r => ?_)
theorem sz_LitS {n : Nat} (hn : big ≤ n) (a : List (Int × ByteArray × List Int)) (hb : Kd.bulk (.sl (.st (.pair (.int .i64) (.pair (.str) (.sl (.int .i64)))))) a ≤ 2147483648) (left : Int) : ∃ r, laws_szLitS.F n a left = some r := by
 have hs := bulk_sl (e := .st (.pair (.int .i64) (.pair (.str) (.sl (.int .i64))))) a
 have hl := bulk_len (e := .st (.pair (.int .i64) (.pair (.str) (.sl (.int .i64))))) a
 have hm : ∀ x, x ∈ a → Kd.bulk (.st (.pair (.int .i64) (.pair (.str) (.sl (.int .i64))))) x ≤ 2147483648 := fun x hx => by have := bulk_mem (e := .st (.pair (.int .i64) (.pair (.str) (.sl (.int .i64))))) hx; omega
 unfold laws_szLitS.F
 repeat' first | exact ⟨_, rfl⟩ | exact sz_LitS_l hn a hm (by omega) (fun x => ⟨_, rfl⟩) (List.length a) n _ 0 (by omega) (by omega) (by unfold big at hn; omega) | split
theorem sz_Rule {n : Nat} (hn : big ≤ n) (a : (List (Int × ByteArray × List Int)) × (Int × ByteArray × List Int) × List (Int × ByteArray × List Int)) (hb : Kd.bulk (.st (.pair (.sl (.st (.pair (.int .i64) (.pair (.str) (.sl (.int .i64)))))) (.pair (.st (.pair (.int .i64) (.pair (.str) (.sl (.int .i64))))) (.sl (.st (.pair (.int .i64) (.pair (.str) (.sl (.int .i64))))))))) a ≤ 2147483648) (left : Int) : ∃ r, laws_szRule.F n a left = some r := by
 unfold laws_szRule.F
 refine bind_total (sz_ExpS hn _ (by simp only [Kd.bulk] at hb ⊢; omega) _) (fun r => ?_)
 try dsimp only
 split
 ·exact ⟨_, rfl⟩
 refine bind_total (sz_Lit hn _ (by simp only [Kd.bulk] at hb ⊢; omega) _) (fun r => ?_)
 try dsimp only
 split
 ·exact ⟨_, rfl⟩
 refine bind_total (sz_LitS hn _ (by simp only [Kd.bulk] at hb ⊢; omega) _) (fun r => ?_)
 try dsimp only
 split
 ·exact ⟨_, rfl⟩
 exact ⟨_, rfl⟩
theorem to_IntS_l {n : Nat} (hn : big ≤ n) (a : List Int) (hl : List.length a ≤ 2147483648) (hb : ∀ x, x ∈ a → Kd.bulk (.int .i64) x ≤ 2147483648) {K0 : (List Int) → Option (List Int)} : ∀ (post pre junk : List Int) (k : Nat), a = pre ++ post → junk.length = post.length → post.length < k → laws_toIntS.l0 n a K0 k (pre.length : Int) (pre ++ junk) = K0 a := by
 intro post
 induction post with
 | nil =>
  intro pre junk k ha hj hk
  obtain ⟨k, rfl⟩ : ∃ m, k = m + 1 := ⟨k - 1, by omega⟩
  obtain rfl : junk = [] := List.length_eq_zero_iff.1 hj
  subst ha
  simp only [laws_toIntS.l0, decide_eq_true_eq, end_lt, if_false]
 | cons x post ih =>
  intro pre junk k ha hj hk
  obtain ⟨k, rfl⟩ : ∃ m, k = m + 1 := ⟨k - 1, by omega⟩
  match junk, hj with
  | y :: junk, hj =>
   have hw : IntKind.i64.wrap ((pre.length : Int) + 1) = ((pre ++ [x]).length : Int) := by
    rw [wrap64 _ (by omega) (by rw [ha] at hl; simp at hl; omega)]; simp
   have hx := hb x (by rw [ha]; simp)
   have := ih (pre ++ [x]) junk k (by rw [ha]; simp) (by simpa using hj) (by simpa using hk)
   subst ha
   simp only [laws_toIntS.l0, decide_eq_true_eq, mid_lt, mid_in, if_true, Int.toNat_natCast, getD_mid, set_mid, hw, Option.bind_some]
   simpa using this
theorem to_IntS {n : Nat} (hn : big ≤ n) (a : List Int) (hb : Kd.bulk (.sl (.int .i64)) a ≤ 2147483648) : laws_toIntS.F n a = some a := by
 have hs := bulk_sl (e := .int .i64) a
 have hl := bulk_len (e := .int .i64) a
 have hm : ∀ x, x ∈ a → Kd.bulk (.int .i64) x ≤ 2147483648 := fun x hx => by have := bulk_mem (e := .int .i64) hx; omega
 unfold laws_toIntS.F
 rw [if_pos ⟨by omega, by omega, by unfold lim; omega⟩]
 exact to_IntS_l hn a (by omega) hm a [] _ n rfl (by simp) (by unfold big at hn; omega)
theorem to_Exp {n : Nat} (hn : big ≤ n) (a : Int × ByteArray × List Int) (hb : Kd.bulk (.st (.pair (.int .i64) (.pair (.str) (.sl (.int .i64))))) a ≤ 2147483648) : laws_toExp.F n a = some a := by
 unfold laws_toExp.F
 refine bind_eq (to_IntS hn _ (by simp only [Kd.bulk] at hb ⊢; omega)) ?_
 rfl
theorem to_ExpS_l {n : Nat} (hn : big ≤ n) (a : List (Int × ByteArray × List Int)) (hl : List.length a ≤ 2147483648) (hb : ∀ x, x ∈ a → Kd.bulk (.st (.pair (.int .i64) (.pair (.str) (.sl (.int .i64))))) x ≤ 2147483648) {K0 : (List (Int × ByteArray × List Int)) → Option (List (Int × ByteArray × List Int))} : ∀ (post pre junk : List (Int × ByteArray × List Int)) (k : Nat), a = pre ++ post → junk.length = post.length → post.length < k → laws_toExpS.l0 n a K0 k (pre.length : Int) (pre ++ junk) = K0 a := by
 intro post
 induction post with
 | nil =>
  intro pre junk k ha hj hk
  obtain ⟨k, rfl⟩ : ∃ m, k = m + 1 := ⟨k - 1, by omega⟩
  obtain rfl : junk = [] := List.length_eq_zero_iff.1 hj
  subst ha
  simp only [laws_toExpS.l0, decide_eq_true_eq, end_lt, if_false]
 | cons x post ih =>
  intro pre junk k ha hj hk
  obtain ⟨k, rfl⟩ : ∃ m, k = m + 1 := ⟨k - 1, by omega⟩
  match junk, hj with
  | y :: junk, hj =>
   have hw : IntKind.i64.wrap ((pre.length : Int) + 1) = ((pre ++ [x]).length : Int) := by
    rw [wrap64 _ (by omega) (by rw [ha] at hl; simp at hl; omega)]; simp
   have hx := hb x (by rw [ha]; simp)
   have := ih (pre ++ [x]) junk k (by rw [ha]; simp) (by simpa using hj) (by simpa using hk)
   subst ha
   simp only [laws_toExpS.l0, decide_eq_true_eq, mid_lt, mid_in, if_true, Int.toNat_natCast, getD_mid, set_mid, hw, to_Exp hn x hx, Option.bind_some]
   simpa using this
theorem to_ExpS {n : Nat} (hn : big ≤ n) (a : List (Int × ByteArray × List Int)) (hb : Kd.bulk (.sl (.st (.pair (.int .i64) (.pair (.str) (.sl (.int .i64)))))) a ≤ 2147483648) : laws_toExpS.F n a = some a := by
 have hs := bulk_sl (e := .st (.pair (.int .i64) (.pair (.str) (.sl (.int .i64))))) a
 have hl := bulk_len (e := .st (.pair (.int .i64) (.pair (.str) (.sl (.int .i64))))) a
 have hm : ∀ x, x ∈ a → Kd.bulk (.st (.pair (.int .i64) (.pair (.str) (.sl (.int .i64))))) x ≤ 2147483648 := fun x hx => by have := bulk_mem (e := .st (.pair (.int .i64) (.pair (.str) (.sl (.int .i64))))) hx; omega
 unfold laws_toExpS.F
 rw [if_pos ⟨by omega, by omega, by unfold lim; omega⟩]
 exact to_ExpS_l hn a (by omega) hm a [] _ n rfl (by simp) (by unfold big at hn; omega)
theorem to_Lit {n : Nat} (hn : big ≤ n) (a : Int × ByteArray × List Int) (hb : Kd.bulk (.st (.pair (.int .i64) (.pair (.str) (.sl (.int .i64))))) a ≤ 2147483648) : laws_toLit.F n a = some a := by
 unfold laws_toLit.F
 refine bind_eq (to_IntS hn _ (by simp only [Kd.bulk] at hb ⊢; omega)) ?_
 rfl
theorem to_LitS_l {n : Nat} (hn : big ≤ n) (a : List (Int × ByteArray × List Int)) (hl : List.length a ≤ 2147483648) (hb : ∀ x, x ∈ a → Kd.bulk (.st (.pair (.int .i64) (.pair (.str) (.sl (.int .i64))))) x ≤ 2147483648) {K0 : (List (Int × ByteArray × List Int)) → Option (List (Int × ByteArray × List Int))} : ∀ (post pre junk : List (Int × ByteArray × List Int)) (k : Nat), a = pre ++ post → junk.length = post.length → post.length < k → laws_toLitS.l0 n a K0 k (pre.length : Int) (pre ++ junk) = K0 a := by
 intro post
 induction post with
 | nil =>
  intro pre junk k ha hj hk
  obtain ⟨k, rfl⟩ : ∃ m, k = m + 1 := ⟨k - 1, by omega⟩
  obtain rfl : junk = [] := List.length_eq_zero_iff.1 hj
  subst ha
  simp only [laws_toLitS.l0, decide_eq_true_eq, end_lt, if_false]
 | cons x post ih =>
  intro pre junk k ha hj hk
  obtain ⟨k, rfl⟩ : ∃ m, k = m + 1 := ⟨k - 1, by omega⟩
  match junk, hj with
  | y :: junk, hj =>
   have hw : IntKind.i64.wrap ((pre.length : Int) + 1) = ((pre ++ [x]).length : Int) := by
    rw [wrap64 _ (by omega) (by rw [ha] at hl; simp at hl; omega)]; simp
   have hx := hb x (by rw [ha]; simp)
   have := ih (pre ++ [x]) junk k (by rw [ha]; simp) (by simpa using hj) (by simpa using hk)
   subst ha
   simp only [laws_toLitS.l0, decide_eq_true_eq, mid_lt, mid_in, if_true, Int.toNat_natCast, getD_mid, set_mid, hw, to_Lit hn x hx, Option.bind_some]
   simpa using this
theorem to_LitS {n : Nat} (hn : big ≤ n) (a : List (Int × ByteArray × List Int)) (hb : Kd.bulk (.sl (.st (.pair (.int .i64) (.pair (.str) (.sl (.int .i64)))))) a ≤ 2147483648) : laws_toLitS.F n a = some a := by
 have hs := bulk_sl (e := .st (.pair (.int .i64) (.pair (.str) (.sl (.int .i64))))) a
 have hl := bulk_len (e := .st (.pair (.int .i64) (.pair (.str) (.sl (.int .i64))))) a
 have hm : ∀ x, x ∈ a → Kd.bulk (.st (.pair (.int .i64) (.pair (.str) (.sl (.int .i64))))) x ≤ 2147483648 := fun x hx => by have := bulk_mem (e := .st (.pair (.int .i64) (.pair (.str) (.sl (.int .i64))))) hx; omega
 unfold laws_toLitS.F
 rw [if_pos ⟨by omega, by omega, by unfold lim; omega⟩]
 exact to_LitS_l hn a (by omega) hm a [] _ n rfl (by simp) (by unfold big at hn; omega)
theorem to_Rule {n : Nat} (hn : big ≤ n) (a : (List (Int × ByteArray × List Int)) × (Int × ByteArray × List Int) × List (Int × ByteArray × List Int)) (hb : Kd.bulk (.st (.pair (.sl (.st (.pair (.int .i64) (.pair (.str) (.sl (.int .i64)))))) (.pair (.st (.pair (.int .i64) (.pair (.str) (.sl (.int .i64))))) (.sl (.st (.pair (.int .i64) (.pair (.str) (.sl (.int .i64))))))))) a ≤ 2147483648) : laws_toRule.F n a = some a := by
 unfold laws_toRule.F
 refine bind_eq (to_ExpS hn _ (by simp only [Kd.bulk] at hb ⊢; omega)) ?_
 refine bind_eq (to_Lit hn _ (by simp only [Kd.bulk] at hb ⊢; omega)) ?_
 refine bind_eq (to_LitS hn _ (by simp only [Kd.bulk] at hb ⊢; omega)) ?_
 rfl
theorem eq_IntS_l {n : Nat} (hn : big ≤ n) (a : List Int) (hb : ∀ x, x ∈ a → Kd.bulk (.int .i64) x ≤ 2147483648) (hl : List.length a ≤ 2147483648) {K0 : Unit → Option Bool} : ∀ (d k : Nat) (i : Int), 0 ≤ i → (List.length a : Int) - i = d → d < k → laws_eqIntS.l0 n a a K0 k i = K0 () := by
 intro d
 induction d with
 | zero =>
  intro k i h0 h1 hk
  obtain ⟨k, rfl⟩ : ∃ m, k = m + 1 := ⟨k - 1, by omega⟩
  simp only [laws_eqIntS.l0, decide_eq_true_eq]
  rw [if_neg (by omega)]
 | succ d ih =>
  intro k i h0 h1 hk
  obtain ⟨k, rfl⟩ : ∃ m, k = m + 1 := ⟨k - 1, by omega⟩
  have hw : IntKind.i64.wrap (i + 1) = i + 1 := wrap64 _ (by omega) (by omega)
  have hx := hb _ (getD_mem' a i 0 h0 (by omega))
  simp only [laws_eqIntS.l0, decide_eq_true_eq, hw]
  rw [if_pos (by omega), if_pos ⟨h0, by omega⟩, if_pos ⟨h0, by omega⟩]
  simp only [Option.bind_some, decide_true, Bool.not_true, Bool.false_eq_true, if_false, seq_refl]
  exact ih _ _ (by omega) (by omega) (by omega)
theorem eq_IntS {n : Nat} (hn : big ≤ n) (a : List Int) (hb : Kd.bulk (.sl (.int .i64)) a ≤ 2147483648) : laws_eqIntS.F n a a = some true := by
 have hs := bulk_sl (e := .int .i64) a
 have hl := bulk_len (e := .int .i64) a
 have hm : ∀ x, x ∈ a → Kd.bulk (.int .i64) x ≤ 2147483648 := fun x hx => by have := bulk_mem (e := .int .i64) hx; omega
 unfold laws_eqIntS.F
 rw [if_neg (by simp)]
 exact eq_IntS_l hn a hm (by omega) (List.length a) n 0 (by omega) (by omega) (by unfold big at hn; omega)
theorem eq_Exp {n : Nat} (hn : big ≤ n) (a : Int × ByteArray × List Int) (hb : Kd.bulk (.st (.pair (.int .i64) (.pair (.str) (.sl (.int .i64))))) a ≤ 2147483648) : laws_eqExp.F n a a = some true := by
 unfold laws_eqExp.F
 rw [if_neg (by simp [seq_refl])]
 rw [if_neg (by simp [seq_refl])]
 refine bind_eq (eq_IntS hn _ (by simp only [Kd.bulk] at hb ⊢; omega)) ?_
 try dsimp only
 rw [if_neg (by simp [seq_refl])]
 all_goals rfl
theorem eq_ExpS_l {n : Nat} (hn : big ≤ n) (a : List (Int × ByteArray × List Int)) (hb : ∀ x, x ∈ a → Kd.bulk (.st (.pair (.int .i64) (.pair (.str) (.sl (.int .i64))))) x ≤ 2147483648) (hl : List.length a ≤ 2147483648) {K0 : Unit → Option Bool} : ∀ (d k : Nat) (i : Int), 0 ≤ i → (List.length a : Int) - i = d → d < k → laws_eqExpS.l0 n a a K0 k i = K0 () := by
 intro d
 induction d with
 | zero =>
  intro k i h0 h1 hk
  obtain ⟨k, rfl⟩ : ∃ m, k = m + 1 := ⟨k - 1, by omega⟩
  simp only [laws_eqExpS.l0, decide_eq_true_eq]
  rw [if_neg (by omega)]
 | succ d ih =>
  intro k i h0 h1 hk
  obtain ⟨k, rfl⟩ : ∃ m, k = m + 1 := ⟨k - 1, by omega⟩
  have hw : IntKind.i64.wrap (i + 1) = i + 1 := wrap64 _ (by omega) (by omega)
  have hx := hb _ (getD_mem' a i (0, (ByteArray.empty, [])) h0 (by omega))
  simp only [laws_eqExpS.l0, decide_eq_true_eq, hw]
  rw [if_pos (by omega), if_pos ⟨h0, by omega⟩, if_pos ⟨h0, by omega⟩]
  simp only [eq_Exp hn _ hx, Option.bind_some, decide_true, Bool.not_true, Bool.false_eq_true, if_false, seq_refl]
  exact ih _ _ (by omega) (by omega) (by omega)
theorem eq_ExpS {n : Nat} (hn : big ≤ n) (a : List (Int × ByteArray × List Int)) (hb : Kd.bulk (.sl (.st (.pair (.int .i64) (.pair (.str) (.sl (.int .i64)))))) a ≤ 2147483648) : laws_eqExpS.F n a a = some true := by
 have hs := bulk_sl (e := .st (.pair (.int .i64) (.pair (.str) (.sl (.int .i64))))) a
 have hl := bulk_len (e := .st (.pair (.int .i64) (.pair (.str) (.sl (.int .i64))))) a
 have hm : ∀ x, x ∈ a → Kd.bulk (.st (.pair (.int .i64) (.pair (.str) (.sl (.int .i64))))) x ≤ 2147483648 := fun x hx => by have := bulk_mem (e := .st (.pair (.int .i64) (.pair (.str) (.sl (.int .i64))))) hx; omega
 unfold laws_eqExpS.F
 rw [if_neg (by simp)]
 exact eq_ExpS_l hn a hm (by omega) (List.length a) n 0 (by omega) (by omega) (by unfold big at hn; omega)
theorem eq_Lit {n : Nat} (hn : big ≤ n) (a : Int × ByteArray × List Int) (hb : Kd.bulk (.st (.pair (.int .i64) (.pair (.str) (.sl (.int .i64))))) a ≤ 2147483648) : laws_eqLit.F n a a = some true := by
 unfold laws_eqLit.F
 rw [if_neg (by simp [seq_refl])]
 rw [if_neg (by simp [seq_refl])]
 refine bind_eq (eq_IntS hn _ (by simp only [Kd.bulk] at hb ⊢; omega)) ?_
 try dsimp only
 rw [if_neg (by simp [seq_refl])]
 all_goals rfl
theorem eq_LitS_l {n : Nat} (hn : big ≤ n) (a : List (Int × ByteArray × List Int)) (hb : ∀ x, x ∈ a → Kd.bulk (.st (.pair (.int .i64) (.pair (.str) (.sl (.int .i64))))) x ≤ 2147483648) (hl : List.length a ≤ 2147483648) {K0 : Unit → Option Bool} : ∀ (d k : Nat) (i : Int), 0 ≤ i → (List.length a : Int) - i = d → d < k → laws_eqLitS.l0 n a a K0 k i = K0 () := by
 intro d
 induction d with
 | zero =>
  intro k i h0 h1 hk
  obtain ⟨k, rfl⟩ : ∃ m, k = m + 1 := ⟨k - 1, by omega⟩
  simp only [laws_eqLitS.l0, decide_eq_true_eq]
  rw [if_neg (by omega)]
 | succ d ih =>
  intro k i h0 h1 hk
  obtain ⟨k, rfl⟩ : ∃ m, k = m + 1 := ⟨k - 1, by omega⟩
  have hw : IntKind.i64.wrap (i + 1) = i + 1 := wrap64 _ (by omega) (by omega)
  have hx := hb _ (getD_mem' a i (0, (ByteArray.empty, [])) h0 (by omega))
  simp only [laws_eqLitS.l0, decide_eq_true_eq, hw]
  rw [if_pos (by omega), if_pos ⟨h0, by omega⟩, if_pos ⟨h0, by omega⟩]
  simp only [eq_Lit hn _ hx, Option.bind_some, decide_true, Bool.not_true, Bool.false_eq_true, if_false, seq_refl]
  exact ih _ _ (by omega) (by omega) (by omega)
theorem eq_LitS {n : Nat} (hn : big ≤ n) (a : List (Int × ByteArray × List Int)) (hb : Kd.bulk (.sl (.st (.pair (.int .i64) (.pair (.str) (.sl (.int .i64)))))) a ≤ 2147483648) : laws_eqLitS.F n a a = some true := by
 have hs := bulk_sl (e := .st (.pair (.int .i64) (.pair (.str) (.sl (.int .i64))))) a
 have hl := bulk_len (e := .st (.pair (.int .i64) (.pair (.str) (.sl (.int .i64))))) a
 have hm : ∀ x, x ∈ a → Kd.bulk (.st (.pair (.int .i64) (.pair (.str) (.sl (.int .i64))))) x ≤ 2147483648 := fun x hx => by have := bulk_mem (e := .st (.pair (.int .i64) (.pair (.str) (.sl (.int .i64))))) hx; omega
 unfold laws_eqLitS.F
 rw [if_neg (by simp)]
 exact eq_LitS_l hn a hm (by omega) (List.length a) n 0 (by omega) (by omega) (by unfold big at hn; omega)
theorem eq_Rule {n : Nat} (hn : big ≤ n) (a : (List (Int × ByteArray × List Int)) × (Int × ByteArray × List Int) × List (Int × ByteArray × List Int)) (hb : Kd.bulk (.st (.pair (.sl (.st (.pair (.int .i64) (.pair (.str) (.sl (.int .i64)))))) (.pair (.st (.pair (.int .i64) (.pair (.str) (.sl (.int .i64))))) (.sl (.st (.pair (.int .i64) (.pair (.str) (.sl (.int .i64))))))))) a ≤ 2147483648) : laws_eqRule.F n a a = some true := by
 unfold laws_eqRule.F
 refine bind_eq (eq_ExpS hn _ (by simp only [Kd.bulk] at hb ⊢; omega)) ?_
 try dsimp only
 rw [if_neg (by simp [seq_refl])]
 refine bind_eq (eq_Lit hn _ (by simp only [Kd.bulk] at hb ⊢; omega)) ?_
 try dsimp only
 rw [if_neg (by simp [seq_refl])]
 refine bind_eq (eq_LitS hn _ (by simp only [Kd.bulk] at hb ⊢; omega)) ?_
 try dsimp only
 rw [if_neg (by simp [seq_refl])]
 all_goals rfl
end Go.Abs
