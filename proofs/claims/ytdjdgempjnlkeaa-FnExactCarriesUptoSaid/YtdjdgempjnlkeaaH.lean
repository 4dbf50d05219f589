/- What the laws' helpers answer. Conditions: none. -/
import Derived.Test.YtdjdgempjnlkeaaF1
import Derived.Test.YtdjdgempjnlkeaaPl
namespace Go.Abs
set_option linter.unusedVariables false
set_option linter.unusedSimpArgs false
theorem sz_IntS {n : Nat} (hn : big ≤ n) (a : List Int) (hb : Kd.bulk (.sl (.int .i64)) a ≤ 2147483648) (left : Int) : ∃ r, laws_szIntS.F n a left = some r := by
 unfold laws_szIntS.F
 split
 ·exact ⟨_, rfl⟩
 exact ⟨_, rfl⟩
theorem sz_Exp {n : Nat} (hn : big ≤ n) (a : Int × ByteArray × List Int) (hb : Kd.bulk (.st (.pair (.int .i64) (.pair (.str) (.sl (.int .i64))))) a ≤ 2147483648) (left : Int) : ∃ r, laws_szExp.F n a left = some r := by
 unfold laws_szExp.F
 split
 ·exact ⟨_, rfl⟩
 refine bind_total (sz_IntS hn _ (by simp only [Kd.bulk] at hb ⊢; omega) _) (fun r => ?_)
 try dsimp only
 split
 ·exact ⟨_, rfl⟩
 exact ⟨_, rfl⟩
theorem sz_ExpS_l {n : Nat} (hn : big ≤ n) (a : List (Int × ByteArray × List Int)) (hb : ∀ x, x ∈ a → Kd.bulk (.st (.pair (.int .i64) (.pair (.str) (.sl (.int .i64))))) x ≤ 2147483648) (hl : List.length a ≤ 2147483648) {K0 : Int → Option Int} (hK : ∀ x, ∃ r, K0 x = some r) : ∀ (d k : Nat) (left i : Int), 0 ≤ i → (List.length a : Int) - i = d → d < k → ∃ r, laws_szExpS.l0 n a K0 k left i = some r := by
 intro d
 induction d with
 | zero =>
  intro k left i h0 h1 hk
  obtain ⟨k, rfl⟩ : ∃ m, k = m + 1 := ⟨k - 1, by omega⟩
  simp only [laws_szExpS.l0, decide_eq_true_eq]
  rw [if_neg (by omega)]
  exact hK _
 | succ d ih =>
  intro k left i h0 h1 hk
  obtain ⟨k, rfl⟩ : ∃ m, k = m + 1 := ⟨k - 1, by omega⟩
  have hw : IntKind.i64.wrap (i + 1) = i + 1 := wrap64 _ (by omega) (by omega)
  have hx := hb _ (getD_mem' a i (0, (ByteArray.empty, [])) h0 (by omega))
  simp only [laws_szExpS.l0, decide_eq_true_eq, hw]
  rw [if_pos (by omega), if_pos ⟨h0, by omega⟩]
  repeat' first | exact ⟨_, rfl⟩ | exact ih _ _ _ (by omega) (by omega) (by omega) | split | refine bind_total (sz_Exp hn _ hx _) (fun r => ?_)
theorem sz_ExpS {n : Nat} (hn : big ≤ n) (a : List (Int × ByteArray × List Int)) (hb : Kd.bulk (.sl (.st (.pair (.int .i64) (.pair (.str) (.sl (.int .i64)))))) a ≤ 2147483648) (left : Int) : ∃ r, laws_szExpS.F n a left = some r := by
 have hs := bulk_sl (e := .st (.pair (.int .i64) (.pair (.str) (.sl (.int .i64))))) a
 have hl := bulk_len (e := .st (.pair (.int .i64) (.pair (.str) (.sl (.int .i64))))) a
 have hm : ∀ x, x ∈ a → Kd.bulk (.st (.pair (.int .i64) (.pair (.str) (.sl (.int .i64))))) x ≤ 2147483648 := fun x hx => by have := bulk_mem (e := .st (.pair (.int .i64) (.pair (.str) (.sl (.int .i64))))) hx; omega
 unfold laws_szExpS.F
 repeat' first | exact ⟨_, rfl⟩ | exact sz_ExpS_l hn a hm (by omega) (fun x => ⟨_, rfl⟩) (List.length a) n _ 0 (by omega) (by omega) (by unfold big at hn; omega) | split
theorem sz_Lit {n : Nat} (hn : big ≤ n) (a : Int × ByteArray × List Int) (hb : Kd.bulk (.st (.pair (.int .i64) (.pair (.str) (.sl (.int .i64))))) a ≤ 2147483648) (left : Int) : ∃ r, laws_szLit.F n a left = some r := by
 unfold laws_szLit.F
 split
 ·exact ⟨_, rfl⟩
 refine bind_total (sz_IntS hn _ (by simp only [Kd.bulk] at hb ⊢; omega) _) (fun r => ?_)
 try dsimp only
 split
 ·exact ⟨_, rfl⟩
 exact ⟨_, rfl⟩
theorem sz_LitS_l {n : Nat} (hn : big ≤ n) (a : List (Int × ByteArray × List Int)) (hb : ∀ x, x ∈ a → Kd.bulk (.st (.pair (.int .i64) (.pair (.str) (.sl (.int .i64))))) x ≤ 2147483648) (hl : List.length a ≤ 2147483648) {K0 : Int → Option Int} (hK : ∀ x, ∃ r, K0 x = some r) : ∀ (d k : Nat) (left i : Int), 0 ≤ i → (List.length a : Int) - i = d → d < k → ∃ r, laws_szLitS.l0 n a K0 k left i = some r := by
 intro d
 induction d with
 | zero =>
  intro k left i h0 h1 hk
  obtain ⟨k, rfl⟩ : ∃ m, k = m + 1 := ⟨k - 1, by omega⟩
  simp only [laws_szLitS.l0, decide_eq_true_eq]
  rw [if_neg (by omega)]
  exact hK _
 | succ d ih =>
  intro k left i h0 h1 hk
  obtain ⟨k, rfl⟩ : ∃ m, k = m + 1 := ⟨k - 1, by omega⟩
  have hw : IntKind.i64.wrap (i + 1) = i + 1 := wrap64 _ (by omega) (by omega)
  have hx := hb _ (getD_mem' a i (0, (ByteArray.empty, [])) h0 (by omega))
  simp only [laws_szLitS.l0, decide_eq_true_eq, hw]
  rw [if_pos (by omega), if_pos ⟨h0, by omega⟩]
  repeat' first | exact ⟨_, rfl⟩ | exact ih _ _ _ (by omega) (by omega) (by omega) | split | refine bind_total (sz_Lit hn _ hx _) (fun r => ?_)
theorem sz_LitS {n : Nat} (hn : big ≤ n) (a : List (Int × ByteArray × List Int)) (hb : Kd.bulk (.sl (.st (.pair (.int .i64) (.pair (.str) (.sl (.int .i64)))))) a ≤ 2147483648) (left : Int) : ∃ r, laws_szLitS.F n a left = some r := by
 have hs := bulk_sl (e := .st (.pair (.int .i64) (.pair (.str) (.sl (.int .i64))))) a
 have hl := bulk_len (e := .st (.pair (.int .i64) (.pair (.str) (.sl (.int .i64))))) a
 have hm : ∀ x, x ∈ a → Kd.bulk (.st (.pair (.int .i64) (.pair (.str) (.sl (.int .i64))))) x ≤ 2147483648 := fun x hx => by have := bulk_mem (e := .st (.pair (.int .i64) (.pair (.str) (.sl (.int .i64))))) hx; omega
 unfold laws_szLitS.F
 repeat' first | exact ⟨_, rfl⟩ | exact sz_LitS_l hn a hm (by omega) (fun x => ⟨_, rfl⟩) (List.length a) n _ 0 (by omega) (by omega) (by unfold big at hn; omega) | split
theorem sz_Rule {n : Nat} (hn : big ≤ n) (a : (List (Int × ByteArray × List Int)) × (Int × ByteArray × List Int) × List (Int × ByteArray × List Int)) (hb : Kd.bulk (.st (.pair (.sl (.st (.pair (.int .i64) (.pair (.str) (.sl (.int .i64)))))) (.pair (.st (.pair (.int .i64) (.pair (.str) (.sl (.int .i64))))) (.sl (.st (.pair (.int .i64) (.pair (.str) (.sl (.int .i64))))))))) a ≤ 2147483648) (left : Int) : ∃ r, laws_szRule.F n a left = some r := by
 unfold laws_szRule.F
 refine bind_total (sz_ExpS hn _ (by simp only [Kd.bulk] at hb ⊢; omega) _) (fun r => ?_)
 try dsimp only
 split
 ·exact ⟨_, rfl⟩
 refine bind_total (sz_Lit hn _ (by simp only [Kd.bulk] at hb ⊢; omega) _) (fun r => ?_)
 try dsimp only
 split
 ·exact ⟨_, rfl⟩
 refine bind_total (sz_LitS hn _ (by simp only [Kd.bulk] at hb ⊢; omega) _) (fun r => ?_)
 try dsimp only
 split
 ·exact ⟨_, rfl⟩
 exact ⟨_, rfl⟩
theorem to_IntS_l {n : Nat} (hn : big ≤ n) (a : List Int) (hl : List.length a ≤ 2147483648) (hb : ∀ x, x ∈ a → Kd.bulk (.int .i64) x ≤ 2147483648) {K0 : (List Int) → Option (List Int)} : ∀ (post pre junk : List Int) (k : Nat), a = pre ++ post → junk.length = post.length → post.length < k → laws_toIntS.l0 n a K0 k (pre.length : Int) (pre ++ junk) = K0 a := by
 intro post
 induction post with
 | nil =>
  intro pre junk k ha hj hk
  obtain ⟨k, rfl⟩ : ∃ m, k = m + 1 := ⟨k - 1, by omega⟩
  obtain rfl : junk = [] := List.length_eq_zero_iff.1 hj
  subst ha
  simp only [laws_toIntS.l0, decide_eq_true_eq, end_lt, if_false]
 | cons x post ih =>
  intro pre junk k ha hj hk
  obtain ⟨k, rfl⟩ : ∃ m, k = m + 1 := ⟨k - 1, by omega⟩
  match junk, hj with
  | y :: junk, hj =>
   have hw : IntKind.i64.wrap ((pre.length : Int) + 1) = ((pre ++ [x]).length : Int) := by
    rw [wrap64 _ (by omega) (by rw [ha] at hl; simp at hl; omega)]; simp
   have hx := hb x (by rw [ha]; simp)
   have := ih (pre ++ [x]) junk k (by rw [ha]; simp) (by simpa using hj) (by simpa using hk)
   subst ha
   simp only [laws_toIntS.l0, decide_eq_true_eq, mid_lt, mid_in, if_true, Int.toNat_natCast, getD_mid, set_mid, hw, Option.bind_some]
   simpa using this
theorem to_IntS {n : Nat} (hn : big ≤ n) (a : List Int) (hb : Kd.bulk (.sl (.int .i64)) a ≤ 2147483648) : laws_toIntS.F n a = some a := by
 have hs := bulk_sl (e := .int .i64) a
 have hl := bulk_len (e := .int .i64) a
 have hm : ∀ x, x ∈ a → Kd.bulk (.int .i64) x ≤ 2147483648 := fun x hx => by have := bulk_mem (e := .int .i64) hx; omega
 unfold laws_toIntS.F
 rw [if_pos ⟨by omega, by omega, by unfold lim; omega⟩]
 exact to_IntS_l hn a (by omega) hm a [] _ n rfl (by simp) (by unfold big at hn; omega)
theorem to_Exp {n : Nat} (hn : big ≤ n) (a : Int × ByteArray × List Int) (hb : Kd.bulk (.st (.pair (.int .i64) (.pair (.str) (.sl (.int .i64))))) a ≤ 2147483648) : laws_toExp.F n a = some a := by
 unfold laws_toExp.F
 refine bind_eq (to_IntS hn _ (by simp only [Kd.bulk] at hb ⊢; omega)) ?_
 rfl
theorem to_ExpS_l {n : Nat} (hn : big ≤ n) (a : List (Int × ByteArray × List Int)) (hl : List.length a ≤ 2147483648) (hb : ∀ x, x ∈ a → Kd.bulk (.st (.pair (.int .i64) (.pair (.str) (.sl (.int .i64))))) x ≤ 2147483648) {K0 : (List (Int × ByteArray × List Int)) → Option (List (Int × ByteArray × List Int))} : ∀ (post pre junk : List (Int × ByteArray × List Int)) (k : Nat), a = pre ++ post → junk.length = post.length → post.length < k → laws_toExpS.l0 n a K0 k (pre.length : Int) (pre ++ junk) = K0 a := by
 intro post
 induction post with
 | nil =>
  intro pre junk k ha hj hk
  obtain ⟨k, rfl⟩ : ∃ m, k = m + 1 := ⟨k - 1, by omega⟩
  obtain rfl : junk = [] := List.length_eq_zero_iff.1 hj
  subst ha
  simp only [laws_toExpS.l0, decide_eq_true_eq, end_lt, if_false]
 | cons x post ih =>
  intro pre junk k ha hj hk
  obtain ⟨k, rfl⟩ : ∃ m, k = m + 1 := ⟨k - 1, by omega⟩
  match junk, hj with
  | y :: junk, hj =>
   have hw : IntKind.i64.wrap ((pre.length : Int) + 1) = ((pre ++ [x]).length : Int) := by
    rw [wrap64 _ (by omega) (by rw [ha] at hl; simp at hl; omega)]; simp
   have hx := hb x (by rw [ha]; simp)
   have := ih (pre ++ [x]) junk k (by rw [ha]; simp) (by simpa using hj) (by simpa using hk)
   subst ha
   simp only [laws_toExpS.l0, decide_eq_true_eq, mid_lt, mid_in, if_true, Int.toNat_natCast, getD_mid, set_mid, hw, to_Exp hn x hx, Option.bind_some]
   simpa using this
theorem to_ExpS {n : Nat} (hn : big ≤ n) (a : List (Int × ByteArray × List Int)) (hb : Kd.bulk (.sl (.st (.pair (.int .i64) (.pair (.str) (.sl (.int .i64)))))) a ≤ 2147483648) : laws_toExpS.F n a = some a := by
 have hs := bulk_sl (e := .st (.pair (.int .i64) (.pair (.str) (.sl (.int .i64))))) a
 have hl := bulk_len (e := .st (.pair (.int .i64) (.pair (.str) (.sl (.int .i64))))) a
 have hm : ∀ x, x ∈ a → Kd.bulk (.st (.pair (.int .i64) (.pair (.str) (.sl (.int .i64))))) x ≤ 2147483648 := fun x hx => by have := bulk_mem (e := .st (.pair (.int .i64) (.pair (.str) (.sl (.int .i64))))) hx; omega
 unfold laws_toExpS.F
 rw [if_pos ⟨by omega, by omega, by unfold lim; omega⟩]
 exact to_ExpS_l hn a (by omega) hm a [] _ n rfl (by simp) (by unfold big at hn; omega)
theorem to_Lit {n : Nat} (hn : big ≤ n) (a : Int × ByteArray × List Int) (hb : Kd.bulk (.st (.pair (.int .i64) (.pair (.str) (.sl (.int .i64))))) a ≤ 2147483648) : laws_toLit.F n a = some a := by
 unfold laws_toLit.F
 refine bind_eq (to_IntS hn _ (by simp only [Kd.bulk] at hb ⊢; omega)) ?_
 rfl
theorem to_LitS_l {n : Nat} (hn : big ≤ n) (a : List (Int × ByteArray × List Int)) (hl : List.length a ≤ 2147483648) (hb : ∀ x, x ∈ a → Kd.bulk (.st (.pair (.int .i64) (.pair (.str) (.sl (.int .i64))))) x ≤ 2147483648) {K0 : (List (Int × ByteArray × List Int)) → Option (List (Int × ByteArray × List Int))} : ∀ (post pre junk : List (Int × ByteArray × List Int)) (k : Nat), a = pre ++ post → junk.length = post.length → post.length < k → laws_toLitS.l0 n a K0 k (pre.length : Int) (pre ++ junk) = K0 a := by
 intro post
 induction post with
 | nil =>
  intro pre junk k ha hj hk
  obtain ⟨k, rfl⟩ : ∃ m, k = m + 1 := ⟨k - 1, by omega⟩
  obtain rfl : junk = [] := List.length_eq_zero_iff.1 hj
  subst ha
  simp only [laws_toLitS.l0, decide_eq_true_eq, end_lt, if_false]
 | cons x post ih =>
  intro pre junk k ha hj hk
  obtain ⟨k, rfl⟩ : ∃ m, k = m + 1 := ⟨k - 1, by omega⟩
  match junk, hj with
  | y :: junk, hj =>
   have hw : IntKind.i64.wrap ((pre.length : Int) + 1) = ((pre ++ [x]).length : Int) := by
    rw [wrap64 _ (by omega) (by rw [ha] at hl; simp at hl; omega)]; simp
   have hx := hb x (by rw [ha]; simp)
   have := ih (pre ++ [x]) junk k (by rw [ha]; simp) (by simpa using hj) (by simpa using hk)
   subst ha
   simp only [laws_toLitS.l0, decide_eq_true_eq, mid_lt, mid_in, if_true, Int.toNat_natCast, getD_mid, set_mid, hw, to_Lit hn x hx, Option.bind_some]
   simpa using this
theorem to_LitS {n : Nat} (hn : big ≤ n) (a : List (Int × ByteArray × List Int)) (hb : Kd.bulk (.sl (.st (.pair (.int .i64) (.pair (.str) (.sl (.int .i64)))))) a ≤ 2147483648) : laws_toLitS.F n a = some a := by
 have hs := bulk_sl (e := .st (.pair (.int .i64) (.pair (.str) (.sl (.int .i64))))) a
 have hl := bulk_len (e := .st (.pair (.int .i64) (.pair (.str) (.sl (.int .i64))))) a
 have hm : ∀ x, x ∈ a → Kd.bulk (.st (.pair (.int .i64) (.pair (.str) (.sl (.int .i64))))) x ≤ 2147483648 := fun x hx => by have := bulk_mem (e := .st (.pair (.int .i64) (.pair (.str) (.sl (.int .i64))))) hx; omega
 unfold laws_toLitS.F
 rw [if_pos ⟨by omega, by omega, by unfold lim; omega⟩]
 exact to_LitS_l hn a (by omega) hm a [] _ n rfl (by simp) (by unfold big at hn; omega)
theorem to_Rule {n : Nat} (hn : big ≤ n) (a : (List (Int × ByteArray × List Int)) × (Int × ByteArray × List Int) × List (Int × ByteArray × List Int)) (hb : Kd.bulk (.st (.pair (.sl (.st (.pair (.int .i64) (.pair (.str) (.sl (.int .i64)))))) (.pair (.st (.pair (.int .i64) (.pair (.str) (.sl (.int .i64))))) (.sl (.st (.pair (.int .i64) (.pair (.str) (.sl (.int .i64))))))))) a ≤ 2147483648) : laws_toRule.F n a = some a := by
 unfold laws_toRule.F
 refine bind_eq (to_ExpS hn _ (by simp only [Kd.bulk] at hb ⊢; omega)) ?_
 refine bind_eq (to_Lit hn _ (by simp only [Kd.bulk] at hb ⊢; omega)) ?_
 refine bind_eq (to_LitS hn _ (by simp only [Kd.bulk] at hb ⊢; omega)) ?_
 rfl
theorem eq_StringS_l {n : Nat} (hn : big ≤ n) (a : List ByteArray) (hb : ∀ x, x ∈ a → Kd.bulk .str x ≤ 2147483648) (hl : List.length a ≤ 2147483648) {K0 : Unit → Option Bool} : ∀ (d k : Nat) (i : Int), 0 ≤ i → (List.length a : Int) - i = d → d < k → laws_eqStringS.l0 n a a K0 k i = K0 () := by
 intro d
 induction d with
 | zero =>
  intro k i h0 h1 hk
  obtain ⟨k, rfl⟩ : ∃ m, k = m + 1 := ⟨k - 1, by omega⟩
  simp only [laws_eqStringS.l0, decide_eq_true_eq]
  rw [if_neg (by omega)]
 | succ d ih =>
  intro k i h0 h1 hk
  obtain ⟨k, rfl⟩ : ∃ m, k = m + 1 := ⟨k - 1, by omega⟩
  have hw : IntKind.i64.wrap (i + 1) = i + 1 := wrap64 _ (by omega) (by omega)
  have hx := hb _ (getD_mem' a i ByteArray.empty h0 (by omega))
  simp only [laws_eqStringS.l0, decide_eq_true_eq, hw]
  rw [if_pos (by omega), if_pos ⟨h0, by omega⟩, if_pos ⟨h0, by omega⟩]
  simp only [Option.bind_some, decide_true, Bool.not_true, Bool.false_eq_true, if_false, seq_refl]
  exact ih _ _ (by omega) (by omega) (by omega)
theorem eq_StringS {n : Nat} (hn : big ≤ n) (a : List ByteArray) (hb : Kd.bulk (.sl (.str)) a ≤ 2147483648) : laws_eqStringS.F n a a = some true := by
 have hs := bulk_sl (e := .str) a
 have hl := bulk_len (e := .str) a
 have hm : ∀ x, x ∈ a → Kd.bulk .str x ≤ 2147483648 := fun x hx => by have := bulk_mem (e := .str) hx; omega
 unfold laws_eqStringS.F
 rw [if_neg (by simp)]
 exact eq_StringS_l hn a hm (by omega) (List.length a) n 0 (by omega) (by omega) (by unfold big at hn; omega)
theorem eq_Match {n : Nat} (hn : big ≤ n) (a : (List ByteArray) × List ByteArray) (hb : Kd.bulk (.st (.pair (.sl (.str)) (.sl (.str)))) a ≤ 2147483648) : laws_eqMatch.F n a a = some true := by
 unfold laws_eqMatch.F
 refine bind_eq (eq_StringS hn _ (by simp only [Kd.bulk] at hb ⊢; omega)) ?_
 try dsimp only
 rw [if_neg (by simp [seq_refl])]
 refine bind_eq (eq_StringS hn _ (by simp only [Kd.bulk] at hb ⊢; omega)) ?_
 try dsimp only
 rw [if_neg (by simp [seq_refl])]
 all_goals rfl
theorem eq_IntS_l {n : Nat} (hn : big ≤ n) (a : List Int) (hb : ∀ x, x ∈ a → Kd.bulk (.int .i64) x ≤ 2147483648) (hl : List.length a ≤ 2147483648) {K0 : Unit → Option Bool} : ∀ (d k : Nat) (i : Int), 0 ≤ i → (List.length a : Int) - i = d → d < k → laws_eqIntS.l0 n a a K0 k i = K0 () := by
 intro d
 induction d with
 | zero =>
  intro k i h0 h1 hk
  obtain ⟨k, rfl⟩ : ∃ m, k = m + 1 := ⟨k - 1, by omega⟩
  simp only [laws_eqIntS.l0, decide_eq_true_eq]
  rw [if_neg (by omega)]
 | succ d ih =>
  intro k i h0 h1 hk
  obtain ⟨k, rfl⟩ : ∃ m, k = m + 1 := ⟨k - 1, by omega⟩
  have hw : IntKind.i64.wrap (i + 1) = i + 1 := wrap64 _ (by omega) (by omega)
  have hx := hb _ (getD_mem' a i 0 h0 (by omega))
  simp only [laws_eqIntS.l0, decide_eq_true_eq, hw]
  rw [if_pos (by omega), if_pos ⟨h0, by omega⟩, if_pos ⟨h0, by omega⟩]
  simp only [Option.bind_some, decide_true, Bool.not_true, Bool.false_eq_true, if_false, seq_refl]
  exact ih _ _ (by omega) (by omega) (by omega)
theorem eq_IntS {n : Nat} (hn : big ≤ n) (a : List Int) (hb : Kd.bulk (.sl (.int .i64)) a ≤ 2147483648) : laws_eqIntS.F n a a = some true := by
 have hs := bulk_sl (e := .int .i64) a
 have hl := bulk_len (e := .int .i64) a
 have hm : ∀ x, x ∈ a → Kd.bulk (.int .i64) x ≤ 2147483648 := fun x hx => by have := bulk_mem (e := .int .i64) hx; omega
 unfold laws_eqIntS.F
 rw [if_neg (by simp)]
 exact eq_IntS_l hn a hm (by omega) (List.length a) n 0 (by omega) (by omega) (by unfold big at hn; omega)
theorem eq_Exp {n : Nat} (hn : big ≤ n) (a : Int × ByteArray × List Int) (hb : Kd.bulk (.st (.pair (.int .i64) (.pair (.str) (.sl (.int .i64))))) a ≤ 2147483648) : laws_eqExp.F n a a = some true := by
 unfold laws_eqExp.F
 rw [if_neg (by simp [seq_refl])]
 rw [if_neg (by simp [seq_refl])]
 refine bind_eq (eq_IntS hn _ (by simp only [Kd.bulk] at hb ⊢; omega)) ?_
 try dsimp only
 rw [if_neg (by simp [seq_refl])]
 all_goals rfl
theorem eq_ExpS_l {n : Nat} (hn : big ≤ n) (a : List (Int × ByteArray × List Int)) (hb : ∀ x, x ∈ a → Kd.bulk (.st (.pair (.int .i64) (.pair (.str) (.sl (.int .i64))))) x ≤ 2147483648) (hl : List.length a ≤ 2147483648) {K0 : Unit → Option Bool} : ∀ (d k : Nat) (i : Int), 0 ≤ i → (List.length a : Int) - i = d → d < k → laws_eqExpS.l0 n a a K0 k i = K0 () := by
 intro d
 induction d with
 | zero =>
  intro k i h0 h1 hk
  obtain ⟨k, rfl⟩ : ∃ m, k = m + 1 := ⟨k - 1, by omega⟩
  simp only [laws_eqExpS.l0, decide_eq_true_eq]
  rw [if_neg (by omega)]
 | succ d ih =>
  intro k i h0 h1 hk
  obtain ⟨k, rfl⟩ : ∃ m, k = m + 1 := ⟨k - 1, by omega⟩
  have hw : IntKind.i64.wrap (i + 1) = i + 1 := wrap64 _ (by omega) (by omega)
  have hx := hb _ (getD_mem' a i (0, (ByteArray.empty, [])) h0 (by omega))
  simp only [laws_eqExpS.l0, decide_eq_true_eq, hw]
  rw [if_pos (by omega), if_pos ⟨h0, by omega⟩, if_pos ⟨h0, by omega⟩]
  simp only [eq_Exp hn _ hx, Option.bind_some, decide_true, Bool.not_true, Bool.false_eq_true, if_false, seq_refl]
  exact ih _ _ (by omega) (by omega) (by omega)
theorem eq_ExpS {n : Nat} (hn : big ≤ n) (a : List (Int × ByteArray × List Int)) (hb : Kd.bulk (.sl (.st (.pair (.int .i64) (.pair (.str) (.sl (.int .i64)))))) a ≤ 2147483648) : laws_eqExpS.F n a a = some true := by
 have hs := bulk_sl (e := .st (.pair (.int .i64) (.pair (.str) (.sl (.int .i64))))) a
 have hl := bulk_len (e := .st (.pair (.int .i64) (.pair (.str) (.sl (.int .i64))))) a
 have hm : ∀ x, x ∈ a → Kd.bulk (.st (.pair (.int .i64) (.pair (.str) (.sl (.int .i64))))) x ≤ 2147483648 := fun x hx => by have := bulk_mem (e := .st (.pair (.int .i64) (.pair (.str) (.sl (.int .i64))))) hx; omega
 unfold laws_eqExpS.F
 rw [if_neg (by simp)]
 exact eq_ExpS_l hn a hm (by omega) (List.length a) n 0 (by omega) (by omega) (by unfold big at hn; omega)
theorem eq_Lit {n : Nat} (hn : big ≤ n) (a : Int × ByteArray × List Int) (hb : Kd.bulk (.st (.pair (.int .i64) (.pair (.str) (.sl (.int .i64))))) a ≤ 2147483648) : laws_eqLit.F n a a = some true := by
 unfold laws_eqLit.F
 rw [if_neg (by simp [seq_refl])]
 rw [if_neg (by simp [seq_refl])]
 refine bind_eq (eq_IntS hn _ (by simp only [Kd.bulk] at hb ⊢; omega)) ?_
 try dsimp only
 rw [if_neg (by simp [seq_refl])]
 all_goals rfl
theorem eq_LitS_l {n : Nat} (hn : big ≤ n) (a : List (Int × ByteArray × List Int)) (hb : ∀ x, x ∈ a → Kd.bulk (.st (.pair (.int .i64) (.pair (.str) (.sl (.int .i64))))) x ≤ 2147483648) (hl : List.length a ≤ 2147483648) {K0 : Unit → Option Bool} : ∀ (d k : Nat) (i : Int), 0 ≤ i → (List.length a : Int) - i = d → d < k → laws_eqLitS.l0 n a a K0 k i = K0 () := by
 intro d
 induction d with
 | zero =>
  intro k i h0 h1 hk
  obtain ⟨k, rfl⟩ : ∃ m, k = m + 1 := ⟨k - 1, by omega⟩
  simp only [laws_eqLitS.l0, decide_eq_true_eq]
  rw [if_neg (by omega)]
 | succ d ih =>
  intro k i h0 h1 hk
  obtain ⟨k, rfl⟩ : ∃ m, k = m + 1 := ⟨k - 1, by omega⟩
  have hw : IntKind.i64.wrap (i + 1) = i + 1 := wrap64 _ (by omega) (by omega)
  have hx := hb _ (getD_mem' a i (0, (ByteArray.empty, [])) h0 (by omega))
  simp only [laws_eqLitS.l0, decide_eq_true_eq, hw]
  rw [if_pos (by omega), if_pos ⟨h0, by omega⟩, if_pos ⟨h0, by omega⟩]
  simp only [eq_Lit hn _ hx, Option.bind_some, decide_true, Bool.not_true, Bool.false_eq_true, if_false, seq_refl]
  exact ih _ _ (by omega) (by omega) (by omega)
theorem eq_LitS {n : Nat} (hn : big ≤ n) (a : List (Int × ByteArray × List Int)) (hb : Kd.bulk (.sl (.st (.pair (.int .i64) (.pair (.str) (.sl (.int .i64)))))) a ≤ 2147483648) : laws_eqLitS.F n a a = some true := by
 have hs := bulk_sl (e := .st (.pair (.int .i64) (.pair (.str) (.sl (.int .i64))))) a
 have hl := bulk_len (e := .st (.pair (.int .i64) (.pair (.str) (.sl (.int .i64))))) a
 have hm : ∀ x, x ∈ a → Kd.bulk (.st (.pair (.int .i64) (.pair (.str) (.sl (.int .i64))))) x ≤ 2147483648 := fun x hx => by have := bulk_mem (e := .st (.pair (.int .i64) (.pair (.str) (.sl (.int .i64))))) hx; omega
 unfold laws_eqLitS.F
 rw [if_neg (by simp)]
 exact eq_LitS_l hn a hm (by omega) (List.length a) n 0 (by omega) (by omega) (by unfold big at hn; omega)
theorem eq_Rule {n : Nat} (hn : big ≤ n) (a : (List (Int × ByteArray × List Int)) × (Int × ByteArray × List Int) × List (Int × ByteArray × List Int)) (hb : Kd.bulk (.st (.pair (.sl (.st (.pair (.int .i64) (.pair (.str) (.sl (.int .i64)))))) (.pair (.st (.pair (.int .i64) (.pair (.str) (.sl (.int .i64))))) (.sl (.st (.pair (.int .i64) (.pair (.str) (.sl (.int .i64))))))))) a ≤ 2147483648) : laws_eqRule.F n a a = some true := by
 unfold laws_eqRule.F
 refine bind_eq (eq_ExpS hn _ (by simp only [Kd.bulk] at hb ⊢; omega)) ?_
 try dsimp only
 rw [if_neg (by simp [seq_refl])]
 refine bind_eq (eq_Lit hn _ (by simp only [Kd.bulk] at hb ⊢; omega)) ?_
 try dsimp only
 rw [if_neg (by simp [seq_refl])]
 refine bind_eq (eq_LitS hn _ (by simp only [Kd.bulk] at hb ⊢; omega)) ?_
 try dsimp only
 rw [if_neg (by simp [seq_refl])]
 all_goals rfl
def mtx (n : Nat) (k : Int) : ByteArray := (laws_markText.F n k).getD ByteArray.empty
theorem bstr1 (x : Int) : ByteArray.size (bstr [x]) = 1 := rfl
theorem mark_Text_l {n : Nat} {K0 : ByteArray → Option ByteArray} (hK : ∀ x : ByteArray, x.size ≤ 64 → ∃ r, K0 x = some r) : ∀ (d k : Nat) (z : Int) (out : ByteArray), z < 10 ^ d → z ≤ 4294967296 → d < k → out.size + d ≤ 40 → ∃ r, laws_markText.l0 n K0 k z out = some r := by
 intro d
 induction d with
 | zero =>
  intro k z out hz hz2 hk ho
  obtain ⟨k, rfl⟩ : ∃ m, k = m + 1 := ⟨k - 1, by omega⟩
  simp only [laws_markText.l0, decide_eq_true_eq]
  rw [if_neg (by simp at hz; omega)]
  exact hK _ (by omega)
 | succ d ih =>
  intro k z out hz hz2 hk ho
  obtain ⟨k, rfl⟩ : ∃ m, k = m + 1 := ⟨k - 1, by omega⟩
  simp only [laws_markText.l0, decide_eq_true_eq]
  split
  ·rename_i hp
   have hlt : z / 10 < 10 ^ d := by rw [Int.pow_succ] at hz; omega
   have e1 : Int.tdiv z 10 = z / 10 := Int.tdiv_eq_ediv_of_nonneg (by omega)
   rw [if_pos (by rw [bstr1]; unfold lim; omega), e1, wrap64 _ (by omega) (by omega)]
   exact ih k _ _ hlt (by omega) (by omega) (by rw [ByteArray.size_append, bstr1]; omega)
  ·exact hK _ (by omega)
theorem mtx_eq {n : Nat} (hn : big ≤ n) (k : Int) (hk : k ≤ 4294967296) : laws_markText.F n k = some (mtx n k) := by
 have : ∃ r, laws_markText.F n k = some r := by
  unfold laws_markText.F
  split
  ·exact ⟨_, rfl⟩
  ·exact mark_Text_l (fun x hx => by rw [if_pos (by show 1 + x.size ≤ lim; unfold lim; omega)]; exact ⟨_, rfl⟩) 10 n k _ (by omega) (by omega) (by unfold big at hn; omega) (by show 0 + 10 ≤ 40; omega)
 obtain ⟨r, hr⟩ := this
 rw [mtx, hr]; rfl
theorem mk_IntS_l {n : Nat} (hn : big ≤ n) {K0 : Int → (List Int) → Option (Int × (List Int))} : ∀ (post pre : List Int) (f : Nat) (k : Int), post.length < f → pre.length + post.length ≤ 2147483648 → (List.map (Kd.bulk (.int .i64)) post).sum ≤ 2147483648 → 0 < k → k + ((List.map (Kd.bulk (.int .i64)) post).sum : Int) ≤ 4294967296 →
  ∃ k1 out, laws_markIntS.l0 n K0 f k (pre.length : Int) (pre ++ post) = K0 k1 (pre ++ out) ∧ k ≤ k1 ∧ k1 ≤ k + ((List.map (Kd.bulk (.int .i64)) post).sum : Int) ∧ out.length = post.length := by
 intro post
 induction post with
 | nil =>
  intro pre f k hf hl hs h0 hk
  obtain ⟨f, rfl⟩ : ∃ m, f = m + 1 := ⟨f - 1, by omega⟩
  refine ⟨k, [], ?_, by omega, by simp, rfl⟩
  ·simp only [laws_markIntS.l0, decide_eq_true_eq, end_lt, if_false]
 | cons x post ih =>
  intro pre f k hf hl hs h0 hk
  simp only [List.length_cons] at hf hl
  simp only [List.map_cons, List.sum_cons, Int.natCast_add] at hs hk ⊢
  obtain ⟨f, rfl⟩ : ∃ m, f = m + 1 := ⟨f - 1, by omega⟩
  have hw : IntKind.i64.wrap ((pre.length : Int) + 1) = (pre.length : Int) + 1 := wrap64 _ (by omega) (by omega)
  have hB : Kd.bulk (.int .i64) x = 1 := rfl
  have hwk1 : IntKind.i64.wrap (k + 1) = k + 1 := wrap64 _ (by omega) (by omega)
  obtain ⟨k1, out, i1, i2, i3, i4⟩ := ih (pre ++ [((k) : Int)]) f (k + 1) (by omega) (by simp; omega) (by omega) (by omega) (by omega)
  rw [List.length_append, List.length_singleton] at i1
  refine ⟨k1, ((k) : Int) :: out, ?_, by omega, by omega, by simp [i4]⟩
  ·simp only [laws_markIntS.l0, decide_eq_true_eq, mid_lt, mid_in, if_true, Int.toNat_natCast, getD_mid, set_mid, hw, hwk1, Option.bind_some]
   simpa using i1
theorem mk_IntS {n : Nat} (hn : big ≤ n) (a : List Int) (hb : Kd.bulk (.sl (.int .i64)) a ≤ 2147483648) (k : Int) (h0 : 0 < k) (hk : k + (Kd.bulk (.sl (.int .i64)) a : Int) ≤ 4294967296) :
  ∃ k1 out, laws_markIntS.F n a k = some (k1, out) ∧ k ≤ k1 ∧ k1 ≤ k + (Kd.bulk (.sl (.int .i64)) a : Int) := by
 have hl0 := bulk_len (e := .int .i64) a
 have hl1 := bulk_sl (e := .int .i64) a
 obtain ⟨k1, out, i1, i2, i3, i4⟩ := mk_IntS_l hn (K0 := fun k a => some (k, a)) a [] n k (by unfold big at hn; omega) (by simp; omega) (by omega) h0 (by omega)
 exact ⟨k1, out, i1, i2, by omega⟩
theorem mk_ExpS_l {n : Nat} (hn : big ≤ n) {K0 : Int → (List (Int × ByteArray × List Int)) → Option (Int × (List (Int × ByteArray × List Int)))} : ∀ (post pre : List (Int × ByteArray × List Int)) (f : Nat) (k : Int), post.length < f → pre.length + post.length ≤ 2147483648 → (List.map (Kd.bulk (.st (.pair (.int .i64) (.pair (.str) (.sl (.int .i64)))))) post).sum ≤ 2147483648 → 0 < k → k + ((List.map (Kd.bulk (.st (.pair (.int .i64) (.pair (.str) (.sl (.int .i64)))))) post).sum : Int) ≤ 4294967296 →
  ∃ k1 out, laws_markExpS.l0 n K0 f k (pre.length : Int) (pre ++ post) = K0 k1 (pre ++ out) ∧ k ≤ k1 ∧ k1 ≤ k + ((List.map (Kd.bulk (.st (.pair (.int .i64) (.pair (.str) (.sl (.int .i64)))))) post).sum : Int) ∧ out.length = post.length := by
 intro post
 induction post with
 | nil =>
  intro pre f k hf hl hs h0 hk
  obtain ⟨f, rfl⟩ : ∃ m, f = m + 1 := ⟨f - 1, by omega⟩
  refine ⟨k, [], ?_, by omega, by simp, rfl⟩
  ·simp only [laws_markExpS.l0, decide_eq_true_eq, end_lt, if_false]
 | cons x post ih =>
  intro pre f k hf hl hs h0 hk
  simp only [List.length_cons] at hf hl
  simp only [List.map_cons, List.sum_cons, Int.natCast_add] at hs hk ⊢
  obtain ⟨f, rfl⟩ : ∃ m, f = m + 1 := ⟨f - 1, by omega⟩
  have hw : IntKind.i64.wrap ((pre.length : Int) + 1) = (pre.length : Int) + 1 := wrap64 _ (by omega) (by omega)
  have hB : Kd.bulk (.st (.pair (.int .i64) (.pair (.str) (.sl (.int .i64))))) x = (1 + ((ByteArray.size x.2.1 + 1) + Kd.bulk (.sl (.int .i64)) x.2.2)) := rfl
  have hwk1 : IntKind.i64.wrap (k + 1) = k + 1 := wrap64 _ (by omega) (by omega)
  have hm1 := mtx_eq hn (k + 1) (by omega)
  have hwk2 : IntKind.i64.wrap (k + 1 + 1) = k + 1 + 1 := wrap64 _ (by omega) (by omega)
  obtain ⟨q2, y2, a2, b2, c2⟩ := mk_IntS hn x.2.2 (by omega) (k + 1 + 1) (by omega) (by omega)
  obtain ⟨k1, out, i1, i2, i3, i4⟩ := ih (pre ++ [(((k, (mtx n (k + 1), y2))) : Int × ByteArray × List Int)]) f q2 (by omega) (by simp; omega) (by omega) (by omega) (by omega)
  rw [List.length_append, List.length_singleton] at i1
  refine ⟨k1, (((k, (mtx n (k + 1), y2))) : Int × ByteArray × List Int) :: out, ?_, by omega, by omega, by simp [i4]⟩
  ·simp only [laws_markExpS.l0, decide_eq_true_eq, mid_lt, mid_in, if_true, Int.toNat_natCast, getD_mid, set_mid, hw, hwk1, hm1, hwk2, Option.bind_some, a2]
   simpa using i1
theorem mk_ExpS {n : Nat} (hn : big ≤ n) (a : List (Int × ByteArray × List Int)) (hb : Kd.bulk (.sl (.st (.pair (.int .i64) (.pair (.str) (.sl (.int .i64)))))) a ≤ 2147483648) (k : Int) (h0 : 0 < k) (hk : k + (Kd.bulk (.sl (.st (.pair (.int .i64) (.pair (.str) (.sl (.int .i64)))))) a : Int) ≤ 4294967296) :
  ∃ k1 out, laws_markExpS.F n a k = some (k1, out) ∧ k ≤ k1 ∧ k1 ≤ k + (Kd.bulk (.sl (.st (.pair (.int .i64) (.pair (.str) (.sl (.int .i64)))))) a : Int) := by
 have hl0 := bulk_len (e := .st (.pair (.int .i64) (.pair (.str) (.sl (.int .i64))))) a
 have hl1 := bulk_sl (e := .st (.pair (.int .i64) (.pair (.str) (.sl (.int .i64))))) a
 obtain ⟨k1, out, i1, i2, i3, i4⟩ := mk_ExpS_l hn (K0 := fun k a => some (k, a)) a [] n k (by unfold big at hn; omega) (by simp; omega) (by omega) h0 (by omega)
 exact ⟨k1, out, i1, i2, by omega⟩
theorem mk_Lit {n : Nat} (hn : big ≤ n) (a : Int × ByteArray × List Int) (hb : Kd.bulk (.st (.pair (.int .i64) (.pair (.str) (.sl (.int .i64))))) a ≤ 2147483648) (k : Int) (h0 : 0 < k) (hk : k + (Kd.bulk (.st (.pair (.int .i64) (.pair (.str) (.sl (.int .i64))))) a : Int) ≤ 4294967296) :
  ∃ k1 out, laws_markLit.F n a k = some (k1, out) ∧ k ≤ k1 ∧ k1 ≤ k + (Kd.bulk (.st (.pair (.int .i64) (.pair (.str) (.sl (.int .i64))))) a : Int) := by
 have hB : Kd.bulk (.st (.pair (.int .i64) (.pair (.str) (.sl (.int .i64))))) a = (1 + ((ByteArray.size a.2.1 + 1) + Kd.bulk (.sl (.int .i64)) a.2.2)) := rfl
 obtain ⟨q1, y1, a1, b1, c1⟩ := mk_IntS hn a.2.2 (by omega) k (by omega) (by omega)
 refine ⟨((q1, (a.1, (a.2.1, y1)))).1, ((q1, (a.1, (a.2.1, y1)))).2, ?_, ?_, ?_⟩
 ·unfold laws_markLit.F
  exact bind_eq a1 (rfl)
 ·show k ≤ q1
  omega
 ·show q1 ≤ _
  omega
theorem mk_LitS_l {n : Nat} (hn : big ≤ n) {K0 : Int → (List (Int × ByteArray × List Int)) → Option (Int × (List (Int × ByteArray × List Int)))} : ∀ (post pre : List (Int × ByteArray × List Int)) (f : Nat) (k : Int), post.length < f → pre.length + post.length ≤ 2147483648 → (List.map (Kd.bulk (.st (.pair (.int .i64) (.pair (.str) (.sl (.int .i64)))))) post).sum ≤ 2147483648 → 0 < k → k + ((List.map (Kd.bulk (.st (.pair (.int .i64) (.pair (.str) (.sl (.int .i64)))))) post).sum : Int) ≤ 4294967296 →
  ∃ k1 out, laws_markLitS.l0 n K0 f k (pre.length : Int) (pre ++ post) = K0 k1 (pre ++ out) ∧ k ≤ k1 ∧ k1 ≤ k + ((List.map (Kd.bulk (.st (.pair (.int .i64) (.pair (.str) (.sl (.int .i64)))))) post).sum : Int) ∧ out.length = post.length := by
 intro post
 induction post with
 | nil =>
  intro pre f k hf hl hs h0 hk
  obtain ⟨f, rfl⟩ : ∃ m, f = m + 1 := ⟨f - 1, by omega⟩
  refine ⟨k, [], ?_, by omega, by simp, rfl⟩
  ·simp only [laws_markLitS.l0, decide_eq_true_eq, end_lt, if_false]
 | cons x post ih =>
  intro pre f k hf hl hs h0 hk
  simp only [List.length_cons] at hf hl
  simp only [List.map_cons, List.sum_cons, Int.natCast_add] at hs hk ⊢
  obtain ⟨f, rfl⟩ : ∃ m, f = m + 1 := ⟨f - 1, by omega⟩
  have hw : IntKind.i64.wrap ((pre.length : Int) + 1) = (pre.length : Int) + 1 := wrap64 _ (by omega) (by omega)
  have hB : Kd.bulk (.st (.pair (.int .i64) (.pair (.str) (.sl (.int .i64))))) x = (1 + ((ByteArray.size x.2.1 + 1) + Kd.bulk (.sl (.int .i64)) x.2.2)) := rfl
  have hwk1 : IntKind.i64.wrap (k + 1) = k + 1 := wrap64 _ (by omega) (by omega)
  have hm1 := mtx_eq hn (k + 1) (by omega)
  have hwk2 : IntKind.i64.wrap (k + 1 + 1) = k + 1 + 1 := wrap64 _ (by omega) (by omega)
  obtain ⟨q2, y2, a2, b2, c2⟩ := mk_IntS hn x.2.2 (by omega) (k + 1 + 1) (by omega) (by omega)
  obtain ⟨k1, out, i1, i2, i3, i4⟩ := ih (pre ++ [(((k, (mtx n (k + 1), y2))) : Int × ByteArray × List Int)]) f q2 (by omega) (by simp; omega) (by omega) (by omega) (by omega)
  rw [List.length_append, List.length_singleton] at i1
  refine ⟨k1, (((k, (mtx n (k + 1), y2))) : Int × ByteArray × List Int) :: out, ?_, by omega, by omega, by simp [i4]⟩
  ·simp only [laws_markLitS.l0, decide_eq_true_eq, mid_lt, mid_in, if_true, Int.toNat_natCast, getD_mid, set_mid, hw, hwk1, hm1, hwk2, Option.bind_some, a2]
   simpa using i1
theorem mk_LitS {n : Nat} (hn : big ≤ n) (a : List (Int × ByteArray × List Int)) (hb : Kd.bulk (.sl (.st (.pair (.int .i64) (.pair (.str) (.sl (.int .i64)))))) a ≤ 2147483648) (k : Int) (h0 : 0 < k) (hk : k + (Kd.bulk (.sl (.st (.pair (.int .i64) (.pair (.str) (.sl (.int .i64)))))) a : Int) ≤ 4294967296) :
  ∃ k1 out, laws_markLitS.F n a k = some (k1, out) ∧ k ≤ k1 ∧ k1 ≤ k + (Kd.bulk (.sl (.st (.pair (.int .i64) (.pair (.str) (.sl (.int .i64)))))) a : Int) := by
 have hl0 := bulk_len (e := .st (.pair (.int .i64) (.pair (.str) (.sl (.int .i64))))) a
 have hl1 := bulk_sl (e := .st (.pair (.int .i64) (.pair (.str) (.sl (.int .i64))))) a
 obtain ⟨k1, out, i1, i2, i3, i4⟩ := mk_LitS_l hn (K0 := fun k a => some (k, a)) a [] n k (by unfold big at hn; omega) (by simp; omega) (by omega) h0 (by omega)
 exact ⟨k1, out, i1, i2, by omega⟩
theorem mk_Rule {n : Nat} (hn : big ≤ n) (a : (List (Int × ByteArray × List Int)) × (Int × ByteArray × List Int) × List (Int × ByteArray × List Int)) (hb : Kd.bulk (.st (.pair (.sl (.st (.pair (.int .i64) (.pair (.str) (.sl (.int .i64)))))) (.pair (.st (.pair (.int .i64) (.pair (.str) (.sl (.int .i64))))) (.sl (.st (.pair (.int .i64) (.pair (.str) (.sl (.int .i64))))))))) a ≤ 2147483648) (k : Int) (h0 : 0 < k) (hk : k + (Kd.bulk (.st (.pair (.sl (.st (.pair (.int .i64) (.pair (.str) (.sl (.int .i64)))))) (.pair (.st (.pair (.int .i64) (.pair (.str) (.sl (.int .i64))))) (.sl (.st (.pair (.int .i64) (.pair (.str) (.sl (.int .i64))))))))) a : Int) ≤ 4294967296) :
  ∃ k1 out, laws_markRule.F n a k = some (k1, out) ∧ k ≤ k1 ∧ k1 ≤ k + (Kd.bulk (.st (.pair (.sl (.st (.pair (.int .i64) (.pair (.str) (.sl (.int .i64)))))) (.pair (.st (.pair (.int .i64) (.pair (.str) (.sl (.int .i64))))) (.sl (.st (.pair (.int .i64) (.pair (.str) (.sl (.int .i64))))))))) a : Int) := by
 have hB : Kd.bulk (.st (.pair (.sl (.st (.pair (.int .i64) (.pair (.str) (.sl (.int .i64)))))) (.pair (.st (.pair (.int .i64) (.pair (.str) (.sl (.int .i64))))) (.sl (.st (.pair (.int .i64) (.pair (.str) (.sl (.int .i64))))))))) a = (Kd.bulk (.sl (.st (.pair (.int .i64) (.pair (.str) (.sl (.int .i64)))))) a.1 + (Kd.bulk (.st (.pair (.int .i64) (.pair (.str) (.sl (.int .i64))))) a.2.1 + Kd.bulk (.sl (.st (.pair (.int .i64) (.pair (.str) (.sl (.int .i64)))))) a.2.2)) := rfl
 obtain ⟨q1, y1, a1, b1, c1⟩ := mk_ExpS hn a.1 (by omega) k (by omega) (by omega)
 obtain ⟨q2, y2, a2, b2, c2⟩ := mk_Lit hn a.2.1 (by omega) q1 (by omega) (by omega)
 obtain ⟨q3, y3, a3, b3, c3⟩ := mk_LitS hn a.2.2 (by omega) q2 (by omega) (by omega)
 refine ⟨((q3, (y1, (y2, y3)))).1, ((q3, (y1, (y2, y3)))).2, ?_, ?_, ?_⟩
 ·unfold laws_markRule.F
  exact bind_eq a1 (bind_eq a2 (bind_eq a3 (rfl)))
 ·show k ≤ q3
  omega
 ·show q3 ≤ _
  omega
theorem mk_StringS_l {n : Nat} (hn : big ≤ n) {K0 : Int → (List ByteArray) → Option (Int × (List ByteArray))} : ∀ (post pre : List ByteArray) (f : Nat) (k : Int), post.length < f → pre.length + post.length ≤ 2147483648 → (List.map (Kd.bulk .str) post).sum ≤ 2147483648 → 0 < k → k + ((List.map (Kd.bulk .str) post).sum : Int) ≤ 4294967296 →
  ∃ k1 out, laws_markStringS.l0 n K0 f k (pre.length : Int) (pre ++ post) = K0 k1 (pre ++ out) ∧ k ≤ k1 ∧ k1 ≤ k + ((List.map (Kd.bulk .str) post).sum : Int) ∧ out.length = post.length ∧
   ∀ (pre2 : List ByteArray) (g : Nat) (H0 : Int → Option Int), pre2.length = pre.length → post.length < g → laws_heldStringS.l0 n (pre2 ++ out) H0 g k (pre.length : Int) = H0 k1 := by
 intro post
 induction post with
 | nil =>
  intro pre f k hf hl hs h0 hk
  obtain ⟨f, rfl⟩ : ∃ m, f = m + 1 := ⟨f - 1, by omega⟩
  refine ⟨k, [], ?_, by omega, by simp, rfl, fun pre2 g H0 hp hg => ?_⟩
  ·simp only [laws_markStringS.l0, decide_eq_true_eq, end_lt, if_false]
  ·obtain ⟨g, rfl⟩ : ∃ m, g = m + 1 := ⟨g - 1, by omega⟩
   rw [← hp]
   simp only [laws_heldStringS.l0, decide_eq_true_eq, end_lt, if_false]
 | cons x post ih =>
  intro pre f k hf hl hs h0 hk
  simp only [List.length_cons] at hf hl
  simp only [List.map_cons, List.sum_cons, Int.natCast_add] at hs hk ⊢
  obtain ⟨f, rfl⟩ : ∃ m, f = m + 1 := ⟨f - 1, by omega⟩
  have hw : IntKind.i64.wrap ((pre.length : Int) + 1) = (pre.length : Int) + 1 := wrap64 _ (by omega) (by omega)
  have hB : Kd.bulk .str x = (ByteArray.size x + 1) := rfl
  have hm1 := mtx_eq hn k (by omega)
  have hwk1 : IntKind.i64.wrap (k + 1) = k + 1 := wrap64 _ (by omega) (by omega)
  obtain ⟨k1, out, i1, i2, i3, i4, i5⟩ := ih (pre ++ [((mtx n k) : ByteArray)]) f (k + 1) (by omega) (by simp; omega) (by omega) (by omega) (by omega)
  rw [List.length_append, List.length_singleton] at i1 i5
  refine ⟨k1, ((mtx n k) : ByteArray) :: out, ?_, by omega, by omega, by simp [i4], fun pre2 g H0 hp hg => ?_⟩
  ·simp only [laws_markStringS.l0, decide_eq_true_eq, mid_lt, mid_in, if_true, Int.toNat_natCast, getD_mid, set_mid, hw, hm1, hwk1, Option.bind_some]
   simpa using i1
  ·obtain ⟨g, rfl⟩ : ∃ m, g = m + 1 := ⟨g - 1, by omega⟩
   have i6 := i5 (pre2 ++ [((mtx n k) : ByteArray)]) g H0 (by simp [hp]) (by simp only [List.length_cons] at hg; omega)
   rw [← hp] at i6 hw ⊢
   simp only [laws_heldStringS.l0, decide_eq_true_eq, mid_lt, mid_in, if_true, Int.toNat_natCast, getD_mid, set_mid, hw, hm1, hwk1, Option.bind_some, decide_true, Bool.not_true, Bool.false_eq_true, if_false, seq_refl, beq_self_eq_true, Bool.not_false, nn, and_self]
   simpa using i6
theorem mk_StringS {n : Nat} (hn : big ≤ n) (a : List ByteArray) (hb : Kd.bulk (.sl (.str)) a ≤ 2147483648) (k : Int) (h0 : 0 < k) (hk : k + (Kd.bulk (.sl (.str)) a : Int) ≤ 4294967296) :
  ∃ k1 out, laws_markStringS.F n a k = some (k1, out) ∧ k ≤ k1 ∧ k1 ≤ k + (Kd.bulk (.sl (.str)) a : Int) ∧ laws_heldStringS.F n out k = some k1 := by
 have hl0 := bulk_len (e := .str) a
 have hl1 := bulk_sl (e := .str) a
 obtain ⟨k1, out, i1, i2, i3, i4, i5⟩ := mk_StringS_l hn (K0 := fun k a => some (k, a)) a [] n k (by unfold big at hn; omega) (by simp; omega) (by omega) h0 (by omega)
 exact ⟨k1, out, i1, i2, by omega, i5 [] n _ rfl (by unfold big at hn; omega)⟩
theorem mk_Match {n : Nat} (hn : big ≤ n) (a : (List ByteArray) × List ByteArray) (hb : Kd.bulk (.st (.pair (.sl (.str)) (.sl (.str)))) a ≤ 2147483648) (k : Int) (h0 : 0 < k) (hk : k + (Kd.bulk (.st (.pair (.sl (.str)) (.sl (.str)))) a : Int) ≤ 4294967296) :
  ∃ k1 out, laws_markMatch.F n a k = some (k1, out) ∧ k ≤ k1 ∧ k1 ≤ k + (Kd.bulk (.st (.pair (.sl (.str)) (.sl (.str)))) a : Int) ∧ laws_heldMatch.F n out k = some k1 := by
 have hB : Kd.bulk (.st (.pair (.sl (.str)) (.sl (.str)))) a = (Kd.bulk (.sl (.str)) a.1 + Kd.bulk (.sl (.str)) a.2) := rfl
 obtain ⟨q1, y1, a1, b1, c1, d1⟩ := mk_StringS hn a.1 (by omega) k (by omega) (by omega)
 obtain ⟨q2, y2, a2, b2, c2, d2⟩ := mk_StringS hn a.2 (by omega) q1 (by omega) (by omega)
 refine ⟨((q2, (y1, y2))).1, ((q2, (y1, y2))).2, ?_, ?_, ?_, ?_⟩
 ·unfold laws_markMatch.F
  exact bind_eq a1 (bind_eq a2 (rfl))
 ·show k ≤ q2
  omega
 ·show q2 ≤ _
  omega
 ·unfold laws_heldMatch.F
  refine bind_eq d1 ?_
  try dsimp only
  rw [if_neg (by simp only [decide_eq_true_eq]; omega)]
  refine bind_eq d2 ?_
  try dsimp only
  rw [if_neg (by simp only [decide_eq_true_eq]; omega)]
  all_goals rfl
end Go.Abs
