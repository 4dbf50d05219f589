/- What the laws' helpers answer. Conditions: none. -/
import Derived.Test.YtpgedieoancjkaaF0
import Derived.Test.YtpgedieoancjkaaPl
namespace Go.Abs
set_option linter.unusedVariables false
set_option linter.unusedSimpArgs false
theorem sz_StringS_l {n : Nat} (hn : big ≤ n) (a : List ByteArray) (hb : ∀ x, x ∈ a → Kd.bulk .str x ≤ 2147483648) (hl : List.length a ≤ 2147483648) {K0 : Int → Option Int} (hK : ∀ x, ∃ r, K0 x = some r) : ∀ (d k : Nat) (left i : Int), 0 ≤ i → (List.length a : Int) - i = d → d < k → ∃ r, laws_szStringS.l0 n a K0 k left i = some r := by
  intro d
  induction d with
  | zero =>
    intro k left i h0 h1 hk
    obtain ⟨k, rfl⟩ : ∃ m, k = m + 1 := ⟨k - 1, by omega⟩
    simp only [laws_szStringS.l0, decide_eq_true_eq]
    rw [if_neg (by omega)]
    exact hK _
  | succ d ih =>
    intro k left i h0 h1 hk
    obtain ⟨k, rfl⟩ : ∃ m, k = m + 1 := ⟨k - 1, by omega⟩
    have hw : IntKind.i64.wrap (i + 1) = i + 1 := wrap64 _ (by omega) (by omega)
    have hx := hb _ (getD_mem' a i ByteArray.empty h0 (by omega))
    simp only [laws_szStringS.l0, decide_eq_true_eq, hw]
    rw [if_pos (by omega), if_pos ⟨h0, by omega⟩]
    repeat' first | exact ⟨_, rfl⟩ | exact ih _ _ _ (by omega) (by omega) (by omega) | split
theorem sz_StringS {n : Nat} (hn : big ≤ n) (a : List ByteArray) (hb : Kd.bulk (.sl (.str)) a ≤ 2147483648) (left : Int) : ∃ r, laws_szStringS.F n a left = some r := by
  have hs := bulk_sl (e := .str) a
  have hl := bulk_len (e := .str) a
  have hm : ∀ x, x ∈ a → Kd.bulk .str x ≤ 2147483648 := fun x hx => by have := bulk_mem (e := .str) hx; omega
  unfold laws_szStringS.F
  repeat' first | exact ⟨_, rfl⟩ | exact sz_StringS_l hn a hm (by omega) (fun x => ⟨_, rfl⟩) (List.length a) n _ 0 (by omega) (by omega) (by unfold big at hn; omega) | split

theorem sz_Tuple {n : Nat} (hn : big ≤ n) (a : List ByteArray) (hb : Kd.bulk (.st (.sl (.str))) a ≤ 2147483648) (left : Int) : ∃ r, laws_szTuple.F n a left = some r := by
  unfold laws_szTuple.F
  refine bind_total (sz_StringS hn _ (by simp only [Kd.bulk] at hb ⊢; omega) _) (fun r => ?_)
  try dsimp only
  split
  · exact ⟨_, rfl⟩
  exact ⟨_, rfl⟩

theorem sz_Change {n : Nat} (hn : big ≤ n) (a : Int × (List ByteArray) × Bool) (hb : Kd.bulk (.st (.pair (.int .i64) (.pair (.st (.sl (.str))) (.bool)))) a ≤ 2147483648) (left : Int) : ∃ r, laws_szChange.F n a left = some r := by
  unfold laws_szChange.F
  refine bind_total (sz_Tuple hn _ (by simp only [Kd.bulk] at hb ⊢; omega) _) (fun r => ?_)
  try dsimp only
  split
  · exact ⟨_, rfl⟩
  exact ⟨_, rfl⟩

theorem sz_ChangeS_l {n : Nat} (hn : big ≤ n) (a : List (Int × (List ByteArray) × Bool)) (hb : ∀ x, x ∈ a → Kd.bulk (.st (.pair (.int .i64) (.pair (.st (.sl (.str))) (.bool)))) x ≤ 2147483648) (hl : List.length a ≤ 2147483648) {K0 : Int → Option Int} (hK : ∀ x, ∃ r, K0 x = some r) : ∀ (d k : Nat) (left i : Int), 0 ≤ i → (List.length a : Int) - i = d → d < k → ∃ r, laws_szChangeS.l0 n a K0 k left i = some r := by
  intro d
  induction d with
  | zero =>
    intro k left i h0 h1 hk
    obtain ⟨k, rfl⟩ : ∃ m, k = m + 1 := ⟨k - 1, by omega⟩
    simp only [laws_szChangeS.l0, decide_eq_true_eq]
    rw [if_neg (by omega)]
    exact hK _
  | succ d ih =>
    intro k left i h0 h1 hk
    obtain ⟨k, rfl⟩ : ∃ m, k = m + 1 := ⟨k - 1, by omega⟩
    have hw : IntKind.i64.wrap (i + 1) = i + 1 := wrap64 _ (by omega) (by omega)
    have hx := hb _ (getD_mem' a i (0, ([], false)) h0 (by omega))
    simp only [laws_szChangeS.l0, decide_eq_true_eq, hw]
    rw [if_pos (by omega), if_pos ⟨h0, by omega⟩]
    repeat' first | exact ⟨_, rfl⟩ | exact ih _ _ _ (by omega) (by omega) (by omega) | split | refine bind_total (sz_Change hn _ hx _) (fun r => ?_)
theorem sz_ChangeS {n : Nat} (hn : big ≤ n) (a : List (Int × (List ByteArray) × Bool)) (hb : Kd.bulk (.sl (.st (.pair (.int .i64) (.pair (.st (.sl (.str))) (.bool))))) a ≤ 2147483648) (left : Int) : ∃ r, laws_szChangeS.F n a left = some r := by
  have hs := bulk_sl (e := .st (.pair (.int .i64) (.pair (.st (.sl (.str))) (.bool)))) a
  have hl := bulk_len (e := .st (.pair (.int .i64) (.pair (.st (.sl (.str))) (.bool)))) a
  have hm : ∀ x, x ∈ a → Kd.bulk (.st (.pair (.int .i64) (.pair (.st (.sl (.str))) (.bool)))) x ≤ 2147483648 := fun x hx => by have := bulk_mem (e := .st (.pair (.int .i64) (.pair (.st (.sl (.str))) (.bool)))) hx; omega
  unfold laws_szChangeS.F
  repeat' first | exact ⟨_, rfl⟩ | exact sz_ChangeS_l hn a hm (by omega) (fun x => ⟨_, rfl⟩) (List.length a) n _ 0 (by omega) (by omega) (by unfold big at hn; omega) | split

theorem to_StringS_l {n : Nat} (hn : big ≤ n) (a : List ByteArray) (hl : List.length a ≤ 2147483648) (hb : ∀ x, x ∈ a → Kd.bulk .str x ≤ 2147483648) {K0 : (List ByteArray) → Option (List ByteArray)} : ∀ (post pre junk : List ByteArray) (k : Nat), a = pre ++ post → junk.length = post.length → post.length < k → laws_toStringS.l0 n a K0 k (pre.length : Int) (pre ++ junk) = K0 a := by
  intro post
  induction post with
  | nil =>
    intro pre junk k ha hj hk
    obtain ⟨k, rfl⟩ : ∃ m, k = m + 1 := ⟨k - 1, by omega⟩
    obtain rfl : junk = [] := List.length_eq_zero_iff.1 hj
    subst ha
    simp only [laws_toStringS.l0, decide_eq_true_eq, end_lt, if_false]
  | cons x post ih =>
    intro pre junk k ha hj hk
    obtain ⟨k, rfl⟩ : ∃ m, k = m + 1 := ⟨k - 1, by omega⟩
    match junk, hj with
    | y :: junk, hj =>
      have hw : IntKind.i64.wrap ((pre.length : Int) + 1) = ((pre ++ [x]).length : Int) := by
        rw [wrap64 _ (by omega) (by rw [ha] at hl; simp at hl; omega)]; simp
      have hx := hb x (by rw [ha]; simp)
      have := ih (pre ++ [x]) junk k (by rw [ha]; simp) (by simpa using hj) (by simpa using hk)
      subst ha
      simp only [laws_toStringS.l0, decide_eq_true_eq, mid_lt, mid_in, if_true, Int.toNat_natCast, getD_mid, set_mid, hw, Option.bind_some]
      simpa using this
theorem to_StringS {n : Nat} (hn : big ≤ n) (a : List ByteArray) (hb : Kd.bulk (.sl (.str)) a ≤ 2147483648) : laws_toStringS.F n a = some a := by
  have hs := bulk_sl (e := .str) a
  have hl := bulk_len (e := .str) a
  have hm : ∀ x, x ∈ a → Kd.bulk .str x ≤ 2147483648 := fun x hx => by have := bulk_mem (e := .str) hx; omega
  unfold laws_toStringS.F
  rw [if_pos ⟨by omega, by omega, by unfold lim; omega⟩]
  exact to_StringS_l hn a (by omega) hm a [] _ n rfl (by simp) (by unfold big at hn; omega)

theorem to_Tuple {n : Nat} (hn : big ≤ n) (a : List ByteArray) (hb : Kd.bulk (.st (.sl (.str))) a ≤ 2147483648) : laws_toTuple.F n a = some a := by
  unfold laws_toTuple.F
  refine bind_eq (to_StringS hn _ (by simp only [Kd.bulk] at hb ⊢; omega)) ?_
  rfl

theorem to_Change {n : Nat} (hn : big ≤ n) (a : Int × (List ByteArray) × Bool) (hb : Kd.bulk (.st (.pair (.int .i64) (.pair (.st (.sl (.str))) (.bool)))) a ≤ 2147483648) : laws_toChange.F n a = some a := by
  unfold laws_toChange.F
  refine bind_eq (to_Tuple hn _ (by simp only [Kd.bulk] at hb ⊢; omega)) ?_
  rfl

theorem to_ChangeS_l {n : Nat} (hn : big ≤ n) (a : List (Int × (List ByteArray) × Bool)) (hl : List.length a ≤ 2147483648) (hb : ∀ x, x ∈ a → Kd.bulk (.st (.pair (.int .i64) (.pair (.st (.sl (.str))) (.bool)))) x ≤ 2147483648) {K0 : (List (Int × (List ByteArray) × Bool)) → Option (List (Int × (List ByteArray) × Bool))} : ∀ (post pre junk : List (Int × (List ByteArray) × Bool)) (k : Nat), a = pre ++ post → junk.length = post.length → post.length < k → laws_toChangeS.l0 n a K0 k (pre.length : Int) (pre ++ junk) = K0 a := by
  intro post
  induction post with
  | nil =>
    intro pre junk k ha hj hk
    obtain ⟨k, rfl⟩ : ∃ m, k = m + 1 := ⟨k - 1, by omega⟩
    obtain rfl : junk = [] := List.length_eq_zero_iff.1 hj
    subst ha
    simp only [laws_toChangeS.l0, decide_eq_true_eq, end_lt, if_false]
  | cons x post ih =>
    intro pre junk k ha hj hk
    obtain ⟨k, rfl⟩ : ∃ m, k = m + 1 := ⟨k - 1, by omega⟩
    match junk, hj with
    | y :: junk, hj =>
      have hw : IntKind.i64.wrap ((pre.length : Int) + 1) = ((pre ++ [x]).length : Int) := by
        rw [wrap64 _ (by omega) (by rw [ha] at hl; simp at hl; omega)]; simp
      have hx := hb x (by rw [ha]; simp)
      have := ih (pre ++ [x]) junk k (by rw [ha]; simp) (by simpa using hj) (by simpa using hk)
      subst ha
      simp only [laws_toChangeS.l0, decide_eq_true_eq, mid_lt, mid_in, if_true, Int.toNat_natCast, getD_mid, set_mid, hw, to_Change hn x hx, Option.bind_some]
      simpa using this
theorem to_ChangeS {n : Nat} (hn : big ≤ n) (a : List (Int × (List ByteArray) × Bool)) (hb : Kd.bulk (.sl (.st (.pair (.int .i64) (.pair (.st (.sl (.str))) (.bool))))) a ≤ 2147483648) : laws_toChangeS.F n a = some a := by
  have hs := bulk_sl (e := .st (.pair (.int .i64) (.pair (.st (.sl (.str))) (.bool)))) a
  have hl := bulk_len (e := .st (.pair (.int .i64) (.pair (.st (.sl (.str))) (.bool)))) a
  have hm : ∀ x, x ∈ a → Kd.bulk (.st (.pair (.int .i64) (.pair (.st (.sl (.str))) (.bool)))) x ≤ 2147483648 := fun x hx => by have := bulk_mem (e := .st (.pair (.int .i64) (.pair (.st (.sl (.str))) (.bool)))) hx; omega
  unfold laws_toChangeS.F
  rw [if_pos ⟨by omega, by omega, by unfold lim; omega⟩]
  exact to_ChangeS_l hn a (by omega) hm a [] _ n rfl (by simp) (by unfold big at hn; omega)

theorem eq_StringS_l {n : Nat} (hn : big ≤ n) (a : List ByteArray) (hb : ∀ x, x ∈ a → Kd.bulk .str x ≤ 2147483648) (hl : List.length a ≤ 2147483648) {K0 : Unit → Option Bool} : ∀ (d k : Nat) (i : Int), 0 ≤ i → (List.length a : Int) - i = d → d < k → laws_eqStringS.l0 n a a K0 k i = K0 () := by
  intro d
  induction d with
  | zero =>
    intro k i h0 h1 hk
    obtain ⟨k, rfl⟩ : ∃ m, k = m + 1 := ⟨k - 1, by omega⟩
    simp only [laws_eqStringS.l0, decide_eq_true_eq]
    rw [if_neg (by omega)]
  | succ d ih =>
    intro k i h0 h1 hk
    obtain ⟨k, rfl⟩ : ∃ m, k = m + 1 := ⟨k - 1, by omega⟩
    have hw : IntKind.i64.wrap (i + 1) = i + 1 := wrap64 _ (by omega) (by omega)
    have hx := hb _ (getD_mem' a i ByteArray.empty h0 (by omega))
    simp only [laws_eqStringS.l0, decide_eq_true_eq, hw]
    rw [if_pos (by omega), if_pos ⟨h0, by omega⟩, if_pos ⟨h0, by omega⟩]
    simp only [Option.bind_some, decide_true, Bool.not_true, Bool.false_eq_true, if_false, seq_refl]
    exact ih _ _ (by omega) (by omega) (by omega)
theorem eq_StringS {n : Nat} (hn : big ≤ n) (a : List ByteArray) (hb : Kd.bulk (.sl (.str)) a ≤ 2147483648) : laws_eqStringS.F n a a = some true := by
  have hs := bulk_sl (e := .str) a
  have hl := bulk_len (e := .str) a
  have hm : ∀ x, x ∈ a → Kd.bulk .str x ≤ 2147483648 := fun x hx => by have := bulk_mem (e := .str) hx; omega
  unfold laws_eqStringS.F
  rw [if_neg (by simp)]
  exact eq_StringS_l hn a hm (by omega) (List.length a) n 0 (by omega) (by omega) (by unfold big at hn; omega)

theorem eq_Tuple {n : Nat} (hn : big ≤ n) (a : List ByteArray) (hb : Kd.bulk (.st (.sl (.str))) a ≤ 2147483648) : laws_eqTuple.F n a a = some true := by
  unfold laws_eqTuple.F
  refine bind_eq (eq_StringS hn _ (by simp only [Kd.bulk] at hb ⊢; omega)) ?_
  try dsimp only
  rw [if_neg (by simp [seq_refl])]
  all_goals rfl

theorem eq_Change {n : Nat} (hn : big ≤ n) (a : Int × (List ByteArray) × Bool) (hb : Kd.bulk (.st (.pair (.int .i64) (.pair (.st (.sl (.str))) (.bool)))) a ≤ 2147483648) : laws_eqChange.F n a a = some true := by
  unfold laws_eqChange.F
  rw [if_neg (by simp [seq_refl])]
  refine bind_eq (eq_Tuple hn _ (by simp only [Kd.bulk] at hb ⊢; omega)) ?_
  try dsimp only
  rw [if_neg (by simp [seq_refl])]
  rw [if_neg (by simp [seq_refl])]
  all_goals rfl

theorem eq_ChangeS_l {n : Nat} (hn : big ≤ n) (a : List (Int × (List ByteArray) × Bool)) (hb : ∀ x, x ∈ a → Kd.bulk (.st (.pair (.int .i64) (.pair (.st (.sl (.str))) (.bool)))) x ≤ 2147483648) (hl : List.length a ≤ 2147483648) {K0 : Unit → Option Bool} : ∀ (d k : Nat) (i : Int), 0 ≤ i → (List.length a : Int) - i = d → d < k → laws_eqChangeS.l0 n a a K0 k i = K0 () := by
  intro d
  induction d with
  | zero =>
    intro k i h0 h1 hk
    obtain ⟨k, rfl⟩ : ∃ m, k = m + 1 := ⟨k - 1, by omega⟩
    simp only [laws_eqChangeS.l0, decide_eq_true_eq]
    rw [if_neg (by omega)]
  | succ d ih =>
    intro k i h0 h1 hk
    obtain ⟨k, rfl⟩ : ∃ m, k = m + 1 := ⟨k - 1, by omega⟩
    have hw : IntKind.i64.wrap (i + 1) = i + 1 := wrap64 _ (by omega) (by omega)
    have hx := hb _ (getD_mem' a i (0, ([], false)) h0 (by omega))
    simp only [laws_eqChangeS.l0, decide_eq_true_eq, hw]
    rw [if_pos (by omega), if_pos ⟨h0, by omega⟩, if_pos ⟨h0, by omega⟩]
    simp only [eq_Change hn _ hx, Option.bind_some, decide_true, Bool.not_true, Bool.false_eq_true, if_false, seq_refl]
    exact ih _ _ (by omega) (by omega) (by omega)
theorem eq_ChangeS {n : Nat} (hn : big ≤ n) (a : List (Int × (List ByteArray) × Bool)) (hb : Kd.bulk (.sl (.st (.pair (.int .i64) (.pair (.st (.sl (.str))) (.bool))))) a ≤ 2147483648) : laws_eqChangeS.F n a a = some true := by
  have hs := bulk_sl (e := .st (.pair (.int .i64) (.pair (.st (.sl (.str))) (.bool)))) a
  have hl := bulk_len (e := .st (.pair (.int .i64) (.pair (.st (.sl (.str))) (.bool)))) a
  have hm : ∀ x, x ∈ a → Kd.bulk (.st (.pair (.int .i64) (.pair (.st (.sl (.str))) (.bool)))) x ≤ 2147483648 := fun x hx => by have := bulk_mem (e := .st (.pair (.int .i64) (.pair (.st (.sl (.str))) (.bool)))) hx; omega
  unfold laws_eqChangeS.F
  rw [if_neg (by simp)]
  exact eq_ChangeS_l hn a hm (by omega) (List.length a) n 0 (by omega) (by omega) (by unfold big at hn; omega)

/-- the text of a mark -/
def mtx (n : Nat) (k : Int) : ByteArray := (laws_markText.F n k).getD ByteArray.empty

theorem bstr1 (x : Int) : ByteArray.size (bstr [x]) = 1 := rfl

theorem mark_Text_l {n : Nat} {K0 : ByteArray → Option ByteArray} (hK : ∀ x : ByteArray, x.size ≤ 64 → ∃ r, K0 x = some r) : ∀ (d k : Nat) (z : Int) (out : ByteArray), z < 10 ^ d → z ≤ 4294967296 → d < k → out.size + d ≤ 40 → ∃ r, laws_markText.l0 n K0 k z out = some r := by
  intro d
  induction d with
  | zero =>
    intro k z out hz hz2 hk ho
    obtain ⟨k, rfl⟩ : ∃ m, k = m + 1 := ⟨k - 1, by omega⟩
    simp only [laws_markText.l0, decide_eq_true_eq]
    rw [if_neg (by simp at hz; omega)]
    exact hK _ (by omega)
  | succ d ih =>
    intro k z out hz hz2 hk ho
    obtain ⟨k, rfl⟩ : ∃ m, k = m + 1 := ⟨k - 1, by omega⟩
    simp only [laws_markText.l0, decide_eq_true_eq]
    split
    · rename_i hp
      have hlt : z / 10 < 10 ^ d := by rw [Int.pow_succ] at hz; omega
      have e1 : Int.tdiv z 10 = z / 10 := Int.tdiv_eq_ediv_of_nonneg (by omega)
      rw [if_pos (by rw [bstr1]; unfold lim; omega), e1, wrap64 _ (by omega) (by omega)]
      exact ih k _ _ hlt (by omega) (by omega) (by rw [ByteArray.size_append, bstr1]; omega)
    · exact hK _ (by omega)

theorem mtx_eq {n : Nat} (hn : big ≤ n) (k : Int) (hk : k ≤ 4294967296) : laws_markText.F n k = some (mtx n k) := by
  have : ∃ r, laws_markText.F n k = some r := by
    unfold laws_markText.F
    split
    · exact ⟨_, rfl⟩
    · exact mark_Text_l (fun x hx => by rw [if_pos (by show 1 + x.size ≤ lim; unfold lim; omega)]; exact ⟨_, rfl⟩) 10 n k _ (by omega) (by omega) (by unfold big at hn; omega) (by show 0 + 10 ≤ 40; omega)
  obtain ⟨r, hr⟩ := this
  rw [mtx, hr]; rfl

theorem mk_StringS_l {n : Nat} (hn : big ≤ n) {K0 : Int → (List ByteArray) → Option (Int × (List ByteArray))} : ∀ (post pre : List ByteArray) (f : Nat) (k : Int), post.length < f → pre.length + post.length ≤ 2147483648 → (List.map (Kd.bulk .str) post).sum ≤ 2147483648 → 0 < k → k + ((List.map (Kd.bulk .str) post).sum : Int) ≤ 4294967296 →
    ∃ k1 out, laws_markStringS.l0 n K0 f k (pre.length : Int) (pre ++ post) = K0 k1 (pre ++ out) ∧ k ≤ k1 ∧ k1 ≤ k + ((List.map (Kd.bulk .str) post).sum : Int) ∧ out.length = post.length ∧
      ∀ (pre2 : List ByteArray) (g : Nat) (H0 : Int → Option Int), pre2.length = pre.length → post.length < g → laws_heldStringS.l0 n (pre2 ++ out) H0 g k (pre.length : Int) = H0 k1 := by
  intro post
  induction post with
  | nil =>
    intro pre f k hf hl hs h0 hk
    obtain ⟨f, rfl⟩ : ∃ m, f = m + 1 := ⟨f - 1, by omega⟩
    refine ⟨k, [], ?_, by omega, by simp, rfl, fun pre2 g H0 hp hg => ?_⟩
    · simp only [laws_markStringS.l0, decide_eq_true_eq, end_lt, if_false]
    · obtain ⟨g, rfl⟩ : ∃ m, g = m + 1 := ⟨g - 1, by omega⟩
      rw [← hp]
      simp only [laws_heldStringS.l0, decide_eq_true_eq, end_lt, if_false]
  | cons x post ih =>
    intro pre f k hf hl hs h0 hk
    simp only [List.length_cons] at hf hl
    simp only [List.map_cons, List.sum_cons, Int.natCast_add] at hs hk ⊢
    obtain ⟨f, rfl⟩ : ∃ m, f = m + 1 := ⟨f - 1, by omega⟩
    have hw : IntKind.i64.wrap ((pre.length : Int) + 1) = (pre.length : Int) + 1 := wrap64 _ (by omega) (by omega)
    have hB : Kd.bulk .str x = (ByteArray.size x + 1) := rfl
    have hm1 := mtx_eq hn k (by omega)
    have hwk1 : IntKind.i64.wrap (k + 1) = k + 1 := wrap64 _ (by omega) (by omega)
    obtain ⟨k1, out, i1, i2, i3, i4, i5⟩ := ih (pre ++ [((mtx n k) : ByteArray)]) f (k + 1) (by omega) (by simp; omega) (by omega) (by omega) (by omega)
    rw [List.length_append, List.length_singleton] at i1 i5
    refine ⟨k1, ((mtx n k) : ByteArray) :: out, ?_, by omega, by omega, by simp [i4], fun pre2 g H0 hp hg => ?_⟩
    · simp only [laws_markStringS.l0, decide_eq_true_eq, mid_lt, mid_in, if_true, Int.toNat_natCast, getD_mid, set_mid, hw, hm1, hwk1, Option.bind_some]
      simpa using i1
    · obtain ⟨g, rfl⟩ : ∃ m, g = m + 1 := ⟨g - 1, by omega⟩
      have i6 := i5 (pre2 ++ [((mtx n k) : ByteArray)]) g H0 (by simp [hp]) (by simp only [List.length_cons] at hg; omega)
      rw [← hp] at i6 hw ⊢
      simp only [laws_heldStringS.l0, decide_eq_true_eq, mid_lt, mid_in, if_true, Int.toNat_natCast, getD_mid, set_mid, hw, hm1, hwk1, Option.bind_some, decide_true, Bool.not_true, Bool.false_eq_true, if_false, seq_refl, beq_self_eq_true, Bool.not_false, nn, and_self]
      simpa using i6
theorem mk_StringS {n : Nat} (hn : big ≤ n) (a : List ByteArray) (hb : Kd.bulk (.sl (.str)) a ≤ 2147483648) (k : Int) (h0 : 0 < k) (hk : k + (Kd.bulk (.sl (.str)) a : Int) ≤ 4294967296) :
    ∃ k1 out, laws_markStringS.F n a k = some (k1, out) ∧ k ≤ k1 ∧ k1 ≤ k + (Kd.bulk (.sl (.str)) a : Int) ∧ laws_heldStringS.F n out k = some k1 := by
  have hl0 := bulk_len (e := .str) a
  have hl1 := bulk_sl (e := .str) a
  obtain ⟨k1, out, i1, i2, i3, i4, i5⟩ := mk_StringS_l hn (K0 := fun k a => some (k, a)) a [] n k (by unfold big at hn; omega) (by simp; omega) (by omega) h0 (by omega)
  exact ⟨k1, out, i1, i2, by omega, i5 [] n _ rfl (by unfold big at hn; omega)⟩

theorem mk_ChangeS_l {n : Nat} (hn : big ≤ n) {K0 : Int → (List (Int × (List ByteArray) × Bool)) → Option (Int × (List (Int × (List ByteArray) × Bool)))} : ∀ (post pre : List (Int × (List ByteArray) × Bool)) (f : Nat) (k : Int), post.length < f → pre.length + post.length ≤ 2147483648 → (List.map (Kd.bulk (.st (.pair (.int .i64) (.pair (.st (.sl (.str))) (.bool))))) post).sum ≤ 2147483648 → 0 < k → k + ((List.map (Kd.bulk (.st (.pair (.int .i64) (.pair (.st (.sl (.str))) (.bool))))) post).sum : Int) ≤ 4294967296 →
    ∃ k1 out, laws_markChangeS.l0 n K0 f k (pre.length : Int) (pre ++ post) = K0 k1 (pre ++ out) ∧ k ≤ k1 ∧ k1 ≤ k + ((List.map (Kd.bulk (.st (.pair (.int .i64) (.pair (.st (.sl (.str))) (.bool))))) post).sum : Int) ∧ out.length = post.length ∧
      ∀ (pre2 : List (Int × (List ByteArray) × Bool)) (g : Nat) (H0 : Int → Option Int), pre2.length = pre.length → post.length < g → laws_heldChangeS.l0 n (pre2 ++ out) H0 g k (pre.length : Int) = H0 k1 := by
  intro post
  induction post with
  | nil =>
    intro pre f k hf hl hs h0 hk
    obtain ⟨f, rfl⟩ : ∃ m, f = m + 1 := ⟨f - 1, by omega⟩
    refine ⟨k, [], ?_, by omega, by simp, rfl, fun pre2 g H0 hp hg => ?_⟩
    · simp only [laws_markChangeS.l0, decide_eq_true_eq, end_lt, if_false]
    · obtain ⟨g, rfl⟩ : ∃ m, g = m + 1 := ⟨g - 1, by omega⟩
      rw [← hp]
      simp only [laws_heldChangeS.l0, decide_eq_true_eq, end_lt, if_false]
  | cons x post ih =>
    intro pre f k hf hl hs h0 hk
    simp only [List.length_cons] at hf hl
    simp only [List.map_cons, List.sum_cons, Int.natCast_add] at hs hk ⊢
    obtain ⟨f, rfl⟩ : ∃ m, f = m + 1 := ⟨f - 1, by omega⟩
    have hw : IntKind.i64.wrap ((pre.length : Int) + 1) = (pre.length : Int) + 1 := wrap64 _ (by omega) (by omega)
    have hB : Kd.bulk (.st (.pair (.int .i64) (.pair (.st (.sl (.str))) (.bool)))) x = (1 + (Kd.bulk (.sl (.str)) x.2.1 + 1)) := rfl
    have hwk1 : IntKind.i64.wrap (k + 1) = k + 1 := wrap64 _ (by omega) (by omega)
    obtain ⟨q1, y1, a1, b1, c1, d1⟩ := mk_StringS hn x.2.1 (by omega) (k + 1) (by omega) (by omega)
    have hwk2 : IntKind.i64.wrap (q1 + 1) = q1 + 1 := wrap64 _ (by omega) (by omega)
    obtain ⟨k1, out, i1, i2, i3, i4, i5⟩ := ih (pre ++ [(((k, (y1, decide (Int.tmod q1 3 = 0)))) : Int × (List ByteArray) × Bool)]) f (q1 + 1) (by omega) (by simp; omega) (by omega) (by omega) (by omega)
    rw [List.length_append, List.length_singleton] at i1 i5
    refine ⟨k1, (((k, (y1, decide (Int.tmod q1 3 = 0)))) : Int × (List ByteArray) × Bool) :: out, ?_, by omega, by omega, by simp [i4], fun pre2 g H0 hp hg => ?_⟩
    · simp only [laws_markChangeS.l0, decide_eq_true_eq, mid_lt, mid_in, if_true, Int.toNat_natCast, getD_mid, set_mid, hw, hwk1, hwk2, Option.bind_some, a1]
      simpa using i1
    · obtain ⟨g, rfl⟩ : ∃ m, g = m + 1 := ⟨g - 1, by omega⟩
      have i6 := i5 (pre2 ++ [(((k, (y1, decide (Int.tmod q1 3 = 0)))) : Int × (List ByteArray) × Bool)]) g H0 (by simp [hp]) (by simp only [List.length_cons] at hg; omega)
      rw [← hp] at i6 hw ⊢
      simp only [laws_heldChangeS.l0, decide_eq_true_eq, mid_lt, mid_in, if_true, Int.toNat_natCast, getD_mid, set_mid, hw, hwk1, hwk2, Option.bind_some, d1, decide_true, Bool.not_true, Bool.false_eq_true, if_false, seq_refl, beq_self_eq_true, Bool.not_false, nn, and_self]
      rw [if_neg (by omega)]
      simpa using i6
theorem mk_ChangeS {n : Nat} (hn : big ≤ n) (a : List (Int × (List ByteArray) × Bool)) (hb : Kd.bulk (.sl (.st (.pair (.int .i64) (.pair (.st (.sl (.str))) (.bool))))) a ≤ 2147483648) (k : Int) (h0 : 0 < k) (hk : k + (Kd.bulk (.sl (.st (.pair (.int .i64) (.pair (.st (.sl (.str))) (.bool))))) a : Int) ≤ 4294967296) :
    ∃ k1 out, laws_markChangeS.F n a k = some (k1, out) ∧ k ≤ k1 ∧ k1 ≤ k + (Kd.bulk (.sl (.st (.pair (.int .i64) (.pair (.st (.sl (.str))) (.bool))))) a : Int) ∧ laws_heldChangeS.F n out k = some k1 := by
  have hl0 := bulk_len (e := .st (.pair (.int .i64) (.pair (.st (.sl (.str))) (.bool)))) a
  have hl1 := bulk_sl (e := .st (.pair (.int .i64) (.pair (.st (.sl (.str))) (.bool)))) a
  obtain ⟨k1, out, i1, i2, i3, i4, i5⟩ := mk_ChangeS_l hn (K0 := fun k a => some (k, a)) a [] n k (by unfold big at hn; omega) (by simp; omega) (by omega) h0 (by omega)
  exact ⟨k1, out, i1, i2, by omega, i5 [] n _ rfl (by unfold big at hn; omega)⟩

end Go.Abs
