/- What the laws' helpers answer. Conditions: none. -/
import Derived.Test.YtahdigojpapcdaaGreatDoorF0
import Derived.Test.YtahdigojpapcdaaGreatDoorPl
namespace Go.Abs
set_option linter.unusedVariables false
set_option linter.unusedSimpArgs false
theorem sz_StringS_l {n : Nat} (hn : big ≤ n) (a : List ByteArray) (hb : ∀ x, x ∈ a → Kd.bulk .str x ≤ 2147483648) (hl : List.length a ≤ 2147483648) {K0 : Int → Option Int} (hK : ∀ x, ∃ r, K0 x = some r) : ∀ (d k : Nat) (left i : Int), 0 ≤ i → (List.length a : Int) - i = d → d < k → ∃ r, laws_szStringS.l0 n a K0 k left i = some r := by
  intro d
  induction d with
  | zero =>
    intro k left i h0 h1 hk
    obtain ⟨k, rfl⟩ : ∃ m, k = m + 1 := ⟨k - 1, by omega⟩
    simp only [laws_szStringS.l0, decide_eq_true_eq]
    rw [if_neg (by omega)]
    exact hK _
  | succ d ih =>
    intro k left i h0 h1 hk
    obtain ⟨k, rfl⟩ : ∃ m, k = m + 1 := ⟨k - 1, by omega⟩
    have hw : IntKind.i64.wrap (i + 1) = i + 1 := wrap64 _ (by omega) (by omega)
    have hx := hb _ (getD_mem' a i ByteArray.empty h0 (by omega))
    simp only [laws_szStringS.l0, decide_eq_true_eq, hw]
    rw [if_pos (by omega), if_pos ⟨h0, by omega⟩]
    repeat' first | exact ⟨_, rfl⟩ | exact ih _ _ _ (by omega) (by omega) (by omega) | split
theorem sz_StringS {n : Nat} (hn : big ≤ n) (a : List ByteArray) (hb : Kd.bulk (.sl (.str)) a ≤ 2147483648) (left : Int) : ∃ r, laws_szStringS.F n a left = some r := by
  have hs := bulk_sl (e := .str) a
  have hl := bulk_len (e := .str) a
  have hm : ∀ x, x ∈ a → Kd.bulk .str x ≤ 2147483648 := fun x hx => by have := bulk_mem (e := .str) hx; omega
  unfold laws_szStringS.F
  repeat' first | exact ⟨_, rfl⟩ | exact sz_StringS_l hn a hm (by omega) (fun x => ⟨_, rfl⟩) (List.length a) n _ 0 (by omega) (by omega) (by unfold big at hn; omega) | split

theorem sz_Tuple {n : Nat} (hn : big ≤ n) (a : List ByteArray) (hb : Kd.bulk (.st (.sl (.str))) a ≤ 2147483648) (left : Int) : ∃ r, laws_szTuple.F n a left = some r := by
  unfold laws_szTuple.F
  refine bind_total (sz_StringS hn _ (by simp only [Kd.bulk] at hb ⊢; omega) _) (fun r => ?_)
  try dsimp only
  split
  · exact ⟨_, rfl⟩
  exact ⟨_, rfl⟩

theorem sz_TupleS_l {n : Nat} (hn : big ≤ n) (a : List (List ByteArray)) (hb : ∀ x, x ∈ a → Kd.bulk (.st (.sl (.str))) x ≤ 2147483648) (hl : List.length a ≤ 2147483648) {K0 : Int → Option Int} (hK : ∀ x, ∃ r, K0 x = some r) : ∀ (d k : Nat) (left i : Int), 0 ≤ i → (List.length a : Int) - i = d → d < k → ∃ r, laws_szTupleS.l0 n a K0 k left i = some r := by
  intro d
  induction d with
  | zero =>
    intro k left i h0 h1 hk
    obtain ⟨k, rfl⟩ : ∃ m, k = m + 1 := ⟨k - 1, by omega⟩
    simp only [laws_szTupleS.l0, decide_eq_true_eq]
    rw [if_neg (by omega)]
    exact hK _
  | succ d ih =>
    intro k left i h0 h1 hk
    obtain ⟨k, rfl⟩ : ∃ m, k = m + 1 := ⟨k - 1, by omega⟩
    have hw : IntKind.i64.wrap (i + 1) = i + 1 := wrap64 _ (by omega) (by omega)
    have hx := hb _ (getD_mem' a i [] h0 (by omega))
    simp only [laws_szTupleS.l0, decide_eq_true_eq, hw]
    rw [if_pos (by omega), if_pos ⟨h0, by omega⟩]
    repeat' first | exact ⟨_, rfl⟩ | exact ih _ _ _ (by omega) (by omega) (by omega) | split | refine bind_total (sz_Tuple hn _ hx _) (fun r => ?_)
theorem sz_TupleS {n : Nat} (hn : big ≤ n) (a : List (List ByteArray)) (hb : Kd.bulk (.sl (.st (.sl (.str)))) a ≤ 2147483648) (left : Int) : ∃ r, laws_szTupleS.F n a left = some r := by
  have hs := bulk_sl (e := .st (.sl (.str))) a
  have hl := bulk_len (e := .st (.sl (.str))) a
  have hm : ∀ x, x ∈ a → Kd.bulk (.st (.sl (.str))) x ≤ 2147483648 := fun x hx => by have := bulk_mem (e := .st (.sl (.str))) hx; omega
  unfold laws_szTupleS.F
  repeat' first | exact ⟨_, rfl⟩ | exact sz_TupleS_l hn a hm (by omega) (fun x => ⟨_, rfl⟩) (List.length a) n _ 0 (by omega) (by omega) (by unfold big at hn; omega) | split

theorem sz_Rel {n : Nat} (hn : big ≤ n) (a : Int × List (List ByteArray)) (hb : Kd.bulk (.st (.pair (.int .i64) (.sl (.st (.sl (.str)))))) a ≤ 2147483648) (left : Int) : ∃ r, laws_szRel.F n a left = some r := by
  unfold laws_szRel.F
  refine bind_total (sz_TupleS hn _ (by simp only [Kd.bulk] at hb ⊢; omega) _) (fun r => ?_)
  try dsimp only
  split
  · exact ⟨_, rfl⟩
  exact ⟨_, rfl⟩

theorem sz_RelS_l {n : Nat} (hn : big ≤ n) (a : List (Int × List (List ByteArray))) (hb : ∀ x, x ∈ a → Kd.bulk (.st (.pair (.int .i64) (.sl (.st (.sl (.str)))))) x ≤ 2147483648) (hl : List.length a ≤ 2147483648) {K0 : Int → Option Int} (hK : ∀ x, ∃ r, K0 x = some r) : ∀ (d k : Nat) (left i : Int), 0 ≤ i → (List.length a : Int) - i = d → d < k → ∃ r, laws_szRelS.l0 n a K0 k left i = some r := by
  intro d
  induction d with
  | zero =>
    intro k left i h0 h1 hk
    obtain ⟨k, rfl⟩ : ∃ m, k = m + 1 := ⟨k - 1, by omega⟩
    simp only [laws_szRelS.l0, decide_eq_true_eq]
    rw [if_neg (by omega)]
    exact hK _
  | succ d ih =>
    intro k left i h0 h1 hk
    obtain ⟨k, rfl⟩ : ∃ m, k = m + 1 := ⟨k - 1, by omega⟩
    have hw : IntKind.i64.wrap (i + 1) = i + 1 := wrap64 _ (by omega) (by omega)
    have hx := hb _ (getD_mem' a i (0, []) h0 (by omega))
    simp only [laws_szRelS.l0, decide_eq_true_eq, hw]
    rw [if_pos (by omega), if_pos ⟨h0, by omega⟩]
    repeat' first | exact ⟨_, rfl⟩ | exact ih _ _ _ (by omega) (by omega) (by omega) | split | refine bind_total (sz_Rel hn _ hx _) (fun r => ?_)
theorem sz_RelS {n : Nat} (hn : big ≤ n) (a : List (Int × List (List ByteArray))) (hb : Kd.bulk (.sl (.st (.pair (.int .i64) (.sl (.st (.sl (.str))))))) a ≤ 2147483648) (left : Int) : ∃ r, laws_szRelS.F n a left = some r := by
  have hs := bulk_sl (e := .st (.pair (.int .i64) (.sl (.st (.sl (.str)))))) a
  have hl := bulk_len (e := .st (.pair (.int .i64) (.sl (.st (.sl (.str)))))) a
  have hm : ∀ x, x ∈ a → Kd.bulk (.st (.pair (.int .i64) (.sl (.st (.sl (.str)))))) x ≤ 2147483648 := fun x hx => by have := bulk_mem (e := .st (.pair (.int .i64) (.sl (.st (.sl (.str)))))) hx; omega
  unfold laws_szRelS.F
  repeat' first | exact ⟨_, rfl⟩ | exact sz_RelS_l hn a hm (by omega) (fun x => ⟨_, rfl⟩) (List.length a) n _ 0 (by omega) (by omega) (by unfold big at hn; omega) | split

theorem sz_Db {n : Nat} (hn : big ≤ n) (a : List (Int × List (List ByteArray))) (hb : Kd.bulk (.st (.sl (.st (.pair (.int .i64) (.sl (.st (.sl (.str)))))))) a ≤ 2147483648) (left : Int) : ∃ r, laws_szDb.F n a left = some r := by
  unfold laws_szDb.F
  refine bind_total (sz_RelS hn _ (by simp only [Kd.bulk] at hb ⊢; omega) _) (fun r => ?_)
  try dsimp only
  split
  · exact ⟨_, rfl⟩
  exact ⟨_, rfl⟩

theorem to_StringS_l {n : Nat} (hn : big ≤ n) (a : List ByteArray) (hl : List.length a ≤ 2147483648) (hb : ∀ x, x ∈ a → Kd.bulk .str x ≤ 2147483648) {K0 : (List ByteArray) → Option (List ByteArray)} : ∀ (post pre junk : List ByteArray) (k : Nat), a = pre ++ post → junk.length = post.length → post.length < k → laws_toStringS.l0 n a K0 k (pre.length : Int) (pre ++ junk) = K0 a := by
  intro post
  induction post with
  | nil =>
    intro pre junk k ha hj hk
    obtain ⟨k, rfl⟩ : ∃ m, k = m + 1 := ⟨k - 1, by omega⟩
    obtain rfl : junk = [] := List.length_eq_zero_iff.1 hj
    subst ha
    simp only [laws_toStringS.l0, decide_eq_true_eq, end_lt, if_false]
  | cons x post ih =>
    intro pre junk k ha hj hk
    obtain ⟨k, rfl⟩ : ∃ m, k = m + 1 := ⟨k - 1, by omega⟩
    match junk, hj with
    | y :: junk, hj =>
      have hw : IntKind.i64.wrap ((pre.length : Int) + 1) = ((pre ++ [x]).length : Int) := by
        rw [wrap64 _ (by omega) (by rw [ha] at hl; simp at hl; omega)]; simp
      have hx := hb x (by rw [ha]; simp)
      have := ih (pre ++ [x]) junk k (by rw [ha]; simp) (by simpa using hj) (by simpa using hk)
      subst ha
      simp only [laws_toStringS.l0, decide_eq_true_eq, mid_lt, mid_in, if_true, Int.toNat_natCast, getD_mid, set_mid, hw, Option.bind_some]
      simpa using this
theorem to_StringS {n : Nat} (hn : big ≤ n) (a : List ByteArray) (hb : Kd.bulk (.sl (.str)) a ≤ 2147483648) : laws_toStringS.F n a = some a := by
  have hs := bulk_sl (e := .str) a
  have hl := bulk_len (e := .str) a
  have hm : ∀ x, x ∈ a → Kd.bulk .str x ≤ 2147483648 := fun x hx => by have := bulk_mem (e := .str) hx; omega
  unfold laws_toStringS.F
  rw [if_pos ⟨by omega, by omega, by unfold lim; omega⟩]
  exact to_StringS_l hn a (by omega) hm a [] _ n rfl (by simp) (by unfold big at hn; omega)

theorem to_Tuple {n : Nat} (hn : big ≤ n) (a : List ByteArray) (hb : Kd.bulk (.st (.sl (.str))) a ≤ 2147483648) : laws_toTuple.F n a = some a := by
  unfold laws_toTuple.F
  refine bind_eq (to_StringS hn _ (by simp only [Kd.bulk] at hb ⊢; omega)) ?_
  rfl

theorem to_TupleS_l {n : Nat} (hn : big ≤ n) (a : List (List ByteArray)) (hl : List.length a ≤ 2147483648) (hb : ∀ x, x ∈ a → Kd.bulk (.st (.sl (.str))) x ≤ 2147483648) {K0 : (List (List ByteArray)) → Option (List (List ByteArray))} : ∀ (post pre junk : List (List ByteArray)) (k : Nat), a = pre ++ post → junk.length = post.length → post.length < k → laws_toTupleS.l0 n a K0 k (pre.length : Int) (pre ++ junk) = K0 a := by
  intro post
  induction post with
  | nil =>
    intro pre junk k ha hj hk
    obtain ⟨k, rfl⟩ : ∃ m, k = m + 1 := ⟨k - 1, by omega⟩
    obtain rfl : junk = [] := List.length_eq_zero_iff.1 hj
    subst ha
    simp only [laws_toTupleS.l0, decide_eq_true_eq, end_lt, if_false]
  | cons x post ih =>
    intro pre junk k ha hj hk
    obtain ⟨k, rfl⟩ : ∃ m, k = m + 1 := ⟨k - 1, by omega⟩
    match junk, hj with
    | y :: junk, hj =>
      have hw : IntKind.i64.wrap ((pre.length : Int) + 1) = ((pre ++ [x]).length : Int) := by
        rw [wrap64 _ (by omega) (by rw [ha] at hl; simp at hl; omega)]; simp
      have hx := hb x (by rw [ha]; simp)
      have := ih (pre ++ [x]) junk k (by rw [ha]; simp) (by simpa using hj) (by simpa using hk)
      subst ha
      simp only [laws_toTupleS.l0, decide_eq_true_eq, mid_lt, mid_in, if_true, Int.toNat_natCast, getD_mid, set_mid, hw, to_Tuple hn x hx, Option.bind_some]
      simpa using this
theorem to_TupleS {n : Nat} (hn : big ≤ n) (a : List (List ByteArray)) (hb : Kd.bulk (.sl (.st (.sl (.str)))) a ≤ 2147483648) : laws_toTupleS.F n a = some a := by
  have hs := bulk_sl (e := .st (.sl (.str))) a
  have hl := bulk_len (e := .st (.sl (.str))) a
  have hm : ∀ x, x ∈ a → Kd.bulk (.st (.sl (.str))) x ≤ 2147483648 := fun x hx => by have := bulk_mem (e := .st (.sl (.str))) hx; omega
  unfold laws_toTupleS.F
  rw [if_pos ⟨by omega, by omega, by unfold lim; omega⟩]
  exact to_TupleS_l hn a (by omega) hm a [] _ n rfl (by simp) (by unfold big at hn; omega)

theorem to_Rel {n : Nat} (hn : big ≤ n) (a : Int × List (List ByteArray)) (hb : Kd.bulk (.st (.pair (.int .i64) (.sl (.st (.sl (.str)))))) a ≤ 2147483648) : laws_toRel.F n a = some a := by
  unfold laws_toRel.F
  refine bind_eq (to_TupleS hn _ (by simp only [Kd.bulk] at hb ⊢; omega)) ?_
  rfl

theorem to_RelS_l {n : Nat} (hn : big ≤ n) (a : List (Int × List (List ByteArray))) (hl : List.length a ≤ 2147483648) (hb : ∀ x, x ∈ a → Kd.bulk (.st (.pair (.int .i64) (.sl (.st (.sl (.str)))))) x ≤ 2147483648) {K0 : (List (Int × List (List ByteArray))) → Option (List (Int × List (List ByteArray)))} : ∀ (post pre junk : List (Int × List (List ByteArray))) (k : Nat), a = pre ++ post → junk.length = post.length → post.length < k → laws_toRelS.l0 n a K0 k (pre.length : Int) (pre ++ junk) = K0 a := by
  intro post
  induction post with
  | nil =>
    intro pre junk k ha hj hk
    obtain ⟨k, rfl⟩ : ∃ m, k = m + 1 := ⟨k - 1, by omega⟩
    obtain rfl : junk = [] := List.length_eq_zero_iff.1 hj
    subst ha
    simp only [laws_toRelS.l0, decide_eq_true_eq, end_lt, if_false]
  | cons x post ih =>
    intro pre junk k ha hj hk
    obtain ⟨k, rfl⟩ : ∃ m, k = m + 1 := ⟨k - 1, by omega⟩
    match junk, hj with
    | y :: junk, hj =>
      have hw : IntKind.i64.wrap ((pre.length : Int) + 1) = ((pre ++ [x]).length : Int) := by
        rw [wrap64 _ (by omega) (by rw [ha] at hl; simp at hl; omega)]; simp
      have hx := hb x (by rw [ha]; simp)
      have := ih (pre ++ [x]) junk k (by rw [ha]; simp) (by simpa using hj) (by simpa using hk)
      subst ha
      simp only [laws_toRelS.l0, decide_eq_true_eq, mid_lt, mid_in, if_true, Int.toNat_natCast, getD_mid, set_mid, hw, to_Rel hn x hx, Option.bind_some]
      simpa using this
theorem to_RelS {n : Nat} (hn : big ≤ n) (a : List (Int × List (List ByteArray))) (hb : Kd.bulk (.sl (.st (.pair (.int .i64) (.sl (.st (.sl (.str))))))) a ≤ 2147483648) : laws_toRelS.F n a = some a := by
  have hs := bulk_sl (e := .st (.pair (.int .i64) (.sl (.st (.sl (.str)))))) a
  have hl := bulk_len (e := .st (.pair (.int .i64) (.sl (.st (.sl (.str)))))) a
  have hm : ∀ x, x ∈ a → Kd.bulk (.st (.pair (.int .i64) (.sl (.st (.sl (.str)))))) x ≤ 2147483648 := fun x hx => by have := bulk_mem (e := .st (.pair (.int .i64) (.sl (.st (.sl (.str)))))) hx; omega
  unfold laws_toRelS.F
  rw [if_pos ⟨by omega, by omega, by unfold lim; omega⟩]
  exact to_RelS_l hn a (by omega) hm a [] _ n rfl (by simp) (by unfold big at hn; omega)

theorem to_Db {n : Nat} (hn : big ≤ n) (a : List (Int × List (List ByteArray))) (hb : Kd.bulk (.st (.sl (.st (.pair (.int .i64) (.sl (.st (.sl (.str)))))))) a ≤ 2147483648) : laws_toDb.F n a = some a := by
  unfold laws_toDb.F
  refine bind_eq (to_RelS hn _ (by simp only [Kd.bulk] at hb ⊢; omega)) ?_
  rfl

theorem eq_StringS_l {n : Nat} (hn : big ≤ n) (a : List ByteArray) (hb : ∀ x, x ∈ a → Kd.bulk .str x ≤ 2147483648) (hl : List.length a ≤ 2147483648) {K0 : Unit → Option Bool} : ∀ (d k : Nat) (i : Int), 0 ≤ i → (List.length a : Int) - i = d → d < k → laws_eqStringS.l0 n a a K0 k i = K0 () := by
  intro d
  induction d with
  | zero =>
    intro k i h0 h1 hk
    obtain ⟨k, rfl⟩ : ∃ m, k = m + 1 := ⟨k - 1, by omega⟩
    simp only [laws_eqStringS.l0, decide_eq_true_eq]
    rw [if_neg (by omega)]
  | succ d ih =>
    intro k i h0 h1 hk
    obtain ⟨k, rfl⟩ : ∃ m, k = m + 1 := ⟨k - 1, by omega⟩
    have hw : IntKind.i64.wrap (i + 1) = i + 1 := wrap64 _ (by omega) (by omega)
    have hx := hb _ (getD_mem' a i ByteArray.empty h0 (by omega))
    simp only [laws_eqStringS.l0, decide_eq_true_eq, hw]
    rw [if_pos (by omega), if_pos ⟨h0, by omega⟩, if_pos ⟨h0, by omega⟩]
    simp only [Option.bind_some, decide_true, Bool.not_true, Bool.false_eq_true, if_false, seq_refl]
    exact ih _ _ (by omega) (by omega) (by omega)
theorem eq_StringS {n : Nat} (hn : big ≤ n) (a : List ByteArray) (hb : Kd.bulk (.sl (.str)) a ≤ 2147483648) : laws_eqStringS.F n a a = some true := by
  have hs := bulk_sl (e := .str) a
  have hl := bulk_len (e := .str) a
  have hm : ∀ x, x ∈ a → Kd.bulk .str x ≤ 2147483648 := fun x hx => by have := bulk_mem (e := .str) hx; omega
  unfold laws_eqStringS.F
  rw [if_neg (by simp)]
  exact eq_StringS_l hn a hm (by omega) (List.length a) n 0 (by omega) (by omega) (by unfold big at hn; omega)

theorem eq_Tuple {n : Nat} (hn : big ≤ n) (a : List ByteArray) (hb : Kd.bulk (.st (.sl (.str))) a ≤ 2147483648) : laws_eqTuple.F n a a = some true := by
  unfold laws_eqTuple.F
  refine bind_eq (eq_StringS hn _ (by simp only [Kd.bulk] at hb ⊢; omega)) ?_
  try dsimp only
  rw [if_neg (by simp [seq_refl])]
  all_goals rfl

theorem eq_TupleS_l {n : Nat} (hn : big ≤ n) (a : List (List ByteArray)) (hb : ∀ x, x ∈ a → Kd.bulk (.st (.sl (.str))) x ≤ 2147483648) (hl : List.length a ≤ 2147483648) {K0 : Unit → Option Bool} : ∀ (d k : Nat) (i : Int), 0 ≤ i → (List.length a : Int) - i = d → d < k → laws_eqTupleS.l0 n a a K0 k i = K0 () := by
  intro d
  induction d with
  | zero =>
    intro k i h0 h1 hk
    obtain ⟨k, rfl⟩ : ∃ m, k = m + 1 := ⟨k - 1, by omega⟩
    simp only [laws_eqTupleS.l0, decide_eq_true_eq]
    rw [if_neg (by omega)]
  | succ d ih =>
    intro k i h0 h1 hk
    obtain ⟨k, rfl⟩ : ∃ m, k = m + 1 := ⟨k - 1, by omega⟩
    have hw : IntKind.i64.wrap (i + 1) = i + 1 := wrap64 _ (by omega) (by omega)
    have hx := hb _ (getD_mem' a i [] h0 (by omega))
    simp only [laws_eqTupleS.l0, decide_eq_true_eq, hw]
    rw [if_pos (by omega), if_pos ⟨h0, by omega⟩, if_pos ⟨h0, by omega⟩]
    simp only [eq_Tuple hn _ hx, Option.bind_some, decide_true, Bool.not_true, Bool.false_eq_true, if_false, seq_refl]
    exact ih _ _ (by omega) (by omega) (by omega)
theorem eq_TupleS {n : Nat} (hn : big ≤ n) (a : List (List ByteArray)) (hb : Kd.bulk (.sl (.st (.sl (.str)))) a ≤ 2147483648) : laws_eqTupleS.F n a a = some true := by
  have hs := bulk_sl (e := .st (.sl (.str))) a
  have hl := bulk_len (e := .st (.sl (.str))) a
  have hm : ∀ x, x ∈ a → Kd.bulk (.st (.sl (.str))) x ≤ 2147483648 := fun x hx => by have := bulk_mem (e := .st (.sl (.str))) hx; omega
  unfold laws_eqTupleS.F
  rw [if_neg (by simp)]
  exact eq_TupleS_l hn a hm (by omega) (List.length a) n 0 (by omega) (by omega) (by unfold big at hn; omega)

theorem eq_Rel {n : Nat} (hn : big ≤ n) (a : Int × List (List ByteArray)) (hb : Kd.bulk (.st (.pair (.int .i64) (.sl (.st (.sl (.str)))))) a ≤ 2147483648) : laws_eqRel.F n a a = some true := by
  unfold laws_eqRel.F
  rw [if_neg (by simp [seq_refl])]
  refine bind_eq (eq_TupleS hn _ (by simp only [Kd.bulk] at hb ⊢; omega)) ?_
  try dsimp only
  rw [if_neg (by simp [seq_refl])]
  all_goals rfl

theorem eq_RelS_l {n : Nat} (hn : big ≤ n) (a : List (Int × List (List ByteArray))) (hb : ∀ x, x ∈ a → Kd.bulk (.st (.pair (.int .i64) (.sl (.st (.sl (.str)))))) x ≤ 2147483648) (hl : List.length a ≤ 2147483648) {K0 : Unit → Option Bool} : ∀ (d k : Nat) (i : Int), 0 ≤ i → (List.length a : Int) - i = d → d < k → laws_eqRelS.l0 n a a K0 k i = K0 () := by
  intro d
  induction d with
  | zero =>
    intro k i h0 h1 hk
    obtain ⟨k, rfl⟩ : ∃ m, k = m + 1 := ⟨k - 1, by omega⟩
    simp only [laws_eqRelS.l0, decide_eq_true_eq]
    rw [if_neg (by omega)]
  | succ d ih =>
    intro k i h0 h1 hk
    obtain ⟨k, rfl⟩ : ∃ m, k = m + 1 := ⟨k - 1, by omega⟩
    have hw : IntKind.i64.wrap (i + 1) = i + 1 := wrap64 _ (by omega) (by omega)
    have hx := hb _ (getD_mem' a i (0, []) h0 (by omega))
    simp only [laws_eqRelS.l0, decide_eq_true_eq, hw]
    rw [if_pos (by omega), if_pos ⟨h0, by omega⟩, if_pos ⟨h0, by omega⟩]
    simp only [eq_Rel hn _ hx, Option.bind_some, decide_true, Bool.not_true, Bool.false_eq_true, if_false, seq_refl]
    exact ih _ _ (by omega) (by omega) (by omega)
theorem eq_RelS {n : Nat} (hn : big ≤ n) (a : List (Int × List (List ByteArray))) (hb : Kd.bulk (.sl (.st (.pair (.int .i64) (.sl (.st (.sl (.str))))))) a ≤ 2147483648) : laws_eqRelS.F n a a = some true := by
  have hs := bulk_sl (e := .st (.pair (.int .i64) (.sl (.st (.sl (.str)))))) a
  have hl := bulk_len (e := .st (.pair (.int .i64) (.sl (.st (.sl (.str)))))) a
  have hm : ∀ x, x ∈ a → Kd.bulk (.st (.pair (.int .i64) (.sl (.st (.sl (.str)))))) x ≤ 2147483648 := fun x hx => by have := bulk_mem (e := .st (.pair (.int .i64) (.sl (.st (.sl (.str)))))) hx; omega
  unfold laws_eqRelS.F
  rw [if_neg (by simp)]
  exact eq_RelS_l hn a hm (by omega) (List.length a) n 0 (by omega) (by omega) (by unfold big at hn; omega)

theorem eq_Db {n : Nat} (hn : big ≤ n) (a : List (Int × List (List ByteArray))) (hb : Kd.bulk (.st (.sl (.st (.pair (.int .i64) (.sl (.st (.sl (.str)))))))) a ≤ 2147483648) : laws_eqDb.F n a a = some true := by
  unfold laws_eqDb.F
  refine bind_eq (eq_RelS hn _ (by simp only [Kd.bulk] at hb ⊢; omega)) ?_
  try dsimp only
  rw [if_neg (by simp [seq_refl])]
  all_goals rfl

end Go.Abs
