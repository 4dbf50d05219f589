/- What the laws' helpers answer. Conditions: none. -/
import Derived.Test.YtgdlicpmbgodjaaGreatDoorF1
import Derived.Test.YtgdlicpmbgodjaaGreatDoorPl
namespace Go.Abs
set_option linter.unusedVariables false
set_option linter.unusedSimpArgs false
theorem Z6f {n : Nat} (hn : big ≤ n) (a : List ByteArray) (hb : ∀ x, x ∈ a → Kd.bulk .str x ≤ 2147483648) (hl : List.length a ≤ 2147483648) {K0 : Int → Option Int} (hK : ∀ x, ∃ r, K0 x = some r) : ∀ (d k : Nat) (left i : Int), 0 ≤ i → (List.length a : Int) - i = d → d < k → ∃ r, laws_szStringS.l0 n a K0 k left i = some r := by
 intro d
 induction d with
 | zero =>
  intro k left i h0 h1 hk;obtain ⟨k, rfl⟩ : ∃ m, k = m + 1 := ⟨k - 1, by omega⟩
  simp only [laws_szStringS.l0, decide_eq_true_eq];rw [if_neg (by omega)];exact hK _
 | succ d ih =>
  intro k left i h0 h1 hk;obtain ⟨k, rfl⟩ : ∃ m, k = m + 1 := ⟨k - 1, by omega⟩
  have hw : IntKind.i64.wrap (i + 1) = i + 1 := Z09 _ (by omega) (by omega);have hx := hb _ (getD_mem' a i ByteArray.empty h0 (by omega));simp only [laws_szStringS.l0, decide_eq_true_eq, hw];rw [if_pos (by omega), if_pos ⟨h0, by omega⟩]
  repeat' first | exact ⟨_, rfl⟩ | exact ih _ _ _ (by omega) (by omega) (by omega) | split
theorem Z9T {n : Nat} (hn : big ≤ n) (a : List ByteArray) (hb : Kd.bulk (.sl (.str)) a ≤ 2147483648) (left : Int) : ∃ r, laws_szStringS.F n a left = some r := by
 have hs := Z1A (e := .str) a;have hl := Z0m (e := .str) a;have hm : ∀ x, x ∈ a → Kd.bulk .str x ≤ 2147483648 := fun x hx => by have := Z0p (e := .str) hx; omega
 unfold laws_szStringS.F
 repeat' first | exact ⟨_, rfl⟩ | exact Z6f hn a hm (by omega) (fun x => ⟨_, rfl⟩) (List.length a) n _ 0 (by omega) (by omega) (by unfold big at hn; omega) | split
theorem Z8T {n : Nat} (hn : big ≤ n) (a : List ByteArray) (hb : Kd.bulk (.st (.sl (.str))) a ≤ 2147483648) (left : Int) : ∃ r, laws_szTuple.F n a left = some r := by
 unfold laws_szTuple.F;refine Z1Z (Z9T hn _ (by simp only [Kd.bulk] at hb ⊢; omega) _) (fun r => ?_)
 try dsimp only
 split
 ·exact ⟨_, rfl⟩
 exact ⟨_, rfl⟩
theorem Z7e {n : Nat} (hn : big ≤ n) (a : List (List ByteArray)) (hb : ∀ x, x ∈ a → Kd.bulk (.st (.sl (.str))) x ≤ 2147483648) (hl : List.length a ≤ 2147483648) {K0 : Int → Option Int} (hK : ∀ x, ∃ r, K0 x = some r) : ∀ (d k : Nat) (left i : Int), 0 ≤ i → (List.length a : Int) - i = d → d < k → ∃ r, laws_szTupleS.l0 n a K0 k left i = some r := by
 intro d
 induction d with
 | zero =>
  intro k left i h0 h1 hk;obtain ⟨k, rfl⟩ : ∃ m, k = m + 1 := ⟨k - 1, by omega⟩
  simp only [laws_szTupleS.l0, decide_eq_true_eq];rw [if_neg (by omega)];exact hK _
 | succ d ih =>
  intro k left i h0 h1 hk;obtain ⟨k, rfl⟩ : ∃ m, k = m + 1 := ⟨k - 1, by omega⟩
  have hw : IntKind.i64.wrap (i + 1) = i + 1 := Z09 _ (by omega) (by omega);have hx := hb _ (getD_mem' a i [] h0 (by omega));simp only [laws_szTupleS.l0, decide_eq_true_eq, hw];rw [if_pos (by omega), if_pos ⟨h0, by omega⟩]
  repeat' first | exact ⟨_, rfl⟩ | exact ih _ _ _ (by omega) (by omega) (by omega) | split | refine Z1Z (Z8T hn _ hx _) (fun r => ?_)
theorem ZAP {n : Nat} (hn : big ≤ n) (a : List (List ByteArray)) (hb : Kd.bulk (.sl (.st (.sl (.str)))) a ≤ 2147483648) (left : Int) : ∃ r, laws_szTupleS.F n a left = some r := by
 have hs := Z1A (e := .st (.sl (.str))) a;have hl := Z0m (e := .st (.sl (.str))) a;have hm : ∀ x, x ∈ a → Kd.bulk (.st (.sl (.str))) x ≤ 2147483648 := fun x hx => by have := Z0p (e := .st (.sl (.str))) hx; omega
 unfold laws_szTupleS.F
 repeat' first | exact ⟨_, rfl⟩ | exact Z7e hn a hm (by omega) (fun x => ⟨_, rfl⟩) (List.length a) n _ 0 (by omega) (by omega) (by unfold big at hn; omega) | split
theorem sz_Rel {n : Nat} (hn : big ≤ n) (a : Int × List (List ByteArray)) (hb : Kd.bulk (.st (.pair (.int .i64) (.sl (.st (.sl (.str)))))) a ≤ 2147483648) (left : Int) : ∃ r, laws_szRel.F n a left = some r := by
 unfold laws_szRel.F;refine Z1Z (ZAP hn _ (by simp only [Kd.bulk] at hb ⊢; omega) _) (fun r => ?_)
 try dsimp only
 split
 ·exact ⟨_, rfl⟩
 exact ⟨_, rfl⟩
theorem ZAQ {n : Nat} (hn : big ≤ n) (a : List (Int × List (List ByteArray))) (hb : ∀ x, x ∈ a → Kd.bulk (.st (.pair (.int .i64) (.sl (.st (.sl (.str)))))) x ≤ 2147483648) (hl : List.length a ≤ 2147483648) {K0 : Int → Option Int} (hK : ∀ x, ∃ r, K0 x = some r) : ∀ (d k : Nat) (left i : Int), 0 ≤ i → (List.length a : Int) - i = d → d < k → ∃ r, laws_szRelS.l0 n a K0 k left i = some r := by
 intro d
 induction d with
 | zero =>
  intro k left i h0 h1 hk;obtain ⟨k, rfl⟩ : ∃ m, k = m + 1 := ⟨k - 1, by omega⟩
  simp only [laws_szRelS.l0, decide_eq_true_eq];rw [if_neg (by omega)];exact hK _
 | succ d ih =>
  intro k left i h0 h1 hk;obtain ⟨k, rfl⟩ : ∃ m, k = m + 1 := ⟨k - 1, by omega⟩
  have hw : IntKind.i64.wrap (i + 1) = i + 1 := Z09 _ (by omega) (by omega);have hx := hb _ (getD_mem' a i (0, []) h0 (by omega));simp only [laws_szRelS.l0, decide_eq_true_eq, hw];rw [if_pos (by omega), if_pos ⟨h0, by omega⟩]
  repeat' first | exact ⟨_, rfl⟩ | exact ih _ _ _ (by omega) (by omega) (by omega) | split | refine Z1Z (sz_Rel hn _ hx _) (fun r => ?_)
theorem sz_RelS {n : Nat} (hn : big ≤ n) (a : List (Int × List (List ByteArray))) (hb : Kd.bulk (.sl (.st (.pair (.int .i64) (.sl (.st (.sl (.str))))))) a ≤ 2147483648) (left : Int) : ∃ r, laws_szRelS.F n a left = some r := by
 have hs := Z1A (e := .st (.pair (.int .i64) (.sl (.st (.sl (.str)))))) a;have hl := Z0m (e := .st (.pair (.int .i64) (.sl (.st (.sl (.str)))))) a;have hm : ∀ x, x ∈ a → Kd.bulk (.st (.pair (.int .i64) (.sl (.st (.sl (.str)))))) x ≤ 2147483648 := fun x hx => by have := Z0p (e := .st (.pair (.int .i64) (.sl (.st (.sl (.str)))))) hx; omega
 unfold laws_szRelS.F
 repeat' first | exact ⟨_, rfl⟩ | exact ZAQ hn a hm (by omega) (fun x => ⟨_, rfl⟩) (List.length a) n _ 0 (by omega) (by omega) (by unfold big at hn; omega) | split
theorem sz_Db {n : Nat} (hn : big ≤ n) (a : List (Int × List (List ByteArray))) (hb : Kd.bulk (.st (.sl (.st (.pair (.int .i64) (.sl (.st (.sl (.str)))))))) a ≤ 2147483648) (left : Int) : ∃ r, laws_szDb.F n a left = some r := by
 unfold laws_szDb.F;refine Z1Z (sz_RelS hn _ (by simp only [Kd.bulk] at hb ⊢; omega) _) (fun r => ?_)
 try dsimp only
 split
 ·exact ⟨_, rfl⟩
 exact ⟨_, rfl⟩
theorem ZAR {n : Nat} (hn : big ≤ n) (a : Int × (List ByteArray) × Bool) (hb : Kd.bulk (.st (.pair (.int .i64) (.pair (.st (.sl (.str))) (.bool)))) a ≤ 2147483648) (left : Int) : ∃ r, laws_szChange.F n a left = some r := by
 unfold laws_szChange.F;refine Z1Z (Z8T hn _ (by simp only [Kd.bulk] at hb ⊢; omega) _) (fun r => ?_)
 try dsimp only
 split
 ·exact ⟨_, rfl⟩
 exact ⟨_, rfl⟩
theorem Z6g {n : Nat} (hn : big ≤ n) (a : List (Int × (List ByteArray) × Bool)) (hb : ∀ x, x ∈ a → Kd.bulk (.st (.pair (.int .i64) (.pair (.st (.sl (.str))) (.bool)))) x ≤ 2147483648) (hl : List.length a ≤ 2147483648) {K0 : Int → Option Int} (hK : ∀ x, ∃ r, K0 x = some r) : ∀ (d k : Nat) (left i : Int), 0 ≤ i → (List.length a : Int) - i = d → d < k → ∃ r, laws_szChangeS.l0 n a K0 k left i = some r := by
 intro d
 induction d with
 | zero =>
  intro k left i h0 h1 hk;obtain ⟨k, rfl⟩ : ∃ m, k = m + 1 := ⟨k - 1, by omega⟩
  simp only [laws_szChangeS.l0, decide_eq_true_eq];rw [if_neg (by omega)];exact hK _
 | succ d ih =>
  intro k left i h0 h1 hk;obtain ⟨k, rfl⟩ : ∃ m, k = m + 1 := ⟨k - 1, by omega⟩
  have hw : IntKind.i64.wrap (i + 1) = i + 1 := Z09 _ (by omega) (by omega);have hx := hb _ (getD_mem' a i (0, ([], false)) h0 (by omega));simp only [laws_szChangeS.l0, decide_eq_true_eq, hw];rw [if_pos (by omega), if_pos ⟨h0, by omega⟩]
  repeat' first | exact ⟨_, rfl⟩ | exact ih _ _ _ (by omega) (by omega) (by omega) | split | refine Z1Z (ZAR hn _ hx _) (fun r => ?_)
theorem Z9U {n : Nat} (hn : big ≤ n) (a : List (Int × (List ByteArray) × Bool)) (hb : Kd.bulk (.sl (.st (.pair (.int .i64) (.pair (.st (.sl (.str))) (.bool))))) a ≤ 2147483648) (left : Int) : ∃ r, laws_szChangeS.F n a left = some r := by
 have hs := Z1A (e := .st (.pair (.int .i64) (.pair (.st (.sl (.str))) (.bool)))) a;have hl := Z0m (e := .st (.pair (.int .i64) (.pair (.st (.sl (.str))) (.bool)))) a;have hm : ∀ x, x ∈ a → Kd.bulk (.st (.pair (.int .i64) (.pair (.st (.sl (.str))) (.bool)))) x ≤ 2147483648 := fun x hx => by have := Z0p (e := .st (.pair (.int .i64) (.pair (.st (.sl (.str))) (.bool)))) hx; omega
 unfold laws_szChangeS.F
 repeat' first | exact ⟨_, rfl⟩ | exact Z6g hn a hm (by omega) (fun x => ⟨_, rfl⟩) (List.length a) n _ 0 (by omega) (by omega) (by unfold big at hn; omega) | split
theorem Z6c {n : Nat} (hn : big ≤ n) (a : List ByteArray) (hl : List.length a ≤ 2147483648) (hb : ∀ x, x ∈ a → Kd.bulk .str x ≤ 2147483648) {K0 : (List ByteArray) → Option (List ByteArray)} : ∀ (post pre junk : List ByteArray) (k : Nat), a = pre ++ post → junk.length = post.length → post.length < k → laws_toStringS.l0 n a K0 k (pre.length : Int) (pre ++ junk) = K0 a := by
 intro post
 induction post with
 | nil =>
  intro pre junk k ha hj hk;obtain ⟨k, rfl⟩ : ∃ m, k = m + 1 := ⟨k - 1, by omega⟩
  obtain rfl : junk = [] := List.length_eq_zero_iff.1 hj;subst ha;simp only [laws_toStringS.l0, decide_eq_true_eq, Z2l, if_false]
 | cons x post ih =>
  intro pre junk k ha hj hk;obtain ⟨k, rfl⟩ : ∃ m, k = m + 1 := ⟨k - 1, by omega⟩
  match junk, hj with
  | y :: junk, hj =>
   have hw : IntKind.i64.wrap ((pre.length : Int) + 1) = ((pre ++ [x]).length : Int) := by
    rw [Z09 _ (by omega) (by rw [ha] at hl; simp at hl; omega)]; simp
   have hx := hb x (by rw [ha]; simp);have := ih (pre ++ [x]) junk k (by rw [ha]; simp) (by simpa using hj) (by simpa using hk);subst ha;simp only [laws_toStringS.l0, decide_eq_true_eq, Z2d, Z2e, if_true, Int.toNat_natCast, Z0X, Z1o, hw, Option.bind_some];simpa using this
theorem Z9O {n : Nat} (hn : big ≤ n) (a : List ByteArray) (hb : Kd.bulk (.sl (.str)) a ≤ 2147483648) : laws_toStringS.F n a = some a := by
 have hs := Z1A (e := .str) a;have hl := Z0m (e := .str) a;have hm : ∀ x, x ∈ a → Kd.bulk .str x ≤ 2147483648 := fun x hx => by have := Z0p (e := .str) hx; omega
 unfold laws_toStringS.F;rw [if_pos ⟨by omega, by omega, by unfold lim; omega⟩];exact Z6c hn a (by omega) hm a [] _ n rfl (by simp) (by unfold big at hn; omega)
theorem Z8Q {n : Nat} (hn : big ≤ n) (a : List ByteArray) (hb : Kd.bulk (.st (.sl (.str))) a ≤ 2147483648) : laws_toTuple.F n a = some a := by
 unfold laws_toTuple.F;refine Z0Z (Z9O hn _ (by simp only [Kd.bulk] at hb ⊢; omega)) ?_
 rfl
theorem Z7d {n : Nat} (hn : big ≤ n) (a : List (List ByteArray)) (hl : List.length a ≤ 2147483648) (hb : ∀ x, x ∈ a → Kd.bulk (.st (.sl (.str))) x ≤ 2147483648) {K0 : (List (List ByteArray)) → Option (List (List ByteArray))} : ∀ (post pre junk : List (List ByteArray)) (k : Nat), a = pre ++ post → junk.length = post.length → post.length < k → laws_toTupleS.l0 n a K0 k (pre.length : Int) (pre ++ junk) = K0 a := by
 intro post
 induction post with
 | nil =>
  intro pre junk k ha hj hk;obtain ⟨k, rfl⟩ : ∃ m, k = m + 1 := ⟨k - 1, by omega⟩
  obtain rfl : junk = [] := List.length_eq_zero_iff.1 hj;subst ha;simp only [laws_toTupleS.l0, decide_eq_true_eq, Z2l, if_false]
 | cons x post ih =>
  intro pre junk k ha hj hk;obtain ⟨k, rfl⟩ : ∃ m, k = m + 1 := ⟨k - 1, by omega⟩
  match junk, hj with
  | y :: junk, hj =>
   have hw : IntKind.i64.wrap ((pre.length : Int) + 1) = ((pre ++ [x]).length : Int) := by
    rw [Z09 _ (by omega) (by rw [ha] at hl; simp at hl; omega)]; simp
   have hx := hb x (by rw [ha]; simp);have := ih (pre ++ [x]) junk k (by rw [ha]; simp) (by simpa using hj) (by simpa using hk);subst ha;simp only [laws_toTupleS.l0, decide_eq_true_eq, Z2d, Z2e, if_true, Int.toNat_natCast, Z0X, Z1o, hw, Z8Q hn x hx, Option.bind_some];simpa using this
theorem ZAH {n : Nat} (hn : big ≤ n) (a : List (List ByteArray)) (hb : Kd.bulk (.sl (.st (.sl (.str)))) a ≤ 2147483648) : laws_toTupleS.F n a = some a := by
 have hs := Z1A (e := .st (.sl (.str))) a;have hl := Z0m (e := .st (.sl (.str))) a;have hm : ∀ x, x ∈ a → Kd.bulk (.st (.sl (.str))) x ≤ 2147483648 := fun x hx => by have := Z0p (e := .st (.sl (.str))) hx; omega
 unfold laws_toTupleS.F;rw [if_pos ⟨by omega, by omega, by unfold lim; omega⟩];exact Z7d hn a (by omega) hm a [] _ n rfl (by simp) (by unfold big at hn; omega)
theorem to_Rel {n : Nat} (hn : big ≤ n) (a : Int × List (List ByteArray)) (hb : Kd.bulk (.st (.pair (.int .i64) (.sl (.st (.sl (.str)))))) a ≤ 2147483648) : laws_toRel.F n a = some a := by
 unfold laws_toRel.F;refine Z0Z (ZAH hn _ (by simp only [Kd.bulk] at hb ⊢; omega)) ?_
 rfl
theorem ZAI {n : Nat} (hn : big ≤ n) (a : List (Int × List (List ByteArray))) (hl : List.length a ≤ 2147483648) (hb : ∀ x, x ∈ a → Kd.bulk (.st (.pair (.int .i64) (.sl (.st (.sl (.str)))))) x ≤ 2147483648) {K0 : (List (Int × List (List ByteArray))) → Option (List (Int × List (List ByteArray)))} : ∀ (post pre junk : List (Int × List (List ByteArray))) (k : Nat), a = pre ++ post → junk.length = post.length → post.length < k → laws_toRelS.l0 n a K0 k (pre.length : Int) (pre ++ junk) = K0 a := by
 intro post
 induction post with
 | nil =>
  intro pre junk k ha hj hk;obtain ⟨k, rfl⟩ : ∃ m, k = m + 1 := ⟨k - 1, by omega⟩
  obtain rfl : junk = [] := List.length_eq_zero_iff.1 hj;subst ha;simp only [laws_toRelS.l0, decide_eq_true_eq, Z2l, if_false]
 | cons x post ih =>
  intro pre junk k ha hj hk;obtain ⟨k, rfl⟩ : ∃ m, k = m + 1 := ⟨k - 1, by omega⟩
  match junk, hj with
  | y :: junk, hj =>
   have hw : IntKind.i64.wrap ((pre.length : Int) + 1) = ((pre ++ [x]).length : Int) := by
    rw [Z09 _ (by omega) (by rw [ha] at hl; simp at hl; omega)]; simp
   have hx := hb x (by rw [ha]; simp);have := ih (pre ++ [x]) junk k (by rw [ha]; simp) (by simpa using hj) (by simpa using hk);subst ha;simp only [laws_toRelS.l0, decide_eq_true_eq, Z2d, Z2e, if_true, Int.toNat_natCast, Z0X, Z1o, hw, to_Rel hn x hx, Option.bind_some];simpa using this
theorem to_RelS {n : Nat} (hn : big ≤ n) (a : List (Int × List (List ByteArray))) (hb : Kd.bulk (.sl (.st (.pair (.int .i64) (.sl (.st (.sl (.str))))))) a ≤ 2147483648) : laws_toRelS.F n a = some a := by
 have hs := Z1A (e := .st (.pair (.int .i64) (.sl (.st (.sl (.str)))))) a;have hl := Z0m (e := .st (.pair (.int .i64) (.sl (.st (.sl (.str)))))) a;have hm : ∀ x, x ∈ a → Kd.bulk (.st (.pair (.int .i64) (.sl (.st (.sl (.str)))))) x ≤ 2147483648 := fun x hx => by have := Z0p (e := .st (.pair (.int .i64) (.sl (.st (.sl (.str)))))) hx; omega
 unfold laws_toRelS.F;rw [if_pos ⟨by omega, by omega, by unfold lim; omega⟩];exact ZAI hn a (by omega) hm a [] _ n rfl (by simp) (by unfold big at hn; omega)
theorem to_Db {n : Nat} (hn : big ≤ n) (a : List (Int × List (List ByteArray))) (hb : Kd.bulk (.st (.sl (.st (.pair (.int .i64) (.sl (.st (.sl (.str)))))))) a ≤ 2147483648) : laws_toDb.F n a = some a := by
 unfold laws_toDb.F;refine Z0Z (to_RelS hn _ (by simp only [Kd.bulk] at hb ⊢; omega)) ?_
 rfl
theorem ZAJ {n : Nat} (hn : big ≤ n) (a : Int × (List ByteArray) × Bool) (hb : Kd.bulk (.st (.pair (.int .i64) (.pair (.st (.sl (.str))) (.bool)))) a ≤ 2147483648) : laws_toChange.F n a = some a := by
 unfold laws_toChange.F;refine Z0Z (Z8Q hn _ (by simp only [Kd.bulk] at hb ⊢; omega)) ?_
 rfl
theorem Z6d {n : Nat} (hn : big ≤ n) (a : List (Int × (List ByteArray) × Bool)) (hl : List.length a ≤ 2147483648) (hb : ∀ x, x ∈ a → Kd.bulk (.st (.pair (.int .i64) (.pair (.st (.sl (.str))) (.bool)))) x ≤ 2147483648) {K0 : (List (Int × (List ByteArray) × Bool)) → Option (List (Int × (List ByteArray) × Bool))} : ∀ (post pre junk : List (Int × (List ByteArray) × Bool)) (k : Nat), a = pre ++ post → junk.length = post.length → post.length < k → laws_toChangeS.l0 n a K0 k (pre.length : Int) (pre ++ junk) = K0 a := by
 intro post
 induction post with
 | nil =>
  intro pre junk k ha hj hk;obtain ⟨k, rfl⟩ : ∃ m, k = m + 1 := ⟨k - 1, by omega⟩
  obtain rfl : junk = [] := List.length_eq_zero_iff.1 hj;subst ha;simp only [laws_toChangeS.l0, decide_eq_true_eq, Z2l, if_false]
 | cons x post ih =>
  intro pre junk k ha hj hk;obtain ⟨k, rfl⟩ : ∃ m, k = m + 1 := ⟨k - 1, by omega⟩
  match junk, hj with
  | y :: junk, hj =>
   have hw : IntKind.i64.wrap ((pre.length : Int) + 1) = ((pre ++ [x]).length : Int) := by
    rw [Z09 _ (by omega) (by rw [ha] at hl; simp at hl; omega)]; simp
   have hx := hb x (by rw [ha]; simp);have := ih (pre ++ [x]) junk k (by rw [ha]; simp) (by simpa using hj) (by simpa using hk);subst ha;simp only [laws_toChangeS.l0, decide_eq_true_eq, Z2d, Z2e, if_true, Int.toNat_natCast, Z0X, Z1o, hw, ZAJ hn x hx, Option.bind_some];simpa using this
theorem Z2o {n : Nat} (hn : big ≤ n) (a : List (Int × (List ByteArray) × Bool)) (hb : Kd.bulk (.sl (.st (.pair (.int .i64) (.pair (.st (.sl (.str))) (.bool))))) a ≤ 2147483648) : laws_toChangeS.F n a = some a := by
 have hs := Z1A (e := .st (.pair (.int .i64) (.pair (.st (.sl (.str))) (.bool)))) a;have hl := Z0m (e := .st (.pair (.int .i64) (.pair (.st (.sl (.str))) (.bool)))) a;have hm : ∀ x, x ∈ a → Kd.bulk (.st (.pair (.int .i64) (.pair (.st (.sl (.str))) (.bool)))) x ≤ 2147483648 := fun x hx => by have := Z0p (e := .st (.pair (.int .i64) (.pair (.st (.sl (.str))) (.bool)))) hx; omega
 unfold laws_toChangeS.F;rw [if_pos ⟨by omega, by omega, by unfold lim; omega⟩];exact Z6d hn a (by omega) hm a [] _ n rfl (by simp) (by unfold big at hn; omega)
theorem Z7L {n : Nat} (hn : big ≤ n) (a : List ByteArray) (hb : ∀ x, x ∈ a → Kd.bulk .str x ≤ 2147483648) (hl : List.length a ≤ 2147483648) {K0 : Unit → Option Bool} : ∀ (d k : Nat) (i : Int), 0 ≤ i → (List.length a : Int) - i = d → d < k → laws_eqStringS.l0 n a a K0 k i = K0 () := by
 intro d
 induction d with
 | zero =>
  intro k i h0 h1 hk;obtain ⟨k, rfl⟩ : ∃ m, k = m + 1 := ⟨k - 1, by omega⟩
  simp only [laws_eqStringS.l0, decide_eq_true_eq];rw [if_neg (by omega)]
 | succ d ih =>
  intro k i h0 h1 hk;obtain ⟨k, rfl⟩ : ∃ m, k = m + 1 := ⟨k - 1, by omega⟩
  have hw : IntKind.i64.wrap (i + 1) = i + 1 := Z09 _ (by omega) (by omega);have hx := hb _ (getD_mem' a i ByteArray.empty h0 (by omega));simp only [laws_eqStringS.l0, decide_eq_true_eq, hw];rw [if_pos (by omega), if_pos ⟨h0, by omega⟩, if_pos ⟨h0, by omega⟩];simp only [Option.bind_some, decide_true, Bool.not_true, Bool.false_eq_true, if_false, Z0S];exact ih _ _ (by omega) (by omega) (by omega)
theorem Z9u {n : Nat} (hn : big ≤ n) (a : List ByteArray) (hb : Kd.bulk (.sl (.str)) a ≤ 2147483648) : laws_eqStringS.F n a a = some true := by
 have hs := Z1A (e := .str) a;have hl := Z0m (e := .str) a;have hm : ∀ x, x ∈ a → Kd.bulk .str x ≤ 2147483648 := fun x hx => by have := Z0p (e := .str) hx; omega
 unfold laws_eqStringS.F;rw [if_neg (by simp)];exact Z7L hn a hm (by omega) (List.length a) n 0 (by omega) (by omega) (by unfold big at hn; omega)
theorem Z93 {n : Nat} (hn : big ≤ n) (a : List ByteArray) (hb : Kd.bulk (.st (.sl (.str))) a ≤ 2147483648) : laws_eqTuple.F n a a = some true := by
 unfold laws_eqTuple.F;refine Z0Z (Z9u hn _ (by simp only [Kd.bulk] at hb ⊢; omega)) ?_
 try dsimp only
 rw [if_neg (by simp [Z0S])]
 all_goals rfl
theorem Z88 {n : Nat} (hn : big ≤ n) (a : List (List ByteArray)) (hb : ∀ x, x ∈ a → Kd.bulk (.st (.sl (.str))) x ≤ 2147483648) (hl : List.length a ≤ 2147483648) {K0 : Unit → Option Bool} : ∀ (d k : Nat) (i : Int), 0 ≤ i → (List.length a : Int) - i = d → d < k → laws_eqTupleS.l0 n a a K0 k i = K0 () := by
 intro d
 induction d with
 | zero =>
  intro k i h0 h1 hk;obtain ⟨k, rfl⟩ : ∃ m, k = m + 1 := ⟨k - 1, by omega⟩
  simp only [laws_eqTupleS.l0, decide_eq_true_eq];rw [if_neg (by omega)]
 | succ d ih =>
  intro k i h0 h1 hk;obtain ⟨k, rfl⟩ : ∃ m, k = m + 1 := ⟨k - 1, by omega⟩
  have hw : IntKind.i64.wrap (i + 1) = i + 1 := Z09 _ (by omega) (by omega);have hx := hb _ (getD_mem' a i [] h0 (by omega));simp only [laws_eqTupleS.l0, decide_eq_true_eq, hw];rw [if_pos (by omega), if_pos ⟨h0, by omega⟩, if_pos ⟨h0, by omega⟩];simp only [Z93 hn _ hx, Option.bind_some, decide_true, Bool.not_true, Bool.false_eq_true, if_false, Z0S];exact ih _ _ (by omega) (by omega) (by omega)
theorem ZBO {n : Nat} (hn : big ≤ n) (a : List (List ByteArray)) (hb : Kd.bulk (.sl (.st (.sl (.str)))) a ≤ 2147483648) : laws_eqTupleS.F n a a = some true := by
 have hs := Z1A (e := .st (.sl (.str))) a;have hl := Z0m (e := .st (.sl (.str))) a;have hm : ∀ x, x ∈ a → Kd.bulk (.st (.sl (.str))) x ≤ 2147483648 := fun x hx => by have := Z0p (e := .st (.sl (.str))) hx; omega
 unfold laws_eqTupleS.F;rw [if_neg (by simp)];exact Z88 hn a hm (by omega) (List.length a) n 0 (by omega) (by omega) (by unfold big at hn; omega)
theorem eq_Rel {n : Nat} (hn : big ≤ n) (a : Int × List (List ByteArray)) (hb : Kd.bulk (.st (.pair (.int .i64) (.sl (.st (.sl (.str)))))) a ≤ 2147483648) : laws_eqRel.F n a a = some true := by
 unfold laws_eqRel.F;rw [if_neg (by simp [Z0S])];refine Z0Z (ZBO hn _ (by simp only [Kd.bulk] at hb ⊢; omega)) ?_
 try dsimp only
 rw [if_neg (by simp [Z0S])]
 all_goals rfl
theorem ZBP {n : Nat} (hn : big ≤ n) (a : List (Int × List (List ByteArray))) (hb : ∀ x, x ∈ a → Kd.bulk (.st (.pair (.int .i64) (.sl (.st (.sl (.str)))))) x ≤ 2147483648) (hl : List.length a ≤ 2147483648) {K0 : Unit → Option Bool} : ∀ (d k : Nat) (i : Int), 0 ≤ i → (List.length a : Int) - i = d → d < k → laws_eqRelS.l0 n a a K0 k i = K0 () := by
 intro d
 induction d with
 | zero =>
  intro k i h0 h1 hk;obtain ⟨k, rfl⟩ : ∃ m, k = m + 1 := ⟨k - 1, by omega⟩
  simp only [laws_eqRelS.l0, decide_eq_true_eq];rw [if_neg (by omega)]
 | succ d ih =>
  intro k i h0 h1 hk;obtain ⟨k, rfl⟩ : ∃ m, k = m + 1 := ⟨k - 1, by omega⟩
  have hw : IntKind.i64.wrap (i + 1) = i + 1 := Z09 _ (by omega) (by omega);have hx := hb _ (getD_mem' a i (0, []) h0 (by omega));simp only [laws_eqRelS.l0, decide_eq_true_eq, hw];rw [if_pos (by omega), if_pos ⟨h0, by omega⟩, if_pos ⟨h0, by omega⟩];simp only [eq_Rel hn _ hx, Option.bind_some, decide_true, Bool.not_true, Bool.false_eq_true, if_false, Z0S];exact ih _ _ (by omega) (by omega) (by omega)
theorem eq_RelS {n : Nat} (hn : big ≤ n) (a : List (Int × List (List ByteArray))) (hb : Kd.bulk (.sl (.st (.pair (.int .i64) (.sl (.st (.sl (.str))))))) a ≤ 2147483648) : laws_eqRelS.F n a a = some true := by
 have hs := Z1A (e := .st (.pair (.int .i64) (.sl (.st (.sl (.str)))))) a;have hl := Z0m (e := .st (.pair (.int .i64) (.sl (.st (.sl (.str)))))) a;have hm : ∀ x, x ∈ a → Kd.bulk (.st (.pair (.int .i64) (.sl (.st (.sl (.str)))))) x ≤ 2147483648 := fun x hx => by have := Z0p (e := .st (.pair (.int .i64) (.sl (.st (.sl (.str)))))) hx; omega
 unfold laws_eqRelS.F;rw [if_neg (by simp)];exact ZBP hn a hm (by omega) (List.length a) n 0 (by omega) (by omega) (by unfold big at hn; omega)
theorem eq_Db {n : Nat} (hn : big ≤ n) (a : List (Int × List (List ByteArray))) (hb : Kd.bulk (.st (.sl (.st (.pair (.int .i64) (.sl (.st (.sl (.str)))))))) a ≤ 2147483648) : laws_eqDb.F n a a = some true := by
 unfold laws_eqDb.F;refine Z0Z (eq_RelS hn _ (by simp only [Kd.bulk] at hb ⊢; omega)) ?_
 try dsimp only
 rw [if_neg (by simp [Z0S])]
 all_goals rfl
theorem ZBQ {n : Nat} (hn : big ≤ n) (a : Int × (List ByteArray) × Bool) (hb : Kd.bulk (.st (.pair (.int .i64) (.pair (.st (.sl (.str))) (.bool)))) a ≤ 2147483648) : laws_eqChange.F n a a = some true := by
 unfold laws_eqChange.F;rw [if_neg (by simp [Z0S])];refine Z0Z (Z93 hn _ (by simp only [Kd.bulk] at hb ⊢; omega)) ?_
 try dsimp only
 rw [if_neg (by simp [Z0S])];rw [if_neg (by simp [Z0S])]
 all_goals rfl
theorem Z7M {n : Nat} (hn : big ≤ n) (a : List (Int × (List ByteArray) × Bool)) (hb : ∀ x, x ∈ a → Kd.bulk (.st (.pair (.int .i64) (.pair (.st (.sl (.str))) (.bool)))) x ≤ 2147483648) (hl : List.length a ≤ 2147483648) {K0 : Unit → Option Bool} : ∀ (d k : Nat) (i : Int), 0 ≤ i → (List.length a : Int) - i = d → d < k → laws_eqChangeS.l0 n a a K0 k i = K0 () := by
 intro d
 induction d with
 | zero =>
  intro k i h0 h1 hk;obtain ⟨k, rfl⟩ : ∃ m, k = m + 1 := ⟨k - 1, by omega⟩
  simp only [laws_eqChangeS.l0, decide_eq_true_eq];rw [if_neg (by omega)]
 | succ d ih =>
  intro k i h0 h1 hk;obtain ⟨k, rfl⟩ : ∃ m, k = m + 1 := ⟨k - 1, by omega⟩
  have hw : IntKind.i64.wrap (i + 1) = i + 1 := Z09 _ (by omega) (by omega);have hx := hb _ (getD_mem' a i (0, ([], false)) h0 (by omega));simp only [laws_eqChangeS.l0, decide_eq_true_eq, hw];rw [if_pos (by omega), if_pos ⟨h0, by omega⟩, if_pos ⟨h0, by omega⟩];simp only [ZBQ hn _ hx, Option.bind_some, decide_true, Bool.not_true, Bool.false_eq_true, if_false, Z0S];exact ih _ _ (by omega) (by omega) (by omega)
theorem Z9v {n : Nat} (hn : big ≤ n) (a : List (Int × (List ByteArray) × Bool)) (hb : Kd.bulk (.sl (.st (.pair (.int .i64) (.pair (.st (.sl (.str))) (.bool))))) a ≤ 2147483648) : laws_eqChangeS.F n a a = some true := by
 have hs := Z1A (e := .st (.pair (.int .i64) (.pair (.st (.sl (.str))) (.bool)))) a;have hl := Z0m (e := .st (.pair (.int .i64) (.pair (.st (.sl (.str))) (.bool)))) a;have hm : ∀ x, x ∈ a → Kd.bulk (.st (.pair (.int .i64) (.pair (.st (.sl (.str))) (.bool)))) x ≤ 2147483648 := fun x hx => by have := Z0p (e := .st (.pair (.int .i64) (.pair (.st (.sl (.str))) (.bool)))) hx; omega
 unfold laws_eqChangeS.F;rw [if_neg (by simp)];exact Z7M hn a hm (by omega) (List.length a) n 0 (by omega) (by omega) (by unfold big at hn; omega)
def mtx (n : Nat) (k : Int) : ByteArray := (laws_markText.F n k).getD ByteArray.empty
theorem bstr1 (x : Int) : ByteArray.size (ZBh [x]) = 1 := rfl
theorem Z81 {n : Nat} {K0 : ByteArray → Option ByteArray} (hK : ∀ x : ByteArray, x.size ≤ 64 → ∃ r, K0 x = some r) : ∀ (d k : Nat) (z : Int) (out : ByteArray), z < 10 ^ d → z ≤ 4294967296 → d < k → out.size + d ≤ 40 → ∃ r, laws_markText.l0 n K0 k z out = some r := by
 intro d
 induction d with
 | zero =>
  intro k z out hz hz2 hk ho;obtain ⟨k, rfl⟩ : ∃ m, k = m + 1 := ⟨k - 1, by omega⟩
  simp only [laws_markText.l0, decide_eq_true_eq];rw [if_neg (by simp at hz; omega)];exact hK _ (by omega)
 | succ d ih =>
  intro k z out hz hz2 hk ho;obtain ⟨k, rfl⟩ : ∃ m, k = m + 1 := ⟨k - 1, by omega⟩
  simp only [laws_markText.l0, decide_eq_true_eq]
  split
  ·rename_i hp
   have hlt : z / 10 < 10 ^ d := by rw [Int.pow_succ] at hz; omega
   have e1 : Int.tdiv z 10 = z / 10 := Int.tdiv_eq_ediv_of_nonneg (by omega);rw [if_pos (by rw [bstr1]; unfold lim; omega), e1, Z09 _ (by omega) (by omega)];exact ih k _ _ hlt (by omega) (by omega) (by rw [ByteArray.size_append, bstr1]; omega)
  ·exact hK _ (by omega)
theorem mtx_eq {n : Nat} (hn : big ≤ n) (k : Int) (hk : k ≤ 4294967296) : laws_markText.F n k = some (mtx n k) := by
 have : ∃ r, laws_markText.F n k = some r := by
  unfold laws_markText.F
  split
  ·exact ⟨_, rfl⟩
  ·exact Z81 (fun x hx => by rw [if_pos (by show 1 + x.size ≤ lim; unfold lim; omega)]; exact ⟨_, rfl⟩) 10 n k _ (by omega) (by omega) (by unfold big at hn; omega) (by show 0 + 10 ≤ 40; omega)
 obtain ⟨r, hr⟩ := this;rw [mtx, hr]; rfl
theorem Z74 {n : Nat} (hn : big ≤ n) {K0 : Int → (List ByteArray) → Option (Int × (List ByteArray))} : ∀ (post pre : List ByteArray) (f : Nat) (k : Int), post.length < f → pre.length + post.length ≤ 2147483648 → (List.map (Kd.bulk .str) post).sum ≤ 2147483648 → 0 < k → k + ((List.map (Kd.bulk .str) post).sum : Int) ≤ 4294967296 →
  ∃ k1 out, laws_markStringS.l0 n K0 f k (pre.length : Int) (pre ++ post) = K0 k1 (pre ++ out) ∧ k ≤ k1 ∧ k1 ≤ k + ((List.map (Kd.bulk .str) post).sum : Int) ∧ out.length = post.length ∧
   ∀ (pre2 : List ByteArray) (g : Nat) (H0 : Int → Option Int), pre2.length = pre.length → post.length < g → laws_heldStringS.l0 n (pre2 ++ out) H0 g k (pre.length : Int) = H0 k1 := by
 intro post
 induction post with
 | nil =>
  intro pre f k hf hl hs h0 hk;obtain ⟨f, rfl⟩ : ∃ m, f = m + 1 := ⟨f - 1, by omega⟩
  refine ⟨k, [], ?_, by omega, by simp, rfl, fun pre2 g H0 hp hg => ?_⟩
  ·simp only [laws_markStringS.l0, decide_eq_true_eq, Z2l, if_false]
  ·obtain ⟨g, rfl⟩ : ∃ m, g = m + 1 := ⟨g - 1, by omega⟩
   rw [← hp];simp only [laws_heldStringS.l0, decide_eq_true_eq, Z2l, if_false]
 | cons x post ih =>
  intro pre f k hf hl hs h0 hk;simp only [List.length_cons] at hf hl;simp only [List.map_cons, List.sum_cons, Int.natCast_add] at hs hk ⊢;obtain ⟨f, rfl⟩ : ∃ m, f = m + 1 := ⟨f - 1, by omega⟩
  have hw : IntKind.i64.wrap ((pre.length : Int) + 1) = (pre.length : Int) + 1 := Z09 _ (by omega) (by omega);have hB : Kd.bulk .str x = (ByteArray.size x + 1) := rfl;have hm1 := mtx_eq hn k (by omega);have hwk1 : IntKind.i64.wrap (k + 1) = k + 1 := Z09 _ (by omega) (by omega);obtain ⟨k1, out, i1, i2, i3, i4, i5⟩ := ih (pre ++ [((mtx n k) : ByteArray)]) f (k + 1) (by omega) (by simp; omega) (by omega) (by omega) (by omega);rw [List.length_append, List.length_singleton] at i1 i5;refine ⟨k1, ((mtx n k) : ByteArray) :: out, ?_, by omega, by omega, by simp [i4], fun pre2 g H0 hp hg => ?_⟩
  ·simp only [laws_markStringS.l0, decide_eq_true_eq, Z2d, Z2e, if_true, Int.toNat_natCast, Z0X, Z1o, hw, hm1, hwk1, Option.bind_some]
   simpa using i1
  ·obtain ⟨g, rfl⟩ : ∃ m, g = m + 1 := ⟨g - 1, by omega⟩
   have i6 := i5 (pre2 ++ [((mtx n k) : ByteArray)]) g H0 (by simp [hp]) (by simp only [List.length_cons] at hg; omega);rw [← hp] at i6 hw ⊢;simp only [laws_heldStringS.l0, decide_eq_true_eq, Z2d, Z2e, if_true, Int.toNat_natCast, Z0X, Z1o, hw, hm1, hwk1, Option.bind_some, decide_true, Bool.not_true, Bool.false_eq_true, if_false, Z0S, beq_self_eq_true, Bool.not_false, nn, and_self];simpa using i6
theorem Z5W {n : Nat} (hn : big ≤ n) (a : List ByteArray) (hb : Kd.bulk (.sl (.str)) a ≤ 2147483648) (k : Int) (h0 : 0 < k) (hk : k + (Kd.bulk (.sl (.str)) a : Int) ≤ 4294967296) :
  ∃ k1 out, laws_markStringS.F n a k = some (k1, out) ∧ k ≤ k1 ∧ k1 ≤ k + (Kd.bulk (.sl (.str)) a : Int) ∧ laws_heldStringS.F n out k = some k1 := by
 have hl0 := Z0m (e := .str) a;have hl1 := Z1A (e := .str) a;obtain ⟨k1, out, i1, i2, i3, i4, i5⟩ := Z74 hn (K0 := fun k a => some (k, a)) a [] n k (by unfold big at hn; omega) (by simp; omega) (by omega) h0 (by omega);exact ⟨k1, out, i1, i2, by omega, i5 [] n _ rfl (by unfold big at hn; omega)⟩
theorem Z7z {n : Nat} (hn : big ≤ n) {K0 : Int → (List (List ByteArray)) → Option (Int × (List (List ByteArray)))} : ∀ (post pre : List (List ByteArray)) (f : Nat) (k : Int), post.length < f → pre.length + post.length ≤ 2147483648 → (List.map (Kd.bulk (.st (.sl (.str)))) post).sum ≤ 2147483648 → 0 < k → k + ((List.map (Kd.bulk (.st (.sl (.str)))) post).sum : Int) ≤ 4294967296 →
  ∃ k1 out, laws_markTupleS.l0 n K0 f k (pre.length : Int) (pre ++ post) = K0 k1 (pre ++ out) ∧ k ≤ k1 ∧ k1 ≤ k + ((List.map (Kd.bulk (.st (.sl (.str)))) post).sum : Int) ∧ out.length = post.length ∧
   ∀ (pre2 : List (List ByteArray)) (g : Nat) (H0 : Int → Option Int), pre2.length = pre.length → post.length < g → laws_heldTupleS.l0 n (pre2 ++ out) H0 g k (pre.length : Int) = H0 k1 := by
 intro post
 induction post with
 | nil =>
  intro pre f k hf hl hs h0 hk;obtain ⟨f, rfl⟩ : ∃ m, f = m + 1 := ⟨f - 1, by omega⟩
  refine ⟨k, [], ?_, by omega, by simp, rfl, fun pre2 g H0 hp hg => ?_⟩
  ·simp only [laws_markTupleS.l0, decide_eq_true_eq, Z2l, if_false]
  ·obtain ⟨g, rfl⟩ : ∃ m, g = m + 1 := ⟨g - 1, by omega⟩
   rw [← hp];simp only [laws_heldTupleS.l0, decide_eq_true_eq, Z2l, if_false]
 | cons x post ih =>
  intro pre f k hf hl hs h0 hk;simp only [List.length_cons] at hf hl;simp only [List.map_cons, List.sum_cons, Int.natCast_add] at hs hk ⊢;obtain ⟨f, rfl⟩ : ∃ m, f = m + 1 := ⟨f - 1, by omega⟩
  have hw : IntKind.i64.wrap ((pre.length : Int) + 1) = (pre.length : Int) + 1 := Z09 _ (by omega) (by omega);have hB : Kd.bulk (.st (.sl (.str))) x = Kd.bulk (.sl (.str)) x := rfl;obtain ⟨q1, y1, a1, b1, c1, d1⟩ := Z5W hn x (by omega) k (by omega) (by omega);obtain ⟨k1, out, i1, i2, i3, i4, i5⟩ := ih (pre ++ [((y1) : List ByteArray)]) f q1 (by omega) (by simp; omega) (by omega) (by omega) (by omega);rw [List.length_append, List.length_singleton] at i1 i5;refine ⟨k1, ((y1) : List ByteArray) :: out, ?_, by omega, by omega, by simp [i4], fun pre2 g H0 hp hg => ?_⟩
  ·simp only [laws_markTupleS.l0, decide_eq_true_eq, Z2d, Z2e, if_true, Int.toNat_natCast, Z0X, Z1o, hw, Option.bind_some, a1]
   simpa using i1
  ·obtain ⟨g, rfl⟩ : ∃ m, g = m + 1 := ⟨g - 1, by omega⟩
   have i6 := i5 (pre2 ++ [((y1) : List ByteArray)]) g H0 (by simp [hp]) (by simp only [List.length_cons] at hg; omega);rw [← hp] at i6 hw ⊢;simp only [laws_heldTupleS.l0, decide_eq_true_eq, Z2d, Z2e, if_true, Int.toNat_natCast, Z0X, Z1o, hw, Option.bind_some, d1, decide_true, Bool.not_true, Bool.false_eq_true, if_false, Z0S, beq_self_eq_true, Bool.not_false, nn, and_self];rw [if_neg (by omega)];simpa using i6
theorem ZB8 {n : Nat} (hn : big ≤ n) (a : List (List ByteArray)) (hb : Kd.bulk (.sl (.st (.sl (.str)))) a ≤ 2147483648) (k : Int) (h0 : 0 < k) (hk : k + (Kd.bulk (.sl (.st (.sl (.str)))) a : Int) ≤ 4294967296) :
  ∃ k1 out, laws_markTupleS.F n a k = some (k1, out) ∧ k ≤ k1 ∧ k1 ≤ k + (Kd.bulk (.sl (.st (.sl (.str)))) a : Int) ∧ laws_heldTupleS.F n out k = some k1 := by
 have hl0 := Z0m (e := .st (.sl (.str))) a;have hl1 := Z1A (e := .st (.sl (.str))) a;obtain ⟨k1, out, i1, i2, i3, i4, i5⟩ := Z7z hn (K0 := fun k a => some (k, a)) a [] n k (by unfold big at hn; omega) (by simp; omega) (by omega) h0 (by omega);exact ⟨k1, out, i1, i2, by omega, i5 [] n _ rfl (by unfold big at hn; omega)⟩
theorem ZB9 {n : Nat} (hn : big ≤ n) {K0 : Int → (List (Int × List (List ByteArray))) → Option (Int × (List (Int × List (List ByteArray))))} : ∀ (post pre : List (Int × List (List ByteArray))) (f : Nat) (k : Int), post.length < f → pre.length + post.length ≤ 2147483648 → (List.map (Kd.bulk (.st (.pair (.int .i64) (.sl (.st (.sl (.str))))))) post).sum ≤ 2147483648 → 0 < k → k + ((List.map (Kd.bulk (.st (.pair (.int .i64) (.sl (.st (.sl (.str))))))) post).sum : Int) ≤ 4294967296 →
  ∃ k1 out, laws_markRelS.l0 n K0 f k (pre.length : Int) (pre ++ post) = K0 k1 (pre ++ out) ∧ k ≤ k1 ∧ k1 ≤ k + ((List.map (Kd.bulk (.st (.pair (.int .i64) (.sl (.st (.sl (.str))))))) post).sum : Int) ∧ out.length = post.length ∧
   ∀ (pre2 : List (Int × List (List ByteArray))) (g : Nat) (H0 : Int → Option Int), pre2.length = pre.length → post.length < g → laws_heldRelS.l0 n (pre2 ++ out) H0 g k (pre.length : Int) = H0 k1 := by
 intro post
 induction post with
 | nil =>
  intro pre f k hf hl hs h0 hk;obtain ⟨f, rfl⟩ : ∃ m, f = m + 1 := ⟨f - 1, by omega⟩
  refine ⟨k, [], ?_, by omega, by simp, rfl, fun pre2 g H0 hp hg => ?_⟩
  ·simp only [laws_markRelS.l0, decide_eq_true_eq, Z2l, if_false]
  ·obtain ⟨g, rfl⟩ : ∃ m, g = m + 1 := ⟨g - 1, by omega⟩
   rw [← hp];simp only [laws_heldRelS.l0, decide_eq_true_eq, Z2l, if_false]
 | cons x post ih =>
  intro pre f k hf hl hs h0 hk;simp only [List.length_cons] at hf hl;simp only [List.map_cons, List.sum_cons, Int.natCast_add] at hs hk ⊢;obtain ⟨f, rfl⟩ : ∃ m, f = m + 1 := ⟨f - 1, by omega⟩
  have hw : IntKind.i64.wrap ((pre.length : Int) + 1) = (pre.length : Int) + 1 := Z09 _ (by omega) (by omega);have hB : Kd.bulk (.st (.pair (.int .i64) (.sl (.st (.sl (.str)))))) x = (1 + Kd.bulk (.sl (.st (.sl (.str)))) x.2) := rfl;have hwk1 : IntKind.i64.wrap (k + 1) = k + 1 := Z09 _ (by omega) (by omega);obtain ⟨q1, y1, a1, b1, c1, d1⟩ := ZB8 hn x.2 (by omega) (k + 1) (by omega) (by omega);obtain ⟨k1, out, i1, i2, i3, i4, i5⟩ := ih (pre ++ [(((k, y1)) : Int × List (List ByteArray))]) f q1 (by omega) (by simp; omega) (by omega) (by omega) (by omega);rw [List.length_append, List.length_singleton] at i1 i5;refine ⟨k1, (((k, y1)) : Int × List (List ByteArray)) :: out, ?_, by omega, by omega, by simp [i4], fun pre2 g H0 hp hg => ?_⟩
  ·simp only [laws_markRelS.l0, decide_eq_true_eq, Z2d, Z2e, if_true, Int.toNat_natCast, Z0X, Z1o, hw, hwk1, Option.bind_some, a1]
   simpa using i1
  ·obtain ⟨g, rfl⟩ : ∃ m, g = m + 1 := ⟨g - 1, by omega⟩
   have i6 := i5 (pre2 ++ [(((k, y1)) : Int × List (List ByteArray))]) g H0 (by simp [hp]) (by simp only [List.length_cons] at hg; omega);rw [← hp] at i6 hw ⊢;simp only [laws_heldRelS.l0, decide_eq_true_eq, Z2d, Z2e, if_true, Int.toNat_natCast, Z0X, Z1o, hw, hwk1, Option.bind_some, d1, decide_true, Bool.not_true, Bool.false_eq_true, if_false, Z0S, beq_self_eq_true, Bool.not_false, nn, and_self];rw [if_neg (by omega)];simpa using i6
theorem mk_RelS {n : Nat} (hn : big ≤ n) (a : List (Int × List (List ByteArray))) (hb : Kd.bulk (.sl (.st (.pair (.int .i64) (.sl (.st (.sl (.str))))))) a ≤ 2147483648) (k : Int) (h0 : 0 < k) (hk : k + (Kd.bulk (.sl (.st (.pair (.int .i64) (.sl (.st (.sl (.str))))))) a : Int) ≤ 4294967296) :
  ∃ k1 out, laws_markRelS.F n a k = some (k1, out) ∧ k ≤ k1 ∧ k1 ≤ k + (Kd.bulk (.sl (.st (.pair (.int .i64) (.sl (.st (.sl (.str))))))) a : Int) ∧ laws_heldRelS.F n out k = some k1 := by
 have hl0 := Z0m (e := .st (.pair (.int .i64) (.sl (.st (.sl (.str)))))) a;have hl1 := Z1A (e := .st (.pair (.int .i64) (.sl (.st (.sl (.str)))))) a;obtain ⟨k1, out, i1, i2, i3, i4, i5⟩ := ZB9 hn (K0 := fun k a => some (k, a)) a [] n k (by unfold big at hn; omega) (by simp; omega) (by omega) h0 (by omega);exact ⟨k1, out, i1, i2, by omega, i5 [] n _ rfl (by unfold big at hn; omega)⟩
theorem mk_Db {n : Nat} (hn : big ≤ n) (a : List (Int × List (List ByteArray))) (hb : Kd.bulk (.st (.sl (.st (.pair (.int .i64) (.sl (.st (.sl (.str)))))))) a ≤ 2147483648) (k : Int) (h0 : 0 < k) (hk : k + (Kd.bulk (.st (.sl (.st (.pair (.int .i64) (.sl (.st (.sl (.str)))))))) a : Int) ≤ 4294967296) :
  ∃ k1 out, laws_markDb.F n a k = some (k1, out) ∧ k ≤ k1 ∧ k1 ≤ k + (Kd.bulk (.st (.sl (.st (.pair (.int .i64) (.sl (.st (.sl (.str)))))))) a : Int) ∧ laws_heldDb.F n out k = some k1 := by
 have hB : Kd.bulk (.st (.sl (.st (.pair (.int .i64) (.sl (.st (.sl (.str)))))))) a = Kd.bulk (.sl (.st (.pair (.int .i64) (.sl (.st (.sl (.str))))))) a := rfl;obtain ⟨q1, y1, a1, b1, c1, d1⟩ := mk_RelS hn a (by omega) k (by omega) (by omega);refine ⟨((q1, y1)).1, ((q1, y1)).2, ?_, ?_, ?_, ?_⟩
 ·unfold laws_markDb.F
  exact Z0Z a1 (rfl)
 ·show k ≤ q1
  omega
 ·show q1 ≤ _
  omega
 ·unfold laws_heldDb.F
  refine Z0Z d1 ?_
  try dsimp only
  rw [if_neg (by simp only [decide_eq_true_eq]; omega)]
  all_goals rfl
theorem Z75 {n : Nat} (hn : big ≤ n) {K0 : Int → (List (Int × (List ByteArray) × Bool)) → Option (Int × (List (Int × (List ByteArray) × Bool)))} : ∀ (post pre : List (Int × (List ByteArray) × Bool)) (f : Nat) (k : Int), post.length < f → pre.length + post.length ≤ 2147483648 → (List.map (Kd.bulk (.st (.pair (.int .i64) (.pair (.st (.sl (.str))) (.bool))))) post).sum ≤ 2147483648 → 0 < k → k + ((List.map (Kd.bulk (.st (.pair (.int .i64) (.pair (.st (.sl (.str))) (.bool))))) post).sum : Int) ≤ 4294967296 →
  ∃ k1 out, laws_markChangeS.l0 n K0 f k (pre.length : Int) (pre ++ post) = K0 k1 (pre ++ out) ∧ k ≤ k1 ∧ k1 ≤ k + ((List.map (Kd.bulk (.st (.pair (.int .i64) (.pair (.st (.sl (.str))) (.bool))))) post).sum : Int) ∧ out.length = post.length := by
 intro post
 induction post with
 | nil =>
  intro pre f k hf hl hs h0 hk;obtain ⟨f, rfl⟩ : ∃ m, f = m + 1 := ⟨f - 1, by omega⟩
  refine ⟨k, [], ?_, by omega, by simp, rfl⟩
  ·simp only [laws_markChangeS.l0, decide_eq_true_eq, Z2l, if_false]
 | cons x post ih =>
  intro pre f k hf hl hs h0 hk;simp only [List.length_cons] at hf hl;simp only [List.map_cons, List.sum_cons, Int.natCast_add] at hs hk ⊢;obtain ⟨f, rfl⟩ : ∃ m, f = m + 1 := ⟨f - 1, by omega⟩
  have hw : IntKind.i64.wrap ((pre.length : Int) + 1) = (pre.length : Int) + 1 := Z09 _ (by omega) (by omega);have hB : Kd.bulk (.st (.pair (.int .i64) (.pair (.st (.sl (.str))) (.bool)))) x = (1 + (Kd.bulk (.sl (.str)) x.2.1 + 1)) := rfl;have hwk1 : IntKind.i64.wrap (k + 1) = k + 1 := Z09 _ (by omega) (by omega);obtain ⟨q1, y1, a1, b1, c1, _⟩ := Z5W hn x.2.1 (by omega) (k + 1) (by omega) (by omega);have hwk2 : IntKind.i64.wrap (q1 + 1) = q1 + 1 := Z09 _ (by omega) (by omega);obtain ⟨k1, out, i1, i2, i3, i4⟩ := ih (pre ++ [(((k, (y1, decide (Int.tmod q1 3 = 0)))) : Int × (List ByteArray) × Bool)]) f (q1 + 1) (by omega) (by simp; omega) (by omega) (by omega) (by omega);rw [List.length_append, List.length_singleton] at i1;refine ⟨k1, (((k, (y1, decide (Int.tmod q1 3 = 0)))) : Int × (List ByteArray) × Bool) :: out, ?_, by omega, by omega, by simp [i4]⟩
  ·simp only [laws_markChangeS.l0, decide_eq_true_eq, Z2d, Z2e, if_true, Int.toNat_natCast, Z0X, Z1o, hw, hwk1, hwk2, Option.bind_some, a1]
   simpa using i1
theorem Z9l {n : Nat} (hn : big ≤ n) (a : List (Int × (List ByteArray) × Bool)) (hb : Kd.bulk (.sl (.st (.pair (.int .i64) (.pair (.st (.sl (.str))) (.bool))))) a ≤ 2147483648) (k : Int) (h0 : 0 < k) (hk : k + (Kd.bulk (.sl (.st (.pair (.int .i64) (.pair (.st (.sl (.str))) (.bool))))) a : Int) ≤ 4294967296) :
  ∃ k1 out, laws_markChangeS.F n a k = some (k1, out) ∧ k ≤ k1 ∧ k1 ≤ k + (Kd.bulk (.sl (.st (.pair (.int .i64) (.pair (.st (.sl (.str))) (.bool))))) a : Int) := by
 have hl0 := Z0m (e := .st (.pair (.int .i64) (.pair (.st (.sl (.str))) (.bool)))) a;have hl1 := Z1A (e := .st (.pair (.int .i64) (.pair (.st (.sl (.str))) (.bool)))) a;obtain ⟨k1, out, i1, i2, i3, i4⟩ := Z75 hn (K0 := fun k a => some (k, a)) a [] n k (by unfold big at hn; omega) (by simp; omega) (by omega) h0 (by omega);exact ⟨k1, out, i1, i2, by omega⟩
end Go.Abs
