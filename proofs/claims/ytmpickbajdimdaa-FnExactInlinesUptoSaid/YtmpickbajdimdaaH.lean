/- What the laws' helpers answer. Conditions: none. -/
import Derived.Test.YtmpickbajdimdaaF0
import Derived.Test.YtmpickbajdimdaaPl
namespace Go.Abs
set_option linter.unusedVariables false
set_option linter.unusedSimpArgs false
theorem sz_StringS_l {n : Nat} (hn : big ≤ n) (a : List ByteArray) (hb : ∀ x, x ∈ a → Kd.bulk .str x ≤ 2147483648) (hl : List.length a ≤ 2147483648) {K0 : Int → Option Int} (hK : ∀ x, ∃ r, K0 x = some r) : ∀ (d k : Nat) (left i : Int), 0 ≤ i → (List.length a : Int) - i = d → d < k → ∃ r, laws_szStringS.l0 n a K0 k left i = some r := by
  intro d
  induction d with
  | zero =>
    intro k left i h0 h1 hk
    obtain ⟨k, rfl⟩ : ∃ m, k = m + 1 := ⟨k - 1, by omega⟩
    simp only [laws_szStringS.l0, decide_eq_true_eq]
    rw [if_neg (by omega)]
    exact hK _
  | succ d ih =>
    intro k left i h0 h1 hk
    obtain ⟨k, rfl⟩ : ∃ m, k = m + 1 := ⟨k - 1, by omega⟩
    have hw : IntKind.i64.wrap (i + 1) = i + 1 := wrap64 _ (by omega) (by omega)
    have hx := hb _ (getD_mem' a i ByteArray.empty h0 (by omega))
    simp only [laws_szStringS.l0, decide_eq_true_eq, hw]
    rw [if_pos (by omega), if_pos ⟨h0, by omega⟩]
    repeat' first | exact ⟨_, rfl⟩ | exact ih _ _ _ (by omega) (by omega) (by omega) | split
theorem sz_StringS {n : Nat} (hn : big ≤ n) (a : List ByteArray) (hb : Kd.bulk (.sl (.str)) a ≤ 2147483648) (left : Int) : ∃ r, laws_szStringS.F n a left = some r := by
  have hs := bulk_sl (e := .str) a
  have hl := bulk_len (e := .str) a
  have hm : ∀ x, x ∈ a → Kd.bulk .str x ≤ 2147483648 := fun x hx => by have := bulk_mem (e := .str) hx; omega
  unfold laws_szStringS.F
  repeat' first | exact ⟨_, rfl⟩ | exact sz_StringS_l hn a hm (by omega) (fun x => ⟨_, rfl⟩) (List.length a) n _ 0 (by omega) (by omega) (by unfold big at hn; omega) | split

theorem sz_Con {n : Nat} (hn : big ≤ n) (a : ByteArray × List ByteArray) (hb : Kd.bulk (.st (.pair (.str) (.sl (.str)))) a ≤ 2147483648) (left : Int) : ∃ r, laws_szCon.F n a left = some r := by
  unfold laws_szCon.F
  split
  · exact ⟨_, rfl⟩
  refine bind_total (sz_StringS hn _ (by simp only [Kd.bulk] at hb ⊢; omega) _) (fun r => ?_)
  try dsimp only
  split
  · exact ⟨_, rfl⟩
  exact ⟨_, rfl⟩

theorem sz_ConS_l {n : Nat} (hn : big ≤ n) (a : List (ByteArray × List ByteArray)) (hb : ∀ x, x ∈ a → Kd.bulk (.st (.pair (.str) (.sl (.str)))) x ≤ 2147483648) (hl : List.length a ≤ 2147483648) {K0 : Int → Option Int} (hK : ∀ x, ∃ r, K0 x = some r) : ∀ (d k : Nat) (left i : Int), 0 ≤ i → (List.length a : Int) - i = d → d < k → ∃ r, laws_szConS.l0 n a K0 k left i = some r := by
  intro d
  induction d with
  | zero =>
    intro k left i h0 h1 hk
    obtain ⟨k, rfl⟩ : ∃ m, k = m + 1 := ⟨k - 1, by omega⟩
    simp only [laws_szConS.l0, decide_eq_true_eq]
    rw [if_neg (by omega)]
    exact hK _
  | succ d ih =>
    intro k left i h0 h1 hk
    obtain ⟨k, rfl⟩ : ∃ m, k = m + 1 := ⟨k - 1, by omega⟩
    have hw : IntKind.i64.wrap (i + 1) = i + 1 := wrap64 _ (by omega) (by omega)
    have hx := hb _ (getD_mem' a i (ByteArray.empty, []) h0 (by omega))
    simp only [laws_szConS.l0, decide_eq_true_eq, hw]
    rw [if_pos (by omega), if_pos ⟨h0, by omega⟩]
    repeat' first | exact ⟨_, rfl⟩ | exact ih _ _ _ (by omega) (by omega) (by omega) | split | refine bind_total (sz_Con hn _ hx _) (fun r => ?_)
theorem sz_ConS {n : Nat} (hn : big ≤ n) (a : List (ByteArray × List ByteArray)) (hb : Kd.bulk (.sl (.st (.pair (.str) (.sl (.str))))) a ≤ 2147483648) (left : Int) : ∃ r, laws_szConS.F n a left = some r := by
  have hs := bulk_sl (e := .st (.pair (.str) (.sl (.str)))) a
  have hl := bulk_len (e := .st (.pair (.str) (.sl (.str)))) a
  have hm : ∀ x, x ∈ a → Kd.bulk (.st (.pair (.str) (.sl (.str)))) x ≤ 2147483648 := fun x hx => by have := bulk_mem (e := .st (.pair (.str) (.sl (.str)))) hx; omega
  unfold laws_szConS.F
  repeat' first | exact ⟨_, rfl⟩ | exact sz_ConS_l hn a hm (by omega) (fun x => ⟨_, rfl⟩) (List.length a) n _ 0 (by omega) (by omega) (by unfold big at hn; omega) | split

theorem sz_TypeDecl {n : Nat} (hn : big ≤ n) (a : ByteArray × List (ByteArray × List ByteArray)) (hb : Kd.bulk (.st (.pair (.str) (.sl (.st (.pair (.str) (.sl (.str))))))) a ≤ 2147483648) (left : Int) : ∃ r, laws_szTypeDecl.F n a left = some r := by
  unfold laws_szTypeDecl.F
  split
  · exact ⟨_, rfl⟩
  refine bind_total (sz_ConS hn _ (by simp only [Kd.bulk] at hb ⊢; omega) _) (fun r => ?_)
  try dsimp only
  split
  · exact ⟨_, rfl⟩
  exact ⟨_, rfl⟩

theorem sz_TypeDeclS_l {n : Nat} (hn : big ≤ n) (a : List (ByteArray × List (ByteArray × List ByteArray))) (hb : ∀ x, x ∈ a → Kd.bulk (.st (.pair (.str) (.sl (.st (.pair (.str) (.sl (.str))))))) x ≤ 2147483648) (hl : List.length a ≤ 2147483648) {K0 : Int → Option Int} (hK : ∀ x, ∃ r, K0 x = some r) : ∀ (d k : Nat) (left i : Int), 0 ≤ i → (List.length a : Int) - i = d → d < k → ∃ r, laws_szTypeDeclS.l0 n a K0 k left i = some r := by
  intro d
  induction d with
  | zero =>
    intro k left i h0 h1 hk
    obtain ⟨k, rfl⟩ : ∃ m, k = m + 1 := ⟨k - 1, by omega⟩
    simp only [laws_szTypeDeclS.l0, decide_eq_true_eq]
    rw [if_neg (by omega)]
    exact hK _
  | succ d ih =>
    intro k left i h0 h1 hk
    obtain ⟨k, rfl⟩ : ∃ m, k = m + 1 := ⟨k - 1, by omega⟩
    have hw : IntKind.i64.wrap (i + 1) = i + 1 := wrap64 _ (by omega) (by omega)
    have hx := hb _ (getD_mem' a i (ByteArray.empty, []) h0 (by omega))
    simp only [laws_szTypeDeclS.l0, decide_eq_true_eq, hw]
    rw [if_pos (by omega), if_pos ⟨h0, by omega⟩]
    repeat' first | exact ⟨_, rfl⟩ | exact ih _ _ _ (by omega) (by omega) (by omega) | split | refine bind_total (sz_TypeDecl hn _ hx _) (fun r => ?_)
theorem sz_TypeDeclS {n : Nat} (hn : big ≤ n) (a : List (ByteArray × List (ByteArray × List ByteArray))) (hb : Kd.bulk (.sl (.st (.pair (.str) (.sl (.st (.pair (.str) (.sl (.str)))))))) a ≤ 2147483648) (left : Int) : ∃ r, laws_szTypeDeclS.F n a left = some r := by
  have hs := bulk_sl (e := .st (.pair (.str) (.sl (.st (.pair (.str) (.sl (.str))))))) a
  have hl := bulk_len (e := .st (.pair (.str) (.sl (.st (.pair (.str) (.sl (.str))))))) a
  have hm : ∀ x, x ∈ a → Kd.bulk (.st (.pair (.str) (.sl (.st (.pair (.str) (.sl (.str))))))) x ≤ 2147483648 := fun x hx => by have := bulk_mem (e := .st (.pair (.str) (.sl (.st (.pair (.str) (.sl (.str))))))) hx; omega
  unfold laws_szTypeDeclS.F
  repeat' first | exact ⟨_, rfl⟩ | exact sz_TypeDeclS_l hn a hm (by omega) (fun x => ⟨_, rfl⟩) (List.length a) n _ 0 (by omega) (by omega) (by unfold big at hn; omega) | split

theorem sz_RelDecl {n : Nat} (hn : big ≤ n) (a : ByteArray × (List ByteArray) × Int) (hb : Kd.bulk (.st (.pair (.str) (.pair (.sl (.str)) (.int .i64)))) a ≤ 2147483648) (left : Int) : ∃ r, laws_szRelDecl.F n a left = some r := by
  unfold laws_szRelDecl.F
  split
  · exact ⟨_, rfl⟩
  refine bind_total (sz_StringS hn _ (by simp only [Kd.bulk] at hb ⊢; omega) _) (fun r => ?_)
  try dsimp only
  split
  · exact ⟨_, rfl⟩
  exact ⟨_, rfl⟩

theorem sz_RelDeclS_l {n : Nat} (hn : big ≤ n) (a : List (ByteArray × (List ByteArray) × Int)) (hb : ∀ x, x ∈ a → Kd.bulk (.st (.pair (.str) (.pair (.sl (.str)) (.int .i64)))) x ≤ 2147483648) (hl : List.length a ≤ 2147483648) {K0 : Int → Option Int} (hK : ∀ x, ∃ r, K0 x = some r) : ∀ (d k : Nat) (left i : Int), 0 ≤ i → (List.length a : Int) - i = d → d < k → ∃ r, laws_szRelDeclS.l0 n a K0 k left i = some r := by
  intro d
  induction d with
  | zero =>
    intro k left i h0 h1 hk
    obtain ⟨k, rfl⟩ : ∃ m, k = m + 1 := ⟨k - 1, by omega⟩
    simp only [laws_szRelDeclS.l0, decide_eq_true_eq]
    rw [if_neg (by omega)]
    exact hK _
  | succ d ih =>
    intro k left i h0 h1 hk
    obtain ⟨k, rfl⟩ : ∃ m, k = m + 1 := ⟨k - 1, by omega⟩
    have hw : IntKind.i64.wrap (i + 1) = i + 1 := wrap64 _ (by omega) (by omega)
    have hx := hb _ (getD_mem' a i (ByteArray.empty, ([], 0)) h0 (by omega))
    simp only [laws_szRelDeclS.l0, decide_eq_true_eq, hw]
    rw [if_pos (by omega), if_pos ⟨h0, by omega⟩]
    repeat' first | exact ⟨_, rfl⟩ | exact ih _ _ _ (by omega) (by omega) (by omega) | split | refine bind_total (sz_RelDecl hn _ hx _) (fun r => ?_)
theorem sz_RelDeclS {n : Nat} (hn : big ≤ n) (a : List (ByteArray × (List ByteArray) × Int)) (hb : Kd.bulk (.sl (.st (.pair (.str) (.pair (.sl (.str)) (.int .i64))))) a ≤ 2147483648) (left : Int) : ∃ r, laws_szRelDeclS.F n a left = some r := by
  have hs := bulk_sl (e := .st (.pair (.str) (.pair (.sl (.str)) (.int .i64)))) a
  have hl := bulk_len (e := .st (.pair (.str) (.pair (.sl (.str)) (.int .i64)))) a
  have hm : ∀ x, x ∈ a → Kd.bulk (.st (.pair (.str) (.pair (.sl (.str)) (.int .i64)))) x ≤ 2147483648 := fun x hx => by have := bulk_mem (e := .st (.pair (.str) (.pair (.sl (.str)) (.int .i64)))) hx; omega
  unfold laws_szRelDeclS.F
  repeat' first | exact ⟨_, rfl⟩ | exact sz_RelDeclS_l hn a hm (by omega) (fun x => ⟨_, rfl⟩) (List.length a) n _ 0 (by omega) (by omega) (by unfold big at hn; omega) | split

theorem sz_IntS {n : Nat} (hn : big ≤ n) (a : List Int) (hb : Kd.bulk (.sl (.int .i64)) a ≤ 2147483648) (left : Int) : ∃ r, laws_szIntS.F n a left = some r := by
  unfold laws_szIntS.F
  split
  · exact ⟨_, rfl⟩
  exact ⟨_, rfl⟩

theorem sz_Exp {n : Nat} (hn : big ≤ n) (a : Int × ByteArray × List Int) (hb : Kd.bulk (.st (.pair (.int .i64) (.pair (.str) (.sl (.int .i64))))) a ≤ 2147483648) (left : Int) : ∃ r, laws_szExp.F n a left = some r := by
  unfold laws_szExp.F
  split
  · exact ⟨_, rfl⟩
  refine bind_total (sz_IntS hn _ (by simp only [Kd.bulk] at hb ⊢; omega) _) (fun r => ?_)
  try dsimp only
  split
  · exact ⟨_, rfl⟩
  exact ⟨_, rfl⟩

theorem sz_ExpS_l {n : Nat} (hn : big ≤ n) (a : List (Int × ByteArray × List Int)) (hb : ∀ x, x ∈ a → Kd.bulk (.st (.pair (.int .i64) (.pair (.str) (.sl (.int .i64))))) x ≤ 2147483648) (hl : List.length a ≤ 2147483648) {K0 : Int → Option Int} (hK : ∀ x, ∃ r, K0 x = some r) : ∀ (d k : Nat) (left i : Int), 0 ≤ i → (List.length a : Int) - i = d → d < k → ∃ r, laws_szExpS.l0 n a K0 k left i = some r := by
  intro d
  induction d with
  | zero =>
    intro k left i h0 h1 hk
    obtain ⟨k, rfl⟩ : ∃ m, k = m + 1 := ⟨k - 1, by omega⟩
    simp only [laws_szExpS.l0, decide_eq_true_eq]
    rw [if_neg (by omega)]
    exact hK _
  | succ d ih =>
    intro k left i h0 h1 hk
    obtain ⟨k, rfl⟩ : ∃ m, k = m + 1 := ⟨k - 1, by omega⟩
    have hw : IntKind.i64.wrap (i + 1) = i + 1 := wrap64 _ (by omega) (by omega)
    have hx := hb _ (getD_mem' a i (0, (ByteArray.empty, [])) h0 (by omega))
    simp only [laws_szExpS.l0, decide_eq_true_eq, hw]
    rw [if_pos (by omega), if_pos ⟨h0, by omega⟩]
    repeat' first | exact ⟨_, rfl⟩ | exact ih _ _ _ (by omega) (by omega) (by omega) | split | refine bind_total (sz_Exp hn _ hx _) (fun r => ?_)
theorem sz_ExpS {n : Nat} (hn : big ≤ n) (a : List (Int × ByteArray × List Int)) (hb : Kd.bulk (.sl (.st (.pair (.int .i64) (.pair (.str) (.sl (.int .i64)))))) a ≤ 2147483648) (left : Int) : ∃ r, laws_szExpS.F n a left = some r := by
  have hs := bulk_sl (e := .st (.pair (.int .i64) (.pair (.str) (.sl (.int .i64))))) a
  have hl := bulk_len (e := .st (.pair (.int .i64) (.pair (.str) (.sl (.int .i64))))) a
  have hm : ∀ x, x ∈ a → Kd.bulk (.st (.pair (.int .i64) (.pair (.str) (.sl (.int .i64))))) x ≤ 2147483648 := fun x hx => by have := bulk_mem (e := .st (.pair (.int .i64) (.pair (.str) (.sl (.int .i64))))) hx; omega
  unfold laws_szExpS.F
  repeat' first | exact ⟨_, rfl⟩ | exact sz_ExpS_l hn a hm (by omega) (fun x => ⟨_, rfl⟩) (List.length a) n _ 0 (by omega) (by omega) (by unfold big at hn; omega) | split

theorem sz_Lit {n : Nat} (hn : big ≤ n) (a : Int × ByteArray × List Int) (hb : Kd.bulk (.st (.pair (.int .i64) (.pair (.str) (.sl (.int .i64))))) a ≤ 2147483648) (left : Int) : ∃ r, laws_szLit.F n a left = some r := by
  unfold laws_szLit.F
  split
  · exact ⟨_, rfl⟩
  refine bind_total (sz_IntS hn _ (by simp only [Kd.bulk] at hb ⊢; omega) _) (fun r => ?_)
  try dsimp only
  split
  · exact ⟨_, rfl⟩
  exact ⟨_, rfl⟩

theorem sz_LitS_l {n : Nat} (hn : big ≤ n) (a : List (Int × ByteArray × List Int)) (hb : ∀ x, x ∈ a → Kd.bulk (.st (.pair (.int .i64) (.pair (.str) (.sl (.int .i64))))) x ≤ 2147483648) (hl : List.length a ≤ 2147483648) {K0 : Int → Option Int} (hK : ∀ x, ∃ r, K0 x = some r) : ∀ (d k : Nat) (left i : Int), 0 ≤ i → (List.length a : Int) - i = d → d < k → ∃ r, laws_szLitS.l0 n a K0 k left i = some r := by
  intro d
  induction d with
  | zero =>
    intro k left i h0 h1 hk
    obtain ⟨k, rfl⟩ : ∃ m, k = m + 1 := ⟨k - 1, by omega⟩
    simp only [laws_szLitS.l0, decide_eq_true_eq]
    rw [if_neg (by omega)]
    exact hK _
  | succ d ih =>
    intro k left i h0 h1 hk
    obtain ⟨k, rfl⟩ : ∃ m, k = m + 1 := ⟨k - 1, by omega⟩
    have hw : IntKind.i64.wrap (i + 1) = i + 1 := wrap64 _ (by omega) (by omega)
    have hx := hb _ (getD_mem' a i (0, (ByteArray.empty, [])) h0 (by omega))
    simp only [laws_szLitS.l0, decide_eq_true_eq, hw]
    rw [if_pos (by omega), if_pos ⟨h0, by omega⟩]
    repeat' first | exact ⟨_, rfl⟩ | exact ih _ _ _ (by omega) (by omega) (by omega) | split | refine bind_total (sz_Lit hn _ hx _) (fun r => ?_)
theorem sz_LitS {n : Nat} (hn : big ≤ n) (a : List (Int × ByteArray × List Int)) (hb : Kd.bulk (.sl (.st (.pair (.int .i64) (.pair (.str) (.sl (.int .i64)))))) a ≤ 2147483648) (left : Int) : ∃ r, laws_szLitS.F n a left = some r := by
  have hs := bulk_sl (e := .st (.pair (.int .i64) (.pair (.str) (.sl (.int .i64))))) a
  have hl := bulk_len (e := .st (.pair (.int .i64) (.pair (.str) (.sl (.int .i64))))) a
  have hm : ∀ x, x ∈ a → Kd.bulk (.st (.pair (.int .i64) (.pair (.str) (.sl (.int .i64))))) x ≤ 2147483648 := fun x hx => by have := bulk_mem (e := .st (.pair (.int .i64) (.pair (.str) (.sl (.int .i64))))) hx; omega
  unfold laws_szLitS.F
  repeat' first | exact ⟨_, rfl⟩ | exact sz_LitS_l hn a hm (by omega) (fun x => ⟨_, rfl⟩) (List.length a) n _ 0 (by omega) (by omega) (by unfold big at hn; omega) | split

theorem sz_Rule {n : Nat} (hn : big ≤ n) (a : (List (Int × ByteArray × List Int)) × (Int × ByteArray × List Int) × List (Int × ByteArray × List Int)) (hb : Kd.bulk (.st (.pair (.sl (.st (.pair (.int .i64) (.pair (.str) (.sl (.int .i64)))))) (.pair (.st (.pair (.int .i64) (.pair (.str) (.sl (.int .i64))))) (.sl (.st (.pair (.int .i64) (.pair (.str) (.sl (.int .i64))))))))) a ≤ 2147483648) (left : Int) : ∃ r, laws_szRule.F n a left = some r := by
  unfold laws_szRule.F
  refine bind_total (sz_ExpS hn _ (by simp only [Kd.bulk] at hb ⊢; omega) _) (fun r => ?_)
  try dsimp only
  split
  · exact ⟨_, rfl⟩
  refine bind_total (sz_Lit hn _ (by simp only [Kd.bulk] at hb ⊢; omega) _) (fun r => ?_)
  try dsimp only
  split
  · exact ⟨_, rfl⟩
  refine bind_total (sz_LitS hn _ (by simp only [Kd.bulk] at hb ⊢; omega) _) (fun r => ?_)
  try dsimp only
  split
  · exact ⟨_, rfl⟩
  exact ⟨_, rfl⟩

theorem sz_RuleS_l {n : Nat} (hn : big ≤ n) (a : List ((List (Int × ByteArray × List Int)) × (Int × ByteArray × List Int) × List (Int × ByteArray × List Int))) (hb : ∀ x, x ∈ a → Kd.bulk (.st (.pair (.sl (.st (.pair (.int .i64) (.pair (.str) (.sl (.int .i64)))))) (.pair (.st (.pair (.int .i64) (.pair (.str) (.sl (.int .i64))))) (.sl (.st (.pair (.int .i64) (.pair (.str) (.sl (.int .i64))))))))) x ≤ 2147483648) (hl : List.length a ≤ 2147483648) {K0 : Int → Option Int} (hK : ∀ x, ∃ r, K0 x = some r) : ∀ (d k : Nat) (left i : Int), 0 ≤ i → (List.length a : Int) - i = d → d < k → ∃ r, laws_szRuleS.l0 n a K0 k left i = some r := by
  intro d
  induction d with
  | zero =>
    intro k left i h0 h1 hk
    obtain ⟨k, rfl⟩ : ∃ m, k = m + 1 := ⟨k - 1, by omega⟩
    simp only [laws_szRuleS.l0, decide_eq_true_eq]
    rw [if_neg (by omega)]
    exact hK _
  | succ d ih =>
    intro k left i h0 h1 hk
    obtain ⟨k, rfl⟩ : ∃ m, k = m + 1 := ⟨k - 1, by omega⟩
    have hw : IntKind.i64.wrap (i + 1) = i + 1 := wrap64 _ (by omega) (by omega)
    have hx := hb _ (getD_mem' a i ([], ((0, (ByteArray.empty, [])), [])) h0 (by omega))
    simp only [laws_szRuleS.l0, decide_eq_true_eq, hw]
    rw [if_pos (by omega), if_pos ⟨h0, by omega⟩]
    repeat' first | exact ⟨_, rfl⟩ | exact ih _ _ _ (by omega) (by omega) (by omega) | split | refine bind_total (sz_Rule hn _ hx _) (fun r => ?_)
theorem sz_RuleS {n : Nat} (hn : big ≤ n) (a : List ((List (Int × ByteArray × List Int)) × (Int × ByteArray × List Int) × List (Int × ByteArray × List Int))) (hb : Kd.bulk (.sl (.st (.pair (.sl (.st (.pair (.int .i64) (.pair (.str) (.sl (.int .i64)))))) (.pair (.st (.pair (.int .i64) (.pair (.str) (.sl (.int .i64))))) (.sl (.st (.pair (.int .i64) (.pair (.str) (.sl (.int .i64)))))))))) a ≤ 2147483648) (left : Int) : ∃ r, laws_szRuleS.F n a left = some r := by
  have hs := bulk_sl (e := .st (.pair (.sl (.st (.pair (.int .i64) (.pair (.str) (.sl (.int .i64)))))) (.pair (.st (.pair (.int .i64) (.pair (.str) (.sl (.int .i64))))) (.sl (.st (.pair (.int .i64) (.pair (.str) (.sl (.int .i64))))))))) a
  have hl := bulk_len (e := .st (.pair (.sl (.st (.pair (.int .i64) (.pair (.str) (.sl (.int .i64)))))) (.pair (.st (.pair (.int .i64) (.pair (.str) (.sl (.int .i64))))) (.sl (.st (.pair (.int .i64) (.pair (.str) (.sl (.int .i64))))))))) a
  have hm : ∀ x, x ∈ a → Kd.bulk (.st (.pair (.sl (.st (.pair (.int .i64) (.pair (.str) (.sl (.int .i64)))))) (.pair (.st (.pair (.int .i64) (.pair (.str) (.sl (.int .i64))))) (.sl (.st (.pair (.int .i64) (.pair (.str) (.sl (.int .i64))))))))) x ≤ 2147483648 := fun x hx => by have := bulk_mem (e := .st (.pair (.sl (.st (.pair (.int .i64) (.pair (.str) (.sl (.int .i64)))))) (.pair (.st (.pair (.int .i64) (.pair (.str) (.sl (.int .i64))))) (.sl (.st (.pair (.int .i64) (.pair (.str) (.sl (.int .i64))))))))) hx; omega
  unfold laws_szRuleS.F
  repeat' first | exact ⟨_, rfl⟩ | exact sz_RuleS_l hn a hm (by omega) (fun x => ⟨_, rfl⟩) (List.length a) n _ 0 (by omega) (by omega) (by unfold big at hn; omega) | split

theorem sz_Prog {n : Nat} (hn : big ≤ n) (a : (List (ByteArray × List (ByteArray × List ByteArray))) × (List (ByteArray × (List ByteArray) × Int)) × List ((List (Int × ByteArray × List Int)) × (Int × ByteArray × List Int) × List (Int × ByteArray × List Int))) (hb : Kd.bulk (.st (.pair (.sl (.st (.pair (.str) (.sl (.st (.pair (.str) (.sl (.str)))))))) (.pair (.sl (.st (.pair (.str) (.pair (.sl (.str)) (.int .i64))))) (.sl (.st (.pair (.sl (.st (.pair (.int .i64) (.pair (.str) (.sl (.int .i64)))))) (.pair (.st (.pair (.int .i64) (.pair (.str) (.sl (.int .i64))))) (.sl (.st (.pair (.int .i64) (.pair (.str) (.sl (.int .i64))))))))))))) a ≤ 2147483648) (left : Int) : ∃ r, laws_szProg.F n a left = some r := by
  unfold laws_szProg.F
  refine bind_total (sz_TypeDeclS hn _ (by simp only [Kd.bulk] at hb ⊢; omega) _) (fun r => ?_)
  try dsimp only
  split
  · exact ⟨_, rfl⟩
  refine bind_total (sz_RelDeclS hn _ (by simp only [Kd.bulk] at hb ⊢; omega) _) (fun r => ?_)
  try dsimp only
  split
  · exact ⟨_, rfl⟩
  refine bind_total (sz_RuleS hn _ (by simp only [Kd.bulk] at hb ⊢; omega) _) (fun r => ?_)
  try dsimp only
  split
  · exact ⟨_, rfl⟩
  exact ⟨_, rfl⟩

theorem to_StringS_l {n : Nat} (hn : big ≤ n) (a : List ByteArray) (hl : List.length a ≤ 2147483648) (hb : ∀ x, x ∈ a → Kd.bulk .str x ≤ 2147483648) {K0 : (List ByteArray) → Option (List ByteArray)} : ∀ (post pre junk : List ByteArray) (k : Nat), a = pre ++ post → junk.length = post.length → post.length < k → laws_toStringS.l0 n a K0 k (pre.length : Int) (pre ++ junk) = K0 a := by
  intro post
  induction post with
  | nil =>
    intro pre junk k ha hj hk
    obtain ⟨k, rfl⟩ : ∃ m, k = m + 1 := ⟨k - 1, by omega⟩
    obtain rfl : junk = [] := List.length_eq_zero_iff.1 hj
    subst ha
    simp only [laws_toStringS.l0, decide_eq_true_eq, end_lt, if_false]
  | cons x post ih =>
    intro pre junk k ha hj hk
    obtain ⟨k, rfl⟩ : ∃ m, k = m + 1 := ⟨k - 1, by omega⟩
    match junk, hj with
    | y :: junk, hj =>
      have hw : IntKind.i64.wrap ((pre.length : Int) + 1) = ((pre ++ [x]).length : Int) := by
        rw [wrap64 _ (by omega) (by rw [ha] at hl; simp at hl; omega)]; simp
      have hx := hb x (by rw [ha]; simp)
      have := ih (pre ++ [x]) junk k (by rw [ha]; simp) (by simpa using hj) (by simpa using hk)
      subst ha
      simp only [laws_toStringS.l0, decide_eq_true_eq, mid_lt, mid_in, if_true, Int.toNat_natCast, getD_mid, set_mid, hw, Option.bind_some]
      simpa using this
theorem to_StringS {n : Nat} (hn : big ≤ n) (a : List ByteArray) (hb : Kd.bulk (.sl (.str)) a ≤ 2147483648) : laws_toStringS.F n a = some a := by
  have hs := bulk_sl (e := .str) a
  have hl := bulk_len (e := .str) a
  have hm : ∀ x, x ∈ a → Kd.bulk .str x ≤ 2147483648 := fun x hx => by have := bulk_mem (e := .str) hx; omega
  unfold laws_toStringS.F
  rw [if_pos ⟨by omega, by omega, by unfold lim; omega⟩]
  exact to_StringS_l hn a (by omega) hm a [] _ n rfl (by simp) (by unfold big at hn; omega)

theorem to_Con {n : Nat} (hn : big ≤ n) (a : ByteArray × List ByteArray) (hb : Kd.bulk (.st (.pair (.str) (.sl (.str)))) a ≤ 2147483648) : laws_toCon.F n a = some a := by
  unfold laws_toCon.F
  refine bind_eq (to_StringS hn _ (by simp only [Kd.bulk] at hb ⊢; omega)) ?_
  rfl

theorem to_ConS_l {n : Nat} (hn : big ≤ n) (a : List (ByteArray × List ByteArray)) (hl : List.length a ≤ 2147483648) (hb : ∀ x, x ∈ a → Kd.bulk (.st (.pair (.str) (.sl (.str)))) x ≤ 2147483648) {K0 : (List (ByteArray × List ByteArray)) → Option (List (ByteArray × List ByteArray))} : ∀ (post pre junk : List (ByteArray × List ByteArray)) (k : Nat), a = pre ++ post → junk.length = post.length → post.length < k → laws_toConS.l0 n a K0 k (pre.length : Int) (pre ++ junk) = K0 a := by
  intro post
  induction post with
  | nil =>
    intro pre junk k ha hj hk
    obtain ⟨k, rfl⟩ : ∃ m, k = m + 1 := ⟨k - 1, by omega⟩
    obtain rfl : junk = [] := List.length_eq_zero_iff.1 hj
    subst ha
    simp only [laws_toConS.l0, decide_eq_true_eq, end_lt, if_false]
  | cons x post ih =>
    intro pre junk k ha hj hk
    obtain ⟨k, rfl⟩ : ∃ m, k = m + 1 := ⟨k - 1, by omega⟩
    match junk, hj with
    | y :: junk, hj =>
      have hw : IntKind.i64.wrap ((pre.length : Int) + 1) = ((pre ++ [x]).length : Int) := by
        rw [wrap64 _ (by omega) (by rw [ha] at hl; simp at hl; omega)]; simp
      have hx := hb x (by rw [ha]; simp)
      have := ih (pre ++ [x]) junk k (by rw [ha]; simp) (by simpa using hj) (by simpa using hk)
      subst ha
      simp only [laws_toConS.l0, decide_eq_true_eq, mid_lt, mid_in, if_true, Int.toNat_natCast, getD_mid, set_mid, hw, to_Con hn x hx, Option.bind_some]
      simpa using this
theorem to_ConS {n : Nat} (hn : big ≤ n) (a : List (ByteArray × List ByteArray)) (hb : Kd.bulk (.sl (.st (.pair (.str) (.sl (.str))))) a ≤ 2147483648) : laws_toConS.F n a = some a := by
  have hs := bulk_sl (e := .st (.pair (.str) (.sl (.str)))) a
  have hl := bulk_len (e := .st (.pair (.str) (.sl (.str)))) a
  have hm : ∀ x, x ∈ a → Kd.bulk (.st (.pair (.str) (.sl (.str)))) x ≤ 2147483648 := fun x hx => by have := bulk_mem (e := .st (.pair (.str) (.sl (.str)))) hx; omega
  unfold laws_toConS.F
  rw [if_pos ⟨by omega, by omega, by unfold lim; omega⟩]
  exact to_ConS_l hn a (by omega) hm a [] _ n rfl (by simp) (by unfold big at hn; omega)

theorem to_TypeDecl {n : Nat} (hn : big ≤ n) (a : ByteArray × List (ByteArray × List ByteArray)) (hb : Kd.bulk (.st (.pair (.str) (.sl (.st (.pair (.str) (.sl (.str))))))) a ≤ 2147483648) : laws_toTypeDecl.F n a = some a := by
  unfold laws_toTypeDecl.F
  refine bind_eq (to_ConS hn _ (by simp only [Kd.bulk] at hb ⊢; omega)) ?_
  rfl

theorem to_TypeDeclS_l {n : Nat} (hn : big ≤ n) (a : List (ByteArray × List (ByteArray × List ByteArray))) (hl : List.length a ≤ 2147483648) (hb : ∀ x, x ∈ a → Kd.bulk (.st (.pair (.str) (.sl (.st (.pair (.str) (.sl (.str))))))) x ≤ 2147483648) {K0 : (List (ByteArray × List (ByteArray × List ByteArray))) → Option (List (ByteArray × List (ByteArray × List ByteArray)))} : ∀ (post pre junk : List (ByteArray × List (ByteArray × List ByteArray))) (k : Nat), a = pre ++ post → junk.length = post.length → post.length < k → laws_toTypeDeclS.l0 n a K0 k (pre.length : Int) (pre ++ junk) = K0 a := by
  intro post
  induction post with
  | nil =>
    intro pre junk k ha hj hk
    obtain ⟨k, rfl⟩ : ∃ m, k = m + 1 := ⟨k - 1, by omega⟩
    obtain rfl : junk = [] := List.length_eq_zero_iff.1 hj
    subst ha
    simp only [laws_toTypeDeclS.l0, decide_eq_true_eq, end_lt, if_false]
  | cons x post ih =>
    intro pre junk k ha hj hk
    obtain ⟨k, rfl⟩ : ∃ m, k = m + 1 := ⟨k - 1, by omega⟩
    match junk, hj with
    | y :: junk, hj =>
      have hw : IntKind.i64.wrap ((pre.length : Int) + 1) = ((pre ++ [x]).length : Int) := by
        rw [wrap64 _ (by omega) (by rw [ha] at hl; simp at hl; omega)]; simp
      have hx := hb x (by rw [ha]; simp)
      have := ih (pre ++ [x]) junk k (by rw [ha]; simp) (by simpa using hj) (by simpa using hk)
      subst ha
      simp only [laws_toTypeDeclS.l0, decide_eq_true_eq, mid_lt, mid_in, if_true, Int.toNat_natCast, getD_mid, set_mid, hw, to_TypeDecl hn x hx, Option.bind_some]
      simpa using this
theorem to_TypeDeclS {n : Nat} (hn : big ≤ n) (a : List (ByteArray × List (ByteArray × List ByteArray))) (hb : Kd.bulk (.sl (.st (.pair (.str) (.sl (.st (.pair (.str) (.sl (.str)))))))) a ≤ 2147483648) : laws_toTypeDeclS.F n a = some a := by
  have hs := bulk_sl (e := .st (.pair (.str) (.sl (.st (.pair (.str) (.sl (.str))))))) a
  have hl := bulk_len (e := .st (.pair (.str) (.sl (.st (.pair (.str) (.sl (.str))))))) a
  have hm : ∀ x, x ∈ a → Kd.bulk (.st (.pair (.str) (.sl (.st (.pair (.str) (.sl (.str))))))) x ≤ 2147483648 := fun x hx => by have := bulk_mem (e := .st (.pair (.str) (.sl (.st (.pair (.str) (.sl (.str))))))) hx; omega
  unfold laws_toTypeDeclS.F
  rw [if_pos ⟨by omega, by omega, by unfold lim; omega⟩]
  exact to_TypeDeclS_l hn a (by omega) hm a [] _ n rfl (by simp) (by unfold big at hn; omega)

theorem to_RelDecl {n : Nat} (hn : big ≤ n) (a : ByteArray × (List ByteArray) × Int) (hb : Kd.bulk (.st (.pair (.str) (.pair (.sl (.str)) (.int .i64)))) a ≤ 2147483648) : laws_toRelDecl.F n a = some a := by
  unfold laws_toRelDecl.F
  refine bind_eq (to_StringS hn _ (by simp only [Kd.bulk] at hb ⊢; omega)) ?_
  rfl

theorem to_RelDeclS_l {n : Nat} (hn : big ≤ n) (a : List (ByteArray × (List ByteArray) × Int)) (hl : List.length a ≤ 2147483648) (hb : ∀ x, x ∈ a → Kd.bulk (.st (.pair (.str) (.pair (.sl (.str)) (.int .i64)))) x ≤ 2147483648) {K0 : (List (ByteArray × (List ByteArray) × Int)) → Option (List (ByteArray × (List ByteArray) × Int))} : ∀ (post pre junk : List (ByteArray × (List ByteArray) × Int)) (k : Nat), a = pre ++ post → junk.length = post.length → post.length < k → laws_toRelDeclS.l0 n a K0 k (pre.length : Int) (pre ++ junk) = K0 a := by
  intro post
  induction post with
  | nil =>
    intro pre junk k ha hj hk
    obtain ⟨k, rfl⟩ : ∃ m, k = m + 1 := ⟨k - 1, by omega⟩
    obtain rfl : junk = [] := List.length_eq_zero_iff.1 hj
    subst ha
    simp only [laws_toRelDeclS.l0, decide_eq_true_eq, end_lt, if_false]
  | cons x post ih =>
    intro pre junk k ha hj hk
    obtain ⟨k, rfl⟩ : ∃ m, k = m + 1 := ⟨k - 1, by omega⟩
    match junk, hj with
    | y :: junk, hj =>
      have hw : IntKind.i64.wrap ((pre.length : Int) + 1) = ((pre ++ [x]).length : Int) := by
        rw [wrap64 _ (by omega) (by rw [ha] at hl; simp at hl; omega)]; simp
      have hx := hb x (by rw [ha]; simp)
      have := ih (pre ++ [x]) junk k (by rw [ha]; simp) (by simpa using hj) (by simpa using hk)
      subst ha
      simp only [laws_toRelDeclS.l0, decide_eq_true_eq, mid_lt, mid_in, if_true, Int.toNat_natCast, getD_mid, set_mid, hw, to_RelDecl hn x hx, Option.bind_some]
      simpa using this
theorem to_RelDeclS {n : Nat} (hn : big ≤ n) (a : List (ByteArray × (List ByteArray) × Int)) (hb : Kd.bulk (.sl (.st (.pair (.str) (.pair (.sl (.str)) (.int .i64))))) a ≤ 2147483648) : laws_toRelDeclS.F n a = some a := by
  have hs := bulk_sl (e := .st (.pair (.str) (.pair (.sl (.str)) (.int .i64)))) a
  have hl := bulk_len (e := .st (.pair (.str) (.pair (.sl (.str)) (.int .i64)))) a
  have hm : ∀ x, x ∈ a → Kd.bulk (.st (.pair (.str) (.pair (.sl (.str)) (.int .i64)))) x ≤ 2147483648 := fun x hx => by have := bulk_mem (e := .st (.pair (.str) (.pair (.sl (.str)) (.int .i64)))) hx; omega
  unfold laws_toRelDeclS.F
  rw [if_pos ⟨by omega, by omega, by unfold lim; omega⟩]
  exact to_RelDeclS_l hn a (by omega) hm a [] _ n rfl (by simp) (by unfold big at hn; omega)

theorem to_IntS_l {n : Nat} (hn : big ≤ n) (a : List Int) (hl : List.length a ≤ 2147483648) (hb : ∀ x, x ∈ a → Kd.bulk (.int .i64) x ≤ 2147483648) {K0 : (List Int) → Option (List Int)} : ∀ (post pre junk : List Int) (k : Nat), a = pre ++ post → junk.length = post.length → post.length < k → laws_toIntS.l0 n a K0 k (pre.length : Int) (pre ++ junk) = K0 a := by
  intro post
  induction post with
  | nil =>
    intro pre junk k ha hj hk
    obtain ⟨k, rfl⟩ : ∃ m, k = m + 1 := ⟨k - 1, by omega⟩
    obtain rfl : junk = [] := List.length_eq_zero_iff.1 hj
    subst ha
    simp only [laws_toIntS.l0, decide_eq_true_eq, end_lt, if_false]
  | cons x post ih =>
    intro pre junk k ha hj hk
    obtain ⟨k, rfl⟩ : ∃ m, k = m + 1 := ⟨k - 1, by omega⟩
    match junk, hj with
    | y :: junk, hj =>
      have hw : IntKind.i64.wrap ((pre.length : Int) + 1) = ((pre ++ [x]).length : Int) := by
        rw [wrap64 _ (by omega) (by rw [ha] at hl; simp at hl; omega)]; simp
      have hx := hb x (by rw [ha]; simp)
      have := ih (pre ++ [x]) junk k (by rw [ha]; simp) (by simpa using hj) (by simpa using hk)
      subst ha
      simp only [laws_toIntS.l0, decide_eq_true_eq, mid_lt, mid_in, if_true, Int.toNat_natCast, getD_mid, set_mid, hw, Option.bind_some]
      simpa using this
theorem to_IntS {n : Nat} (hn : big ≤ n) (a : List Int) (hb : Kd.bulk (.sl (.int .i64)) a ≤ 2147483648) : laws_toIntS.F n a = some a := by
  have hs := bulk_sl (e := .int .i64) a
  have hl := bulk_len (e := .int .i64) a
  have hm : ∀ x, x ∈ a → Kd.bulk (.int .i64) x ≤ 2147483648 := fun x hx => by have := bulk_mem (e := .int .i64) hx; omega
  unfold laws_toIntS.F
  rw [if_pos ⟨by omega, by omega, by unfold lim; omega⟩]
  exact to_IntS_l hn a (by omega) hm a [] _ n rfl (by simp) (by unfold big at hn; omega)

theorem to_Exp {n : Nat} (hn : big ≤ n) (a : Int × ByteArray × List Int) (hb : Kd.bulk (.st (.pair (.int .i64) (.pair (.str) (.sl (.int .i64))))) a ≤ 2147483648) : laws_toExp.F n a = some a := by
  unfold laws_toExp.F
  refine bind_eq (to_IntS hn _ (by simp only [Kd.bulk] at hb ⊢; omega)) ?_
  rfl

theorem to_ExpS_l {n : Nat} (hn : big ≤ n) (a : List (Int × ByteArray × List Int)) (hl : List.length a ≤ 2147483648) (hb : ∀ x, x ∈ a → Kd.bulk (.st (.pair (.int .i64) (.pair (.str) (.sl (.int .i64))))) x ≤ 2147483648) {K0 : (List (Int × ByteArray × List Int)) → Option (List (Int × ByteArray × List Int))} : ∀ (post pre junk : List (Int × ByteArray × List Int)) (k : Nat), a = pre ++ post → junk.length = post.length → post.length < k → laws_toExpS.l0 n a K0 k (pre.length : Int) (pre ++ junk) = K0 a := by
  intro post
  induction post with
  | nil =>
    intro pre junk k ha hj hk
    obtain ⟨k, rfl⟩ : ∃ m, k = m + 1 := ⟨k - 1, by omega⟩
    obtain rfl : junk = [] := List.length_eq_zero_iff.1 hj
    subst ha
    simp only [laws_toExpS.l0, decide_eq_true_eq, end_lt, if_false]
  | cons x post ih =>
    intro pre junk k ha hj hk
    obtain ⟨k, rfl⟩ : ∃ m, k = m + 1 := ⟨k - 1, by omega⟩
    match junk, hj with
    | y :: junk, hj =>
      have hw : IntKind.i64.wrap ((pre.length : Int) + 1) = ((pre ++ [x]).length : Int) := by
        rw [wrap64 _ (by omega) (by rw [ha] at hl; simp at hl; omega)]; simp
      have hx := hb x (by rw [ha]; simp)
      have := ih (pre ++ [x]) junk k (by rw [ha]; simp) (by simpa using hj) (by simpa using hk)
      subst ha
      simp only [laws_toExpS.l0, decide_eq_true_eq, mid_lt, mid_in, if_true, Int.toNat_natCast, getD_mid, set_mid, hw, to_Exp hn x hx, Option.bind_some]
      simpa using this
theorem to_ExpS {n : Nat} (hn : big ≤ n) (a : List (Int × ByteArray × List Int)) (hb : Kd.bulk (.sl (.st (.pair (.int .i64) (.pair (.str) (.sl (.int .i64)))))) a ≤ 2147483648) : laws_toExpS.F n a = some a := by
  have hs := bulk_sl (e := .st (.pair (.int .i64) (.pair (.str) (.sl (.int .i64))))) a
  have hl := bulk_len (e := .st (.pair (.int .i64) (.pair (.str) (.sl (.int .i64))))) a
  have hm : ∀ x, x ∈ a → Kd.bulk (.st (.pair (.int .i64) (.pair (.str) (.sl (.int .i64))))) x ≤ 2147483648 := fun x hx => by have := bulk_mem (e := .st (.pair (.int .i64) (.pair (.str) (.sl (.int .i64))))) hx; omega
  unfold laws_toExpS.F
  rw [if_pos ⟨by omega, by omega, by unfold lim; omega⟩]
  exact to_ExpS_l hn a (by omega) hm a [] _ n rfl (by simp) (by unfold big at hn; omega)

theorem to_Lit {n : Nat} (hn : big ≤ n) (a : Int × ByteArray × List Int) (hb : Kd.bulk (.st (.pair (.int .i64) (.pair (.str) (.sl (.int .i64))))) a ≤ 2147483648) : laws_toLit.F n a = some a := by
  unfold laws_toLit.F
  refine bind_eq (to_IntS hn _ (by simp only [Kd.bulk] at hb ⊢; omega)) ?_
  rfl

theorem to_LitS_l {n : Nat} (hn : big ≤ n) (a : List (Int × ByteArray × List Int)) (hl : List.length a ≤ 2147483648) (hb : ∀ x, x ∈ a → Kd.bulk (.st (.pair (.int .i64) (.pair (.str) (.sl (.int .i64))))) x ≤ 2147483648) {K0 : (List (Int × ByteArray × List Int)) → Option (List (Int × ByteArray × List Int))} : ∀ (post pre junk : List (Int × ByteArray × List Int)) (k : Nat), a = pre ++ post → junk.length = post.length → post.length < k → laws_toLitS.l0 n a K0 k (pre.length : Int) (pre ++ junk) = K0 a := by
  intro post
  induction post with
  | nil =>
    intro pre junk k ha hj hk
    obtain ⟨k, rfl⟩ : ∃ m, k = m + 1 := ⟨k - 1, by omega⟩
    obtain rfl : junk = [] := List.length_eq_zero_iff.1 hj
    subst ha
    simp only [laws_toLitS.l0, decide_eq_true_eq, end_lt, if_false]
  | cons x post ih =>
    intro pre junk k ha hj hk
    obtain ⟨k, rfl⟩ : ∃ m, k = m + 1 := ⟨k - 1, by omega⟩
    match junk, hj with
    | y :: junk, hj =>
      have hw : IntKind.i64.wrap ((pre.length : Int) + 1) = ((pre ++ [x]).length : Int) := by
        rw [wrap64 _ (by omega) (by rw [ha] at hl; simp at hl; omega)]; simp
      have hx := hb x (by rw [ha]; simp)
      have := ih (pre ++ [x]) junk k (by rw [ha]; simp) (by simpa using hj) (by simpa using hk)
      subst ha
      simp only [laws_toLitS.l0, decide_eq_true_eq, mid_lt, mid_in, if_true, Int.toNat_natCast, getD_mid, set_mid, hw, to_Lit hn x hx, Option.bind_some]
      simpa using this
theorem to_LitS {n : Nat} (hn : big ≤ n) (a : List (Int × ByteArray × List Int)) (hb : Kd.bulk (.sl (.st (.pair (.int .i64) (.pair (.str) (.sl (.int .i64)))))) a ≤ 2147483648) : laws_toLitS.F n a = some a := by
  have hs := bulk_sl (e := .st (.pair (.int .i64) (.pair (.str) (.sl (.int .i64))))) a
  have hl := bulk_len (e := .st (.pair (.int .i64) (.pair (.str) (.sl (.int .i64))))) a
  have hm : ∀ x, x ∈ a → Kd.bulk (.st (.pair (.int .i64) (.pair (.str) (.sl (.int .i64))))) x ≤ 2147483648 := fun x hx => by have := bulk_mem (e := .st (.pair (.int .i64) (.pair (.str) (.sl (.int .i64))))) hx; omega
  unfold laws_toLitS.F
  rw [if_pos ⟨by omega, by omega, by unfold lim; omega⟩]
  exact to_LitS_l hn a (by omega) hm a [] _ n rfl (by simp) (by unfold big at hn; omega)

theorem to_Rule {n : Nat} (hn : big ≤ n) (a : (List (Int × ByteArray × List Int)) × (Int × ByteArray × List Int) × List (Int × ByteArray × List Int)) (hb : Kd.bulk (.st (.pair (.sl (.st (.pair (.int .i64) (.pair (.str) (.sl (.int .i64)))))) (.pair (.st (.pair (.int .i64) (.pair (.str) (.sl (.int .i64))))) (.sl (.st (.pair (.int .i64) (.pair (.str) (.sl (.int .i64))))))))) a ≤ 2147483648) : laws_toRule.F n a = some a := by
  unfold laws_toRule.F
  refine bind_eq (to_ExpS hn _ (by simp only [Kd.bulk] at hb ⊢; omega)) ?_
  refine bind_eq (to_Lit hn _ (by simp only [Kd.bulk] at hb ⊢; omega)) ?_
  refine bind_eq (to_LitS hn _ (by simp only [Kd.bulk] at hb ⊢; omega)) ?_
  rfl

theorem to_RuleS_l {n : Nat} (hn : big ≤ n) (a : List ((List (Int × ByteArray × List Int)) × (Int × ByteArray × List Int) × List (Int × ByteArray × List Int))) (hl : List.length a ≤ 2147483648) (hb : ∀ x, x ∈ a → Kd.bulk (.st (.pair (.sl (.st (.pair (.int .i64) (.pair (.str) (.sl (.int .i64)))))) (.pair (.st (.pair (.int .i64) (.pair (.str) (.sl (.int .i64))))) (.sl (.st (.pair (.int .i64) (.pair (.str) (.sl (.int .i64))))))))) x ≤ 2147483648) {K0 : (List ((List (Int × ByteArray × List Int)) × (Int × ByteArray × List Int) × List (Int × ByteArray × List Int))) → Option (List ((List (Int × ByteArray × List Int)) × (Int × ByteArray × List Int) × List (Int × ByteArray × List Int)))} : ∀ (post pre junk : List ((List (Int × ByteArray × List Int)) × (Int × ByteArray × List Int) × List (Int × ByteArray × List Int))) (k : Nat), a = pre ++ post → junk.length = post.length → post.length < k → laws_toRuleS.l0 n a K0 k (pre.length : Int) (pre ++ junk) = K0 a := by
  intro post
  induction post with
  | nil =>
    intro pre junk k ha hj hk
    obtain ⟨k, rfl⟩ : ∃ m, k = m + 1 := ⟨k - 1, by omega⟩
    obtain rfl : junk = [] := List.length_eq_zero_iff.1 hj
    subst ha
    simp only [laws_toRuleS.l0, decide_eq_true_eq, end_lt, if_false]
  | cons x post ih =>
    intro pre junk k ha hj hk
    obtain ⟨k, rfl⟩ : ∃ m, k = m + 1 := ⟨k - 1, by omega⟩
    match junk, hj with
    | y :: junk, hj =>
      have hw : IntKind.i64.wrap ((pre.length : Int) + 1) = ((pre ++ [x]).length : Int) := by
        rw [wrap64 _ (by omega) (by rw [ha] at hl; simp at hl; omega)]; simp
      have hx := hb x (by rw [ha]; simp)
      have := ih (pre ++ [x]) junk k (by rw [ha]; simp) (by simpa using hj) (by simpa using hk)
      subst ha
      simp only [laws_toRuleS.l0, decide_eq_true_eq, mid_lt, mid_in, if_true, Int.toNat_natCast, getD_mid, set_mid, hw, to_Rule hn x hx, Option.bind_some]
      simpa using this
theorem to_RuleS {n : Nat} (hn : big ≤ n) (a : List ((List (Int × ByteArray × List Int)) × (Int × ByteArray × List Int) × List (Int × ByteArray × List Int))) (hb : Kd.bulk (.sl (.st (.pair (.sl (.st (.pair (.int .i64) (.pair (.str) (.sl (.int .i64)))))) (.pair (.st (.pair (.int .i64) (.pair (.str) (.sl (.int .i64))))) (.sl (.st (.pair (.int .i64) (.pair (.str) (.sl (.int .i64)))))))))) a ≤ 2147483648) : laws_toRuleS.F n a = some a := by
  have hs := bulk_sl (e := .st (.pair (.sl (.st (.pair (.int .i64) (.pair (.str) (.sl (.int .i64)))))) (.pair (.st (.pair (.int .i64) (.pair (.str) (.sl (.int .i64))))) (.sl (.st (.pair (.int .i64) (.pair (.str) (.sl (.int .i64))))))))) a
  have hl := bulk_len (e := .st (.pair (.sl (.st (.pair (.int .i64) (.pair (.str) (.sl (.int .i64)))))) (.pair (.st (.pair (.int .i64) (.pair (.str) (.sl (.int .i64))))) (.sl (.st (.pair (.int .i64) (.pair (.str) (.sl (.int .i64))))))))) a
  have hm : ∀ x, x ∈ a → Kd.bulk (.st (.pair (.sl (.st (.pair (.int .i64) (.pair (.str) (.sl (.int .i64)))))) (.pair (.st (.pair (.int .i64) (.pair (.str) (.sl (.int .i64))))) (.sl (.st (.pair (.int .i64) (.pair (.str) (.sl (.int .i64))))))))) x ≤ 2147483648 := fun x hx => by have := bulk_mem (e := .st (.pair (.sl (.st (.pair (.int .i64) (.pair (.str) (.sl (.int .i64)))))) (.pair (.st (.pair (.int .i64) (.pair (.str) (.sl (.int .i64))))) (.sl (.st (.pair (.int .i64) (.pair (.str) (.sl (.int .i64))))))))) hx; omega
  unfold laws_toRuleS.F
  rw [if_pos ⟨by omega, by omega, by unfold lim; omega⟩]
  exact to_RuleS_l hn a (by omega) hm a [] _ n rfl (by simp) (by unfold big at hn; omega)

theorem to_Prog {n : Nat} (hn : big ≤ n) (a : (List (ByteArray × List (ByteArray × List ByteArray))) × (List (ByteArray × (List ByteArray) × Int)) × List ((List (Int × ByteArray × List Int)) × (Int × ByteArray × List Int) × List (Int × ByteArray × List Int))) (hb : Kd.bulk (.st (.pair (.sl (.st (.pair (.str) (.sl (.st (.pair (.str) (.sl (.str)))))))) (.pair (.sl (.st (.pair (.str) (.pair (.sl (.str)) (.int .i64))))) (.sl (.st (.pair (.sl (.st (.pair (.int .i64) (.pair (.str) (.sl (.int .i64)))))) (.pair (.st (.pair (.int .i64) (.pair (.str) (.sl (.int .i64))))) (.sl (.st (.pair (.int .i64) (.pair (.str) (.sl (.int .i64))))))))))))) a ≤ 2147483648) : laws_toProg.F n a = some a := by
  unfold laws_toProg.F
  refine bind_eq (to_TypeDeclS hn _ (by simp only [Kd.bulk] at hb ⊢; omega)) ?_
  refine bind_eq (to_RelDeclS hn _ (by simp only [Kd.bulk] at hb ⊢; omega)) ?_
  refine bind_eq (to_RuleS hn _ (by simp only [Kd.bulk] at hb ⊢; omega)) ?_
  rfl

theorem eq_IntS_l {n : Nat} (hn : big ≤ n) (a : List Int) (hb : ∀ x, x ∈ a → Kd.bulk (.int .i64) x ≤ 2147483648) (hl : List.length a ≤ 2147483648) {K0 : Unit → Option Bool} : ∀ (d k : Nat) (i : Int), 0 ≤ i → (List.length a : Int) - i = d → d < k → laws_eqIntS.l0 n a a K0 k i = K0 () := by
  intro d
  induction d with
  | zero =>
    intro k i h0 h1 hk
    obtain ⟨k, rfl⟩ : ∃ m, k = m + 1 := ⟨k - 1, by omega⟩
    simp only [laws_eqIntS.l0, decide_eq_true_eq]
    rw [if_neg (by omega)]
  | succ d ih =>
    intro k i h0 h1 hk
    obtain ⟨k, rfl⟩ : ∃ m, k = m + 1 := ⟨k - 1, by omega⟩
    have hw : IntKind.i64.wrap (i + 1) = i + 1 := wrap64 _ (by omega) (by omega)
    have hx := hb _ (getD_mem' a i 0 h0 (by omega))
    simp only [laws_eqIntS.l0, decide_eq_true_eq, hw]
    rw [if_pos (by omega), if_pos ⟨h0, by omega⟩, if_pos ⟨h0, by omega⟩]
    simp only [Option.bind_some, decide_true, Bool.not_true, Bool.false_eq_true, if_false, seq_refl]
    exact ih _ _ (by omega) (by omega) (by omega)
theorem eq_IntS {n : Nat} (hn : big ≤ n) (a : List Int) (hb : Kd.bulk (.sl (.int .i64)) a ≤ 2147483648) : laws_eqIntS.F n a a = some true := by
  have hs := bulk_sl (e := .int .i64) a
  have hl := bulk_len (e := .int .i64) a
  have hm : ∀ x, x ∈ a → Kd.bulk (.int .i64) x ≤ 2147483648 := fun x hx => by have := bulk_mem (e := .int .i64) hx; omega
  unfold laws_eqIntS.F
  rw [if_neg (by simp)]
  exact eq_IntS_l hn a hm (by omega) (List.length a) n 0 (by omega) (by omega) (by unfold big at hn; omega)

theorem eq_StringS_l {n : Nat} (hn : big ≤ n) (a : List ByteArray) (hb : ∀ x, x ∈ a → Kd.bulk .str x ≤ 2147483648) (hl : List.length a ≤ 2147483648) {K0 : Unit → Option Bool} : ∀ (d k : Nat) (i : Int), 0 ≤ i → (List.length a : Int) - i = d → d < k → laws_eqStringS.l0 n a a K0 k i = K0 () := by
  intro d
  induction d with
  | zero =>
    intro k i h0 h1 hk
    obtain ⟨k, rfl⟩ : ∃ m, k = m + 1 := ⟨k - 1, by omega⟩
    simp only [laws_eqStringS.l0, decide_eq_true_eq]
    rw [if_neg (by omega)]
  | succ d ih =>
    intro k i h0 h1 hk
    obtain ⟨k, rfl⟩ : ∃ m, k = m + 1 := ⟨k - 1, by omega⟩
    have hw : IntKind.i64.wrap (i + 1) = i + 1 := wrap64 _ (by omega) (by omega)
    have hx := hb _ (getD_mem' a i ByteArray.empty h0 (by omega))
    simp only [laws_eqStringS.l0, decide_eq_true_eq, hw]
    rw [if_pos (by omega), if_pos ⟨h0, by omega⟩, if_pos ⟨h0, by omega⟩]
    simp only [Option.bind_some, decide_true, Bool.not_true, Bool.false_eq_true, if_false, seq_refl]
    exact ih _ _ (by omega) (by omega) (by omega)
theorem eq_StringS {n : Nat} (hn : big ≤ n) (a : List ByteArray) (hb : Kd.bulk (.sl (.str)) a ≤ 2147483648) : laws_eqStringS.F n a a = some true := by
  have hs := bulk_sl (e := .str) a
  have hl := bulk_len (e := .str) a
  have hm : ∀ x, x ∈ a → Kd.bulk .str x ≤ 2147483648 := fun x hx => by have := bulk_mem (e := .str) hx; omega
  unfold laws_eqStringS.F
  rw [if_neg (by simp)]
  exact eq_StringS_l hn a hm (by omega) (List.length a) n 0 (by omega) (by omega) (by unfold big at hn; omega)

theorem eq_Con {n : Nat} (hn : big ≤ n) (a : ByteArray × List ByteArray) (hb : Kd.bulk (.st (.pair (.str) (.sl (.str)))) a ≤ 2147483648) : laws_eqCon.F n a a = some true := by
  unfold laws_eqCon.F
  rw [if_neg (by simp [seq_refl])]
  refine bind_eq (eq_StringS hn _ (by simp only [Kd.bulk] at hb ⊢; omega)) ?_
  try dsimp only
  rw [if_neg (by simp [seq_refl])]
  all_goals rfl

theorem eq_ConS_l {n : Nat} (hn : big ≤ n) (a : List (ByteArray × List ByteArray)) (hb : ∀ x, x ∈ a → Kd.bulk (.st (.pair (.str) (.sl (.str)))) x ≤ 2147483648) (hl : List.length a ≤ 2147483648) {K0 : Unit → Option Bool} : ∀ (d k : Nat) (i : Int), 0 ≤ i → (List.length a : Int) - i = d → d < k → laws_eqConS.l0 n a a K0 k i = K0 () := by
  intro d
  induction d with
  | zero =>
    intro k i h0 h1 hk
    obtain ⟨k, rfl⟩ : ∃ m, k = m + 1 := ⟨k - 1, by omega⟩
    simp only [laws_eqConS.l0, decide_eq_true_eq]
    rw [if_neg (by omega)]
  | succ d ih =>
    intro k i h0 h1 hk
    obtain ⟨k, rfl⟩ : ∃ m, k = m + 1 := ⟨k - 1, by omega⟩
    have hw : IntKind.i64.wrap (i + 1) = i + 1 := wrap64 _ (by omega) (by omega)
    have hx := hb _ (getD_mem' a i (ByteArray.empty, []) h0 (by omega))
    simp only [laws_eqConS.l0, decide_eq_true_eq, hw]
    rw [if_pos (by omega), if_pos ⟨h0, by omega⟩, if_pos ⟨h0, by omega⟩]
    simp only [eq_Con hn _ hx, Option.bind_some, decide_true, Bool.not_true, Bool.false_eq_true, if_false, seq_refl]
    exact ih _ _ (by omega) (by omega) (by omega)
theorem eq_ConS {n : Nat} (hn : big ≤ n) (a : List (ByteArray × List ByteArray)) (hb : Kd.bulk (.sl (.st (.pair (.str) (.sl (.str))))) a ≤ 2147483648) : laws_eqConS.F n a a = some true := by
  have hs := bulk_sl (e := .st (.pair (.str) (.sl (.str)))) a
  have hl := bulk_len (e := .st (.pair (.str) (.sl (.str)))) a
  have hm : ∀ x, x ∈ a → Kd.bulk (.st (.pair (.str) (.sl (.str)))) x ≤ 2147483648 := fun x hx => by have := bulk_mem (e := .st (.pair (.str) (.sl (.str)))) hx; omega
  unfold laws_eqConS.F
  rw [if_neg (by simp)]
  exact eq_ConS_l hn a hm (by omega) (List.length a) n 0 (by omega) (by omega) (by unfold big at hn; omega)

theorem eq_TypeDecl {n : Nat} (hn : big ≤ n) (a : ByteArray × List (ByteArray × List ByteArray)) (hb : Kd.bulk (.st (.pair (.str) (.sl (.st (.pair (.str) (.sl (.str))))))) a ≤ 2147483648) : laws_eqTypeDecl.F n a a = some true := by
  unfold laws_eqTypeDecl.F
  rw [if_neg (by simp [seq_refl])]
  refine bind_eq (eq_ConS hn _ (by simp only [Kd.bulk] at hb ⊢; omega)) ?_
  try dsimp only
  rw [if_neg (by simp [seq_refl])]
  all_goals rfl

theorem eq_TypeDeclS_l {n : Nat} (hn : big ≤ n) (a : List (ByteArray × List (ByteArray × List ByteArray))) (hb : ∀ x, x ∈ a → Kd.bulk (.st (.pair (.str) (.sl (.st (.pair (.str) (.sl (.str))))))) x ≤ 2147483648) (hl : List.length a ≤ 2147483648) {K0 : Unit → Option Bool} : ∀ (d k : Nat) (i : Int), 0 ≤ i → (List.length a : Int) - i = d → d < k → laws_eqTypeDeclS.l0 n a a K0 k i = K0 () := by
  intro d
  induction d with
  | zero =>
    intro k i h0 h1 hk
    obtain ⟨k, rfl⟩ : ∃ m, k = m + 1 := ⟨k - 1, by omega⟩
    simp only [laws_eqTypeDeclS.l0, decide_eq_true_eq]
    rw [if_neg (by omega)]
  | succ d ih =>
    intro k i h0 h1 hk
    obtain ⟨k, rfl⟩ : ∃ m, k = m + 1 := ⟨k - 1, by omega⟩
    have hw : IntKind.i64.wrap (i + 1) = i + 1 := wrap64 _ (by omega) (by omega)
    have hx := hb _ (getD_mem' a i (ByteArray.empty, []) h0 (by omega))
    simp only [laws_eqTypeDeclS.l0, decide_eq_true_eq, hw]
    rw [if_pos (by omega), if_pos ⟨h0, by omega⟩, if_pos ⟨h0, by omega⟩]
    simp only [eq_TypeDecl hn _ hx, Option.bind_some, decide_true, Bool.not_true, Bool.false_eq_true, if_false, seq_refl]
    exact ih _ _ (by omega) (by omega) (by omega)
theorem eq_TypeDeclS {n : Nat} (hn : big ≤ n) (a : List (ByteArray × List (ByteArray × List ByteArray))) (hb : Kd.bulk (.sl (.st (.pair (.str) (.sl (.st (.pair (.str) (.sl (.str)))))))) a ≤ 2147483648) : laws_eqTypeDeclS.F n a a = some true := by
  have hs := bulk_sl (e := .st (.pair (.str) (.sl (.st (.pair (.str) (.sl (.str))))))) a
  have hl := bulk_len (e := .st (.pair (.str) (.sl (.st (.pair (.str) (.sl (.str))))))) a
  have hm : ∀ x, x ∈ a → Kd.bulk (.st (.pair (.str) (.sl (.st (.pair (.str) (.sl (.str))))))) x ≤ 2147483648 := fun x hx => by have := bulk_mem (e := .st (.pair (.str) (.sl (.st (.pair (.str) (.sl (.str))))))) hx; omega
  unfold laws_eqTypeDeclS.F
  rw [if_neg (by simp)]
  exact eq_TypeDeclS_l hn a hm (by omega) (List.length a) n 0 (by omega) (by omega) (by unfold big at hn; omega)

theorem eq_RelDecl {n : Nat} (hn : big ≤ n) (a : ByteArray × (List ByteArray) × Int) (hb : Kd.bulk (.st (.pair (.str) (.pair (.sl (.str)) (.int .i64)))) a ≤ 2147483648) : laws_eqRelDecl.F n a a = some true := by
  unfold laws_eqRelDecl.F
  rw [if_neg (by simp [seq_refl])]
  refine bind_eq (eq_StringS hn _ (by simp only [Kd.bulk] at hb ⊢; omega)) ?_
  try dsimp only
  rw [if_neg (by simp [seq_refl])]
  rw [if_neg (by simp [seq_refl])]
  all_goals rfl

theorem eq_RelDeclS_l {n : Nat} (hn : big ≤ n) (a : List (ByteArray × (List ByteArray) × Int)) (hb : ∀ x, x ∈ a → Kd.bulk (.st (.pair (.str) (.pair (.sl (.str)) (.int .i64)))) x ≤ 2147483648) (hl : List.length a ≤ 2147483648) {K0 : Unit → Option Bool} : ∀ (d k : Nat) (i : Int), 0 ≤ i → (List.length a : Int) - i = d → d < k → laws_eqRelDeclS.l0 n a a K0 k i = K0 () := by
  intro d
  induction d with
  | zero =>
    intro k i h0 h1 hk
    obtain ⟨k, rfl⟩ : ∃ m, k = m + 1 := ⟨k - 1, by omega⟩
    simp only [laws_eqRelDeclS.l0, decide_eq_true_eq]
    rw [if_neg (by omega)]
  | succ d ih =>
    intro k i h0 h1 hk
    obtain ⟨k, rfl⟩ : ∃ m, k = m + 1 := ⟨k - 1, by omega⟩
    have hw : IntKind.i64.wrap (i + 1) = i + 1 := wrap64 _ (by omega) (by omega)
    have hx := hb _ (getD_mem' a i (ByteArray.empty, ([], 0)) h0 (by omega))
    simp only [laws_eqRelDeclS.l0, decide_eq_true_eq, hw]
    rw [if_pos (by omega), if_pos ⟨h0, by omega⟩, if_pos ⟨h0, by omega⟩]
    simp only [eq_RelDecl hn _ hx, Option.bind_some, decide_true, Bool.not_true, Bool.false_eq_true, if_false, seq_refl]
    exact ih _ _ (by omega) (by omega) (by omega)
theorem eq_RelDeclS {n : Nat} (hn : big ≤ n) (a : List (ByteArray × (List ByteArray) × Int)) (hb : Kd.bulk (.sl (.st (.pair (.str) (.pair (.sl (.str)) (.int .i64))))) a ≤ 2147483648) : laws_eqRelDeclS.F n a a = some true := by
  have hs := bulk_sl (e := .st (.pair (.str) (.pair (.sl (.str)) (.int .i64)))) a
  have hl := bulk_len (e := .st (.pair (.str) (.pair (.sl (.str)) (.int .i64)))) a
  have hm : ∀ x, x ∈ a → Kd.bulk (.st (.pair (.str) (.pair (.sl (.str)) (.int .i64)))) x ≤ 2147483648 := fun x hx => by have := bulk_mem (e := .st (.pair (.str) (.pair (.sl (.str)) (.int .i64)))) hx; omega
  unfold laws_eqRelDeclS.F
  rw [if_neg (by simp)]
  exact eq_RelDeclS_l hn a hm (by omega) (List.length a) n 0 (by omega) (by omega) (by unfold big at hn; omega)

theorem eq_Exp {n : Nat} (hn : big ≤ n) (a : Int × ByteArray × List Int) (hb : Kd.bulk (.st (.pair (.int .i64) (.pair (.str) (.sl (.int .i64))))) a ≤ 2147483648) : laws_eqExp.F n a a = some true := by
  unfold laws_eqExp.F
  rw [if_neg (by simp [seq_refl])]
  rw [if_neg (by simp [seq_refl])]
  refine bind_eq (eq_IntS hn _ (by simp only [Kd.bulk] at hb ⊢; omega)) ?_
  try dsimp only
  rw [if_neg (by simp [seq_refl])]
  all_goals rfl

theorem eq_ExpS_l {n : Nat} (hn : big ≤ n) (a : List (Int × ByteArray × List Int)) (hb : ∀ x, x ∈ a → Kd.bulk (.st (.pair (.int .i64) (.pair (.str) (.sl (.int .i64))))) x ≤ 2147483648) (hl : List.length a ≤ 2147483648) {K0 : Unit → Option Bool} : ∀ (d k : Nat) (i : Int), 0 ≤ i → (List.length a : Int) - i = d → d < k → laws_eqExpS.l0 n a a K0 k i = K0 () := by
  intro d
  induction d with
  | zero =>
    intro k i h0 h1 hk
    obtain ⟨k, rfl⟩ : ∃ m, k = m + 1 := ⟨k - 1, by omega⟩
    simp only [laws_eqExpS.l0, decide_eq_true_eq]
    rw [if_neg (by omega)]
  | succ d ih =>
    intro k i h0 h1 hk
    obtain ⟨k, rfl⟩ : ∃ m, k = m + 1 := ⟨k - 1, by omega⟩
    have hw : IntKind.i64.wrap (i + 1) = i + 1 := wrap64 _ (by omega) (by omega)
    have hx := hb _ (getD_mem' a i (0, (ByteArray.empty, [])) h0 (by omega))
    simp only [laws_eqExpS.l0, decide_eq_true_eq, hw]
    rw [if_pos (by omega), if_pos ⟨h0, by omega⟩, if_pos ⟨h0, by omega⟩]
    simp only [eq_Exp hn _ hx, Option.bind_some, decide_true, Bool.not_true, Bool.false_eq_true, if_false, seq_refl]
    exact ih _ _ (by omega) (by omega) (by omega)
theorem eq_ExpS {n : Nat} (hn : big ≤ n) (a : List (Int × ByteArray × List Int)) (hb : Kd.bulk (.sl (.st (.pair (.int .i64) (.pair (.str) (.sl (.int .i64)))))) a ≤ 2147483648) : laws_eqExpS.F n a a = some true := by
  have hs := bulk_sl (e := .st (.pair (.int .i64) (.pair (.str) (.sl (.int .i64))))) a
  have hl := bulk_len (e := .st (.pair (.int .i64) (.pair (.str) (.sl (.int .i64))))) a
  have hm : ∀ x, x ∈ a → Kd.bulk (.st (.pair (.int .i64) (.pair (.str) (.sl (.int .i64))))) x ≤ 2147483648 := fun x hx => by have := bulk_mem (e := .st (.pair (.int .i64) (.pair (.str) (.sl (.int .i64))))) hx; omega
  unfold laws_eqExpS.F
  rw [if_neg (by simp)]
  exact eq_ExpS_l hn a hm (by omega) (List.length a) n 0 (by omega) (by omega) (by unfold big at hn; omega)

theorem eq_Lit {n : Nat} (hn : big ≤ n) (a : Int × ByteArray × List Int) (hb : Kd.bulk (.st (.pair (.int .i64) (.pair (.str) (.sl (.int .i64))))) a ≤ 2147483648) : laws_eqLit.F n a a = some true := by
  unfold laws_eqLit.F
  rw [if_neg (by simp [seq_refl])]
  rw [if_neg (by simp [seq_refl])]
  refine bind_eq (eq_IntS hn _ (by simp only [Kd.bulk] at hb ⊢; omega)) ?_
  try dsimp only
  rw [if_neg (by simp [seq_refl])]
  all_goals rfl

theorem eq_LitS_l {n : Nat} (hn : big ≤ n) (a : List (Int × ByteArray × List Int)) (hb : ∀ x, x ∈ a → Kd.bulk (.st (.pair (.int .i64) (.pair (.str) (.sl (.int .i64))))) x ≤ 2147483648) (hl : List.length a ≤ 2147483648) {K0 : Unit → Option Bool} : ∀ (d k : Nat) (i : Int), 0 ≤ i → (List.length a : Int) - i = d → d < k → laws_eqLitS.l0 n a a K0 k i = K0 () := by
  intro d
  induction d with
  | zero =>
    intro k i h0 h1 hk
    obtain ⟨k, rfl⟩ : ∃ m, k = m + 1 := ⟨k - 1, by omega⟩
    simp only [laws_eqLitS.l0, decide_eq_true_eq]
    rw [if_neg (by omega)]
  | succ d ih =>
    intro k i h0 h1 hk
    obtain ⟨k, rfl⟩ : ∃ m, k = m + 1 := ⟨k - 1, by omega⟩
    have hw : IntKind.i64.wrap (i + 1) = i + 1 := wrap64 _ (by omega) (by omega)
    have hx := hb _ (getD_mem' a i (0, (ByteArray.empty, [])) h0 (by omega))
    simp only [laws_eqLitS.l0, decide_eq_true_eq, hw]
    rw [if_pos (by omega), if_pos ⟨h0, by omega⟩, if_pos ⟨h0, by omega⟩]
    simp only [eq_Lit hn _ hx, Option.bind_some, decide_true, Bool.not_true, Bool.false_eq_true, if_false, seq_refl]
    exact ih _ _ (by omega) (by omega) (by omega)
theorem eq_LitS {n : Nat} (hn : big ≤ n) (a : List (Int × ByteArray × List Int)) (hb : Kd.bulk (.sl (.st (.pair (.int .i64) (.pair (.str) (.sl (.int .i64)))))) a ≤ 2147483648) : laws_eqLitS.F n a a = some true := by
  have hs := bulk_sl (e := .st (.pair (.int .i64) (.pair (.str) (.sl (.int .i64))))) a
  have hl := bulk_len (e := .st (.pair (.int .i64) (.pair (.str) (.sl (.int .i64))))) a
  have hm : ∀ x, x ∈ a → Kd.bulk (.st (.pair (.int .i64) (.pair (.str) (.sl (.int .i64))))) x ≤ 2147483648 := fun x hx => by have := bulk_mem (e := .st (.pair (.int .i64) (.pair (.str) (.sl (.int .i64))))) hx; omega
  unfold laws_eqLitS.F
  rw [if_neg (by simp)]
  exact eq_LitS_l hn a hm (by omega) (List.length a) n 0 (by omega) (by omega) (by unfold big at hn; omega)

theorem eq_Rule {n : Nat} (hn : big ≤ n) (a : (List (Int × ByteArray × List Int)) × (Int × ByteArray × List Int) × List (Int × ByteArray × List Int)) (hb : Kd.bulk (.st (.pair (.sl (.st (.pair (.int .i64) (.pair (.str) (.sl (.int .i64)))))) (.pair (.st (.pair (.int .i64) (.pair (.str) (.sl (.int .i64))))) (.sl (.st (.pair (.int .i64) (.pair (.str) (.sl (.int .i64))))))))) a ≤ 2147483648) : laws_eqRule.F n a a = some true := by
  unfold laws_eqRule.F
  refine bind_eq (eq_ExpS hn _ (by simp only [Kd.bulk] at hb ⊢; omega)) ?_
  try dsimp only
  rw [if_neg (by simp [seq_refl])]
  refine bind_eq (eq_Lit hn _ (by simp only [Kd.bulk] at hb ⊢; omega)) ?_
  try dsimp only
  rw [if_neg (by simp [seq_refl])]
  refine bind_eq (eq_LitS hn _ (by simp only [Kd.bulk] at hb ⊢; omega)) ?_
  try dsimp only
  rw [if_neg (by simp [seq_refl])]
  all_goals rfl

theorem eq_RuleS_l {n : Nat} (hn : big ≤ n) (a : List ((List (Int × ByteArray × List Int)) × (Int × ByteArray × List Int) × List (Int × ByteArray × List Int))) (hb : ∀ x, x ∈ a → Kd.bulk (.st (.pair (.sl (.st (.pair (.int .i64) (.pair (.str) (.sl (.int .i64)))))) (.pair (.st (.pair (.int .i64) (.pair (.str) (.sl (.int .i64))))) (.sl (.st (.pair (.int .i64) (.pair (.str) (.sl (.int .i64))))))))) x ≤ 2147483648) (hl : List.length a ≤ 2147483648) {K0 : Unit → Option Bool} : ∀ (d k : Nat) (i : Int), 0 ≤ i → (List.length a : Int) - i = d → d < k → laws_eqRuleS.l0 n a a K0 k i = K0 () := by
  intro d
  induction d with
  | zero =>
    intro k i h0 h1 hk
    obtain ⟨k, rfl⟩ : ∃ m, k = m + 1 := ⟨k - 1, by omega⟩
    simp only [laws_eqRuleS.l0, decide_eq_true_eq]
    rw [if_neg (by omega)]
  | succ d ih =>
    intro k i h0 h1 hk
    obtain ⟨k, rfl⟩ : ∃ m, k = m + 1 := ⟨k - 1, by omega⟩
    have hw : IntKind.i64.wrap (i + 1) = i + 1 := wrap64 _ (by omega) (by omega)
    have hx := hb _ (getD_mem' a i ([], ((0, (ByteArray.empty, [])), [])) h0 (by omega))
    simp only [laws_eqRuleS.l0, decide_eq_true_eq, hw]
    rw [if_pos (by omega), if_pos ⟨h0, by omega⟩, if_pos ⟨h0, by omega⟩]
    simp only [eq_Rule hn _ hx, Option.bind_some, decide_true, Bool.not_true, Bool.false_eq_true, if_false, seq_refl]
    exact ih _ _ (by omega) (by omega) (by omega)
theorem eq_RuleS {n : Nat} (hn : big ≤ n) (a : List ((List (Int × ByteArray × List Int)) × (Int × ByteArray × List Int) × List (Int × ByteArray × List Int))) (hb : Kd.bulk (.sl (.st (.pair (.sl (.st (.pair (.int .i64) (.pair (.str) (.sl (.int .i64)))))) (.pair (.st (.pair (.int .i64) (.pair (.str) (.sl (.int .i64))))) (.sl (.st (.pair (.int .i64) (.pair (.str) (.sl (.int .i64)))))))))) a ≤ 2147483648) : laws_eqRuleS.F n a a = some true := by
  have hs := bulk_sl (e := .st (.pair (.sl (.st (.pair (.int .i64) (.pair (.str) (.sl (.int .i64)))))) (.pair (.st (.pair (.int .i64) (.pair (.str) (.sl (.int .i64))))) (.sl (.st (.pair (.int .i64) (.pair (.str) (.sl (.int .i64))))))))) a
  have hl := bulk_len (e := .st (.pair (.sl (.st (.pair (.int .i64) (.pair (.str) (.sl (.int .i64)))))) (.pair (.st (.pair (.int .i64) (.pair (.str) (.sl (.int .i64))))) (.sl (.st (.pair (.int .i64) (.pair (.str) (.sl (.int .i64))))))))) a
  have hm : ∀ x, x ∈ a → Kd.bulk (.st (.pair (.sl (.st (.pair (.int .i64) (.pair (.str) (.sl (.int .i64)))))) (.pair (.st (.pair (.int .i64) (.pair (.str) (.sl (.int .i64))))) (.sl (.st (.pair (.int .i64) (.pair (.str) (.sl (.int .i64))))))))) x ≤ 2147483648 := fun x hx => by have := bulk_mem (e := .st (.pair (.sl (.st (.pair (.int .i64) (.pair (.str) (.sl (.int .i64)))))) (.pair (.st (.pair (.int .i64) (.pair (.str) (.sl (.int .i64))))) (.sl (.st (.pair (.int .i64) (.pair (.str) (.sl (.int .i64))))))))) hx; omega
  unfold laws_eqRuleS.F
  rw [if_neg (by simp)]
  exact eq_RuleS_l hn a hm (by omega) (List.length a) n 0 (by omega) (by omega) (by unfold big at hn; omega)

theorem eq_Prog {n : Nat} (hn : big ≤ n) (a : (List (ByteArray × List (ByteArray × List ByteArray))) × (List (ByteArray × (List ByteArray) × Int)) × List ((List (Int × ByteArray × List Int)) × (Int × ByteArray × List Int) × List (Int × ByteArray × List Int))) (hb : Kd.bulk (.st (.pair (.sl (.st (.pair (.str) (.sl (.st (.pair (.str) (.sl (.str)))))))) (.pair (.sl (.st (.pair (.str) (.pair (.sl (.str)) (.int .i64))))) (.sl (.st (.pair (.sl (.st (.pair (.int .i64) (.pair (.str) (.sl (.int .i64)))))) (.pair (.st (.pair (.int .i64) (.pair (.str) (.sl (.int .i64))))) (.sl (.st (.pair (.int .i64) (.pair (.str) (.sl (.int .i64))))))))))))) a ≤ 2147483648) : laws_eqProg.F n a a = some true := by
  unfold laws_eqProg.F
  refine bind_eq (eq_TypeDeclS hn _ (by simp only [Kd.bulk] at hb ⊢; omega)) ?_
  try dsimp only
  rw [if_neg (by simp [seq_refl])]
  refine bind_eq (eq_RelDeclS hn _ (by simp only [Kd.bulk] at hb ⊢; omega)) ?_
  try dsimp only
  rw [if_neg (by simp [seq_refl])]
  refine bind_eq (eq_RuleS hn _ (by simp only [Kd.bulk] at hb ⊢; omega)) ?_
  try dsimp only
  rw [if_neg (by simp [seq_refl])]
  all_goals rfl

/-- the text of a mark -/
def mtx (n : Nat) (k : Int) : ByteArray := (laws_markText.F n k).getD ByteArray.empty

theorem bstr1 (x : Int) : ByteArray.size (bstr [x]) = 1 := rfl

theorem mark_Text_l {n : Nat} {K0 : ByteArray → Option ByteArray} (hK : ∀ x : ByteArray, x.size ≤ 64 → ∃ r, K0 x = some r) : ∀ (d k : Nat) (z : Int) (out : ByteArray), z < 10 ^ d → z ≤ 4294967296 → d < k → out.size + d ≤ 40 → ∃ r, laws_markText.l0 n K0 k z out = some r := by
  intro d
  induction d with
  | zero =>
    intro k z out hz hz2 hk ho
    obtain ⟨k, rfl⟩ : ∃ m, k = m + 1 := ⟨k - 1, by omega⟩
    simp only [laws_markText.l0, decide_eq_true_eq]
    rw [if_neg (by simp at hz; omega)]
    exact hK _ (by omega)
  | succ d ih =>
    intro k z out hz hz2 hk ho
    obtain ⟨k, rfl⟩ : ∃ m, k = m + 1 := ⟨k - 1, by omega⟩
    simp only [laws_markText.l0, decide_eq_true_eq]
    split
    · rename_i hp
      have hlt : z / 10 < 10 ^ d := by rw [Int.pow_succ] at hz; omega
      have e1 : Int.tdiv z 10 = z / 10 := Int.tdiv_eq_ediv_of_nonneg (by omega)
      rw [if_pos (by rw [bstr1]; unfold lim; omega), e1, wrap64 _ (by omega) (by omega)]
      exact ih k _ _ hlt (by omega) (by omega) (by rw [ByteArray.size_append, bstr1]; omega)
    · exact hK _ (by omega)

theorem mtx_eq {n : Nat} (hn : big ≤ n) (k : Int) (hk : k ≤ 4294967296) : laws_markText.F n k = some (mtx n k) := by
  have : ∃ r, laws_markText.F n k = some r := by
    unfold laws_markText.F
    split
    · exact ⟨_, rfl⟩
    · exact mark_Text_l (fun x hx => by rw [if_pos (by show 1 + x.size ≤ lim; unfold lim; omega)]; exact ⟨_, rfl⟩) 10 n k _ (by omega) (by omega) (by unfold big at hn; omega) (by show 0 + 10 ≤ 40; omega)
  obtain ⟨r, hr⟩ := this
  rw [mtx, hr]; rfl

theorem mk_StringS_l {n : Nat} (hn : big ≤ n) {K0 : Int → (List ByteArray) → Option (Int × (List ByteArray))} : ∀ (post pre : List ByteArray) (f : Nat) (k : Int), post.length < f → pre.length + post.length ≤ 2147483648 → (List.map (Kd.bulk .str) post).sum ≤ 2147483648 → 0 < k → k + ((List.map (Kd.bulk .str) post).sum : Int) ≤ 4294967296 →
    ∃ k1 out, laws_markStringS.l0 n K0 f k (pre.length : Int) (pre ++ post) = K0 k1 (pre ++ out) ∧ k ≤ k1 ∧ k1 ≤ k + ((List.map (Kd.bulk .str) post).sum : Int) ∧ out.length = post.length := by
  intro post
  induction post with
  | nil =>
    intro pre f k hf hl hs h0 hk
    obtain ⟨f, rfl⟩ : ∃ m, f = m + 1 := ⟨f - 1, by omega⟩
    refine ⟨k, [], ?_, by omega, by simp, rfl⟩
    · simp only [laws_markStringS.l0, decide_eq_true_eq, end_lt, if_false]
  | cons x post ih =>
    intro pre f k hf hl hs h0 hk
    simp only [List.length_cons] at hf hl
    simp only [List.map_cons, List.sum_cons, Int.natCast_add] at hs hk ⊢
    obtain ⟨f, rfl⟩ : ∃ m, f = m + 1 := ⟨f - 1, by omega⟩
    have hw : IntKind.i64.wrap ((pre.length : Int) + 1) = (pre.length : Int) + 1 := wrap64 _ (by omega) (by omega)
    have hB : Kd.bulk .str x = (ByteArray.size x + 1) := rfl
    have hm1 := mtx_eq hn k (by omega)
    have hwk1 : IntKind.i64.wrap (k + 1) = k + 1 := wrap64 _ (by omega) (by omega)
    obtain ⟨k1, out, i1, i2, i3, i4⟩ := ih (pre ++ [((mtx n k) : ByteArray)]) f (k + 1) (by omega) (by simp; omega) (by omega) (by omega) (by omega)
    rw [List.length_append, List.length_singleton] at i1
    refine ⟨k1, ((mtx n k) : ByteArray) :: out, ?_, by omega, by omega, by simp [i4]⟩
    · simp only [laws_markStringS.l0, decide_eq_true_eq, mid_lt, mid_in, if_true, Int.toNat_natCast, getD_mid, set_mid, hw, hm1, hwk1, Option.bind_some]
      simpa using i1
theorem mk_StringS {n : Nat} (hn : big ≤ n) (a : List ByteArray) (hb : Kd.bulk (.sl (.str)) a ≤ 2147483648) (k : Int) (h0 : 0 < k) (hk : k + (Kd.bulk (.sl (.str)) a : Int) ≤ 4294967296) :
    ∃ k1 out, laws_markStringS.F n a k = some (k1, out) ∧ k ≤ k1 ∧ k1 ≤ k + (Kd.bulk (.sl (.str)) a : Int) := by
  have hl0 := bulk_len (e := .str) a
  have hl1 := bulk_sl (e := .str) a
  obtain ⟨k1, out, i1, i2, i3, i4⟩ := mk_StringS_l hn (K0 := fun k a => some (k, a)) a [] n k (by unfold big at hn; omega) (by simp; omega) (by omega) h0 (by omega)
  exact ⟨k1, out, i1, i2, by omega⟩

theorem mk_ConS_l {n : Nat} (hn : big ≤ n) {K0 : Int → (List (ByteArray × List ByteArray)) → Option (Int × (List (ByteArray × List ByteArray)))} : ∀ (post pre : List (ByteArray × List ByteArray)) (f : Nat) (k : Int), post.length < f → pre.length + post.length ≤ 2147483648 → (List.map (Kd.bulk (.st (.pair (.str) (.sl (.str))))) post).sum ≤ 2147483648 → 0 < k → k + ((List.map (Kd.bulk (.st (.pair (.str) (.sl (.str))))) post).sum : Int) ≤ 4294967296 →
    ∃ k1 out, laws_markConS.l0 n K0 f k (pre.length : Int) (pre ++ post) = K0 k1 (pre ++ out) ∧ k ≤ k1 ∧ k1 ≤ k + ((List.map (Kd.bulk (.st (.pair (.str) (.sl (.str))))) post).sum : Int) ∧ out.length = post.length := by
  intro post
  induction post with
  | nil =>
    intro pre f k hf hl hs h0 hk
    obtain ⟨f, rfl⟩ : ∃ m, f = m + 1 := ⟨f - 1, by omega⟩
    refine ⟨k, [], ?_, by omega, by simp, rfl⟩
    · simp only [laws_markConS.l0, decide_eq_true_eq, end_lt, if_false]
  | cons x post ih =>
    intro pre f k hf hl hs h0 hk
    simp only [List.length_cons] at hf hl
    simp only [List.map_cons, List.sum_cons, Int.natCast_add] at hs hk ⊢
    obtain ⟨f, rfl⟩ : ∃ m, f = m + 1 := ⟨f - 1, by omega⟩
    have hw : IntKind.i64.wrap ((pre.length : Int) + 1) = (pre.length : Int) + 1 := wrap64 _ (by omega) (by omega)
    have hB : Kd.bulk (.st (.pair (.str) (.sl (.str)))) x = ((ByteArray.size x.1 + 1) + Kd.bulk (.sl (.str)) x.2) := rfl
    have hm1 := mtx_eq hn k (by omega)
    have hwk1 : IntKind.i64.wrap (k + 1) = k + 1 := wrap64 _ (by omega) (by omega)
    obtain ⟨q2, y2, a2, b2, c2⟩ := mk_StringS hn x.2 (by omega) (k + 1) (by omega) (by omega)
    obtain ⟨k1, out, i1, i2, i3, i4⟩ := ih (pre ++ [(((mtx n k, y2)) : ByteArray × List ByteArray)]) f q2 (by omega) (by simp; omega) (by omega) (by omega) (by omega)
    rw [List.length_append, List.length_singleton] at i1
    refine ⟨k1, (((mtx n k, y2)) : ByteArray × List ByteArray) :: out, ?_, by omega, by omega, by simp [i4]⟩
    · simp only [laws_markConS.l0, decide_eq_true_eq, mid_lt, mid_in, if_true, Int.toNat_natCast, getD_mid, set_mid, hw, hm1, hwk1, Option.bind_some, a2]
      simpa using i1
theorem mk_ConS {n : Nat} (hn : big ≤ n) (a : List (ByteArray × List ByteArray)) (hb : Kd.bulk (.sl (.st (.pair (.str) (.sl (.str))))) a ≤ 2147483648) (k : Int) (h0 : 0 < k) (hk : k + (Kd.bulk (.sl (.st (.pair (.str) (.sl (.str))))) a : Int) ≤ 4294967296) :
    ∃ k1 out, laws_markConS.F n a k = some (k1, out) ∧ k ≤ k1 ∧ k1 ≤ k + (Kd.bulk (.sl (.st (.pair (.str) (.sl (.str))))) a : Int) := by
  have hl0 := bulk_len (e := .st (.pair (.str) (.sl (.str)))) a
  have hl1 := bulk_sl (e := .st (.pair (.str) (.sl (.str)))) a
  obtain ⟨k1, out, i1, i2, i3, i4⟩ := mk_ConS_l hn (K0 := fun k a => some (k, a)) a [] n k (by unfold big at hn; omega) (by simp; omega) (by omega) h0 (by omega)
  exact ⟨k1, out, i1, i2, by omega⟩

theorem mk_TypeDeclS_l {n : Nat} (hn : big ≤ n) {K0 : Int → (List (ByteArray × List (ByteArray × List ByteArray))) → Option (Int × (List (ByteArray × List (ByteArray × List ByteArray))))} : ∀ (post pre : List (ByteArray × List (ByteArray × List ByteArray))) (f : Nat) (k : Int), post.length < f → pre.length + post.length ≤ 2147483648 → (List.map (Kd.bulk (.st (.pair (.str) (.sl (.st (.pair (.str) (.sl (.str)))))))) post).sum ≤ 2147483648 → 0 < k → k + ((List.map (Kd.bulk (.st (.pair (.str) (.sl (.st (.pair (.str) (.sl (.str)))))))) post).sum : Int) ≤ 4294967296 →
    ∃ k1 out, laws_markTypeDeclS.l0 n K0 f k (pre.length : Int) (pre ++ post) = K0 k1 (pre ++ out) ∧ k ≤ k1 ∧ k1 ≤ k + ((List.map (Kd.bulk (.st (.pair (.str) (.sl (.st (.pair (.str) (.sl (.str)))))))) post).sum : Int) ∧ out.length = post.length := by
  intro post
  induction post with
  | nil =>
    intro pre f k hf hl hs h0 hk
    obtain ⟨f, rfl⟩ : ∃ m, f = m + 1 := ⟨f - 1, by omega⟩
    refine ⟨k, [], ?_, by omega, by simp, rfl⟩
    · simp only [laws_markTypeDeclS.l0, decide_eq_true_eq, end_lt, if_false]
  | cons x post ih =>
    intro pre f k hf hl hs h0 hk
    simp only [List.length_cons] at hf hl
    simp only [List.map_cons, List.sum_cons, Int.natCast_add] at hs hk ⊢
    obtain ⟨f, rfl⟩ : ∃ m, f = m + 1 := ⟨f - 1, by omega⟩
    have hw : IntKind.i64.wrap ((pre.length : Int) + 1) = (pre.length : Int) + 1 := wrap64 _ (by omega) (by omega)
    have hB : Kd.bulk (.st (.pair (.str) (.sl (.st (.pair (.str) (.sl (.str))))))) x = ((ByteArray.size x.1 + 1) + Kd.bulk (.sl (.st (.pair (.str) (.sl (.str))))) x.2) := rfl
    have hm1 := mtx_eq hn k (by omega)
    have hwk1 : IntKind.i64.wrap (k + 1) = k + 1 := wrap64 _ (by omega) (by omega)
    obtain ⟨q2, y2, a2, b2, c2⟩ := mk_ConS hn x.2 (by omega) (k + 1) (by omega) (by omega)
    obtain ⟨k1, out, i1, i2, i3, i4⟩ := ih (pre ++ [(((mtx n k, y2)) : ByteArray × List (ByteArray × List ByteArray))]) f q2 (by omega) (by simp; omega) (by omega) (by omega) (by omega)
    rw [List.length_append, List.length_singleton] at i1
    refine ⟨k1, (((mtx n k, y2)) : ByteArray × List (ByteArray × List ByteArray)) :: out, ?_, by omega, by omega, by simp [i4]⟩
    · simp only [laws_markTypeDeclS.l0, decide_eq_true_eq, mid_lt, mid_in, if_true, Int.toNat_natCast, getD_mid, set_mid, hw, hm1, hwk1, Option.bind_some, a2]
      simpa using i1
theorem mk_TypeDeclS {n : Nat} (hn : big ≤ n) (a : List (ByteArray × List (ByteArray × List ByteArray))) (hb : Kd.bulk (.sl (.st (.pair (.str) (.sl (.st (.pair (.str) (.sl (.str)))))))) a ≤ 2147483648) (k : Int) (h0 : 0 < k) (hk : k + (Kd.bulk (.sl (.st (.pair (.str) (.sl (.st (.pair (.str) (.sl (.str)))))))) a : Int) ≤ 4294967296) :
    ∃ k1 out, laws_markTypeDeclS.F n a k = some (k1, out) ∧ k ≤ k1 ∧ k1 ≤ k + (Kd.bulk (.sl (.st (.pair (.str) (.sl (.st (.pair (.str) (.sl (.str)))))))) a : Int) := by
  have hl0 := bulk_len (e := .st (.pair (.str) (.sl (.st (.pair (.str) (.sl (.str))))))) a
  have hl1 := bulk_sl (e := .st (.pair (.str) (.sl (.st (.pair (.str) (.sl (.str))))))) a
  obtain ⟨k1, out, i1, i2, i3, i4⟩ := mk_TypeDeclS_l hn (K0 := fun k a => some (k, a)) a [] n k (by unfold big at hn; omega) (by simp; omega) (by omega) h0 (by omega)
  exact ⟨k1, out, i1, i2, by omega⟩

theorem mk_RelDeclS_l {n : Nat} (hn : big ≤ n) {K0 : Int → (List (ByteArray × (List ByteArray) × Int)) → Option (Int × (List (ByteArray × (List ByteArray) × Int)))} : ∀ (post pre : List (ByteArray × (List ByteArray) × Int)) (f : Nat) (k : Int), post.length < f → pre.length + post.length ≤ 2147483648 → (List.map (Kd.bulk (.st (.pair (.str) (.pair (.sl (.str)) (.int .i64))))) post).sum ≤ 2147483648 → 0 < k → k + ((List.map (Kd.bulk (.st (.pair (.str) (.pair (.sl (.str)) (.int .i64))))) post).sum : Int) ≤ 4294967296 →
    ∃ k1 out, laws_markRelDeclS.l0 n K0 f k (pre.length : Int) (pre ++ post) = K0 k1 (pre ++ out) ∧ k ≤ k1 ∧ k1 ≤ k + ((List.map (Kd.bulk (.st (.pair (.str) (.pair (.sl (.str)) (.int .i64))))) post).sum : Int) ∧ out.length = post.length := by
  intro post
  induction post with
  | nil =>
    intro pre f k hf hl hs h0 hk
    obtain ⟨f, rfl⟩ : ∃ m, f = m + 1 := ⟨f - 1, by omega⟩
    refine ⟨k, [], ?_, by omega, by simp, rfl⟩
    · simp only [laws_markRelDeclS.l0, decide_eq_true_eq, end_lt, if_false]
  | cons x post ih =>
    intro pre f k hf hl hs h0 hk
    simp only [List.length_cons] at hf hl
    simp only [List.map_cons, List.sum_cons, Int.natCast_add] at hs hk ⊢
    obtain ⟨f, rfl⟩ : ∃ m, f = m + 1 := ⟨f - 1, by omega⟩
    have hw : IntKind.i64.wrap ((pre.length : Int) + 1) = (pre.length : Int) + 1 := wrap64 _ (by omega) (by omega)
    have hB : Kd.bulk (.st (.pair (.str) (.pair (.sl (.str)) (.int .i64)))) x = ((ByteArray.size x.1 + 1) + (Kd.bulk (.sl (.str)) x.2.1 + 1)) := rfl
    have hm1 := mtx_eq hn k (by omega)
    have hwk1 : IntKind.i64.wrap (k + 1) = k + 1 := wrap64 _ (by omega) (by omega)
    obtain ⟨q2, y2, a2, b2, c2⟩ := mk_StringS hn x.2.1 (by omega) (k + 1) (by omega) (by omega)
    have hwk2 : IntKind.i64.wrap (q2 + 1) = q2 + 1 := wrap64 _ (by omega) (by omega)
    obtain ⟨k1, out, i1, i2, i3, i4⟩ := ih (pre ++ [(((mtx n k, (y2, q2))) : ByteArray × (List ByteArray) × Int)]) f (q2 + 1) (by omega) (by simp; omega) (by omega) (by omega) (by omega)
    rw [List.length_append, List.length_singleton] at i1
    refine ⟨k1, (((mtx n k, (y2, q2))) : ByteArray × (List ByteArray) × Int) :: out, ?_, by omega, by omega, by simp [i4]⟩
    · simp only [laws_markRelDeclS.l0, decide_eq_true_eq, mid_lt, mid_in, if_true, Int.toNat_natCast, getD_mid, set_mid, hw, hm1, hwk1, hwk2, Option.bind_some, a2]
      simpa using i1
theorem mk_RelDeclS {n : Nat} (hn : big ≤ n) (a : List (ByteArray × (List ByteArray) × Int)) (hb : Kd.bulk (.sl (.st (.pair (.str) (.pair (.sl (.str)) (.int .i64))))) a ≤ 2147483648) (k : Int) (h0 : 0 < k) (hk : k + (Kd.bulk (.sl (.st (.pair (.str) (.pair (.sl (.str)) (.int .i64))))) a : Int) ≤ 4294967296) :
    ∃ k1 out, laws_markRelDeclS.F n a k = some (k1, out) ∧ k ≤ k1 ∧ k1 ≤ k + (Kd.bulk (.sl (.st (.pair (.str) (.pair (.sl (.str)) (.int .i64))))) a : Int) := by
  have hl0 := bulk_len (e := .st (.pair (.str) (.pair (.sl (.str)) (.int .i64)))) a
  have hl1 := bulk_sl (e := .st (.pair (.str) (.pair (.sl (.str)) (.int .i64)))) a
  obtain ⟨k1, out, i1, i2, i3, i4⟩ := mk_RelDeclS_l hn (K0 := fun k a => some (k, a)) a [] n k (by unfold big at hn; omega) (by simp; omega) (by omega) h0 (by omega)
  exact ⟨k1, out, i1, i2, by omega⟩

theorem mk_IntS_l {n : Nat} (hn : big ≤ n) {K0 : Int → (List Int) → Option (Int × (List Int))} : ∀ (post pre : List Int) (f : Nat) (k : Int), post.length < f → pre.length + post.length ≤ 2147483648 → (List.map (Kd.bulk (.int .i64)) post).sum ≤ 2147483648 → 0 < k → k + ((List.map (Kd.bulk (.int .i64)) post).sum : Int) ≤ 4294967296 →
    ∃ k1 out, laws_markIntS.l0 n K0 f k (pre.length : Int) (pre ++ post) = K0 k1 (pre ++ out) ∧ k ≤ k1 ∧ k1 ≤ k + ((List.map (Kd.bulk (.int .i64)) post).sum : Int) ∧ out.length = post.length ∧
      ∀ (pre2 : List Int) (g : Nat) (H0 : Int → Option Int), pre2.length = pre.length → post.length < g → laws_heldIntS.l0 n (pre2 ++ out) H0 g k (pre.length : Int) = H0 k1 := by
  intro post
  induction post with
  | nil =>
    intro pre f k hf hl hs h0 hk
    obtain ⟨f, rfl⟩ : ∃ m, f = m + 1 := ⟨f - 1, by omega⟩
    refine ⟨k, [], ?_, by omega, by simp, rfl, fun pre2 g H0 hp hg => ?_⟩
    · simp only [laws_markIntS.l0, decide_eq_true_eq, end_lt, if_false]
    · obtain ⟨g, rfl⟩ : ∃ m, g = m + 1 := ⟨g - 1, by omega⟩
      rw [← hp]
      simp only [laws_heldIntS.l0, decide_eq_true_eq, end_lt, if_false]
  | cons x post ih =>
    intro pre f k hf hl hs h0 hk
    simp only [List.length_cons] at hf hl
    simp only [List.map_cons, List.sum_cons, Int.natCast_add] at hs hk ⊢
    obtain ⟨f, rfl⟩ : ∃ m, f = m + 1 := ⟨f - 1, by omega⟩
    have hw : IntKind.i64.wrap ((pre.length : Int) + 1) = (pre.length : Int) + 1 := wrap64 _ (by omega) (by omega)
    have hB : Kd.bulk (.int .i64) x = 1 := rfl
    have hwk1 : IntKind.i64.wrap (k + 1) = k + 1 := wrap64 _ (by omega) (by omega)
    obtain ⟨k1, out, i1, i2, i3, i4, i5⟩ := ih (pre ++ [((k) : Int)]) f (k + 1) (by omega) (by simp; omega) (by omega) (by omega) (by omega)
    rw [List.length_append, List.length_singleton] at i1 i5
    refine ⟨k1, ((k) : Int) :: out, ?_, by omega, by omega, by simp [i4], fun pre2 g H0 hp hg => ?_⟩
    · simp only [laws_markIntS.l0, decide_eq_true_eq, mid_lt, mid_in, if_true, Int.toNat_natCast, getD_mid, set_mid, hw, hwk1, Option.bind_some]
      simpa using i1
    · obtain ⟨g, rfl⟩ : ∃ m, g = m + 1 := ⟨g - 1, by omega⟩
      have i6 := i5 (pre2 ++ [((k) : Int)]) g H0 (by simp [hp]) (by simp only [List.length_cons] at hg; omega)
      rw [← hp] at i6 hw ⊢
      simp only [laws_heldIntS.l0, decide_eq_true_eq, mid_lt, mid_in, if_true, Int.toNat_natCast, getD_mid, set_mid, hw, hwk1, Option.bind_some, decide_true, Bool.not_true, Bool.false_eq_true, if_false, seq_refl, beq_self_eq_true, Bool.not_false]
      simpa using i6
theorem mk_IntS {n : Nat} (hn : big ≤ n) (a : List Int) (hb : Kd.bulk (.sl (.int .i64)) a ≤ 2147483648) (k : Int) (h0 : 0 < k) (hk : k + (Kd.bulk (.sl (.int .i64)) a : Int) ≤ 4294967296) :
    ∃ k1 out, laws_markIntS.F n a k = some (k1, out) ∧ k ≤ k1 ∧ k1 ≤ k + (Kd.bulk (.sl (.int .i64)) a : Int) ∧ laws_heldIntS.F n out k = some k1 := by
  have hl0 := bulk_len (e := .int .i64) a
  have hl1 := bulk_sl (e := .int .i64) a
  obtain ⟨k1, out, i1, i2, i3, i4, i5⟩ := mk_IntS_l hn (K0 := fun k a => some (k, a)) a [] n k (by unfold big at hn; omega) (by simp; omega) (by omega) h0 (by omega)
  exact ⟨k1, out, i1, i2, by omega, i5 [] n _ rfl (by unfold big at hn; omega)⟩

theorem mk_ExpS_l {n : Nat} (hn : big ≤ n) {K0 : Int → (List (Int × ByteArray × List Int)) → Option (Int × (List (Int × ByteArray × List Int)))} : ∀ (post pre : List (Int × ByteArray × List Int)) (f : Nat) (k : Int), post.length < f → pre.length + post.length ≤ 2147483648 → (List.map (Kd.bulk (.st (.pair (.int .i64) (.pair (.str) (.sl (.int .i64)))))) post).sum ≤ 2147483648 → 0 < k → k + ((List.map (Kd.bulk (.st (.pair (.int .i64) (.pair (.str) (.sl (.int .i64)))))) post).sum : Int) ≤ 4294967296 →
    ∃ k1 out, laws_markExpS.l0 n K0 f k (pre.length : Int) (pre ++ post) = K0 k1 (pre ++ out) ∧ k ≤ k1 ∧ k1 ≤ k + ((List.map (Kd.bulk (.st (.pair (.int .i64) (.pair (.str) (.sl (.int .i64)))))) post).sum : Int) ∧ out.length = post.length := by
  intro post
  induction post with
  | nil =>
    intro pre f k hf hl hs h0 hk
    obtain ⟨f, rfl⟩ : ∃ m, f = m + 1 := ⟨f - 1, by omega⟩
    refine ⟨k, [], ?_, by omega, by simp, rfl⟩
    · simp only [laws_markExpS.l0, decide_eq_true_eq, end_lt, if_false]
  | cons x post ih =>
    intro pre f k hf hl hs h0 hk
    simp only [List.length_cons] at hf hl
    simp only [List.map_cons, List.sum_cons, Int.natCast_add] at hs hk ⊢
    obtain ⟨f, rfl⟩ : ∃ m, f = m + 1 := ⟨f - 1, by omega⟩
    have hw : IntKind.i64.wrap ((pre.length : Int) + 1) = (pre.length : Int) + 1 := wrap64 _ (by omega) (by omega)
    have hB : Kd.bulk (.st (.pair (.int .i64) (.pair (.str) (.sl (.int .i64))))) x = (1 + ((ByteArray.size x.2.1 + 1) + Kd.bulk (.sl (.int .i64)) x.2.2)) := rfl
    have hwk1 : IntKind.i64.wrap (k + 1) = k + 1 := wrap64 _ (by omega) (by omega)
    have hm1 := mtx_eq hn (k + 1) (by omega)
    have hwk2 : IntKind.i64.wrap (k + 1 + 1) = k + 1 + 1 := wrap64 _ (by omega) (by omega)
    obtain ⟨q2, y2, a2, b2, c2, _⟩ := mk_IntS hn x.2.2 (by omega) (k + 1 + 1) (by omega) (by omega)
    obtain ⟨k1, out, i1, i2, i3, i4⟩ := ih (pre ++ [(((k, (mtx n (k + 1), y2))) : Int × ByteArray × List Int)]) f q2 (by omega) (by simp; omega) (by omega) (by omega) (by omega)
    rw [List.length_append, List.length_singleton] at i1
    refine ⟨k1, (((k, (mtx n (k + 1), y2))) : Int × ByteArray × List Int) :: out, ?_, by omega, by omega, by simp [i4]⟩
    · simp only [laws_markExpS.l0, decide_eq_true_eq, mid_lt, mid_in, if_true, Int.toNat_natCast, getD_mid, set_mid, hw, hwk1, hm1, hwk2, Option.bind_some, a2]
      simpa using i1
theorem mk_ExpS {n : Nat} (hn : big ≤ n) (a : List (Int × ByteArray × List Int)) (hb : Kd.bulk (.sl (.st (.pair (.int .i64) (.pair (.str) (.sl (.int .i64)))))) a ≤ 2147483648) (k : Int) (h0 : 0 < k) (hk : k + (Kd.bulk (.sl (.st (.pair (.int .i64) (.pair (.str) (.sl (.int .i64)))))) a : Int) ≤ 4294967296) :
    ∃ k1 out, laws_markExpS.F n a k = some (k1, out) ∧ k ≤ k1 ∧ k1 ≤ k + (Kd.bulk (.sl (.st (.pair (.int .i64) (.pair (.str) (.sl (.int .i64)))))) a : Int) := by
  have hl0 := bulk_len (e := .st (.pair (.int .i64) (.pair (.str) (.sl (.int .i64))))) a
  have hl1 := bulk_sl (e := .st (.pair (.int .i64) (.pair (.str) (.sl (.int .i64))))) a
  obtain ⟨k1, out, i1, i2, i3, i4⟩ := mk_ExpS_l hn (K0 := fun k a => some (k, a)) a [] n k (by unfold big at hn; omega) (by simp; omega) (by omega) h0 (by omega)
  exact ⟨k1, out, i1, i2, by omega⟩

theorem mk_LitS_l {n : Nat} (hn : big ≤ n) {K0 : Int → (List (Int × ByteArray × List Int)) → Option (Int × (List (Int × ByteArray × List Int)))} : ∀ (post pre : List (Int × ByteArray × List Int)) (f : Nat) (k : Int), post.length < f → pre.length + post.length ≤ 2147483648 → (List.map (Kd.bulk (.st (.pair (.int .i64) (.pair (.str) (.sl (.int .i64)))))) post).sum ≤ 2147483648 → 0 < k → k + ((List.map (Kd.bulk (.st (.pair (.int .i64) (.pair (.str) (.sl (.int .i64)))))) post).sum : Int) ≤ 4294967296 →
    ∃ k1 out, laws_markLitS.l0 n K0 f k (pre.length : Int) (pre ++ post) = K0 k1 (pre ++ out) ∧ k ≤ k1 ∧ k1 ≤ k + ((List.map (Kd.bulk (.st (.pair (.int .i64) (.pair (.str) (.sl (.int .i64)))))) post).sum : Int) ∧ out.length = post.length := by
  intro post
  induction post with
  | nil =>
    intro pre f k hf hl hs h0 hk
    obtain ⟨f, rfl⟩ : ∃ m, f = m + 1 := ⟨f - 1, by omega⟩
    refine ⟨k, [], ?_, by omega, by simp, rfl⟩
    · simp only [laws_markLitS.l0, decide_eq_true_eq, end_lt, if_false]
  | cons x post ih =>
    intro pre f k hf hl hs h0 hk
    simp only [List.length_cons] at hf hl
    simp only [List.map_cons, List.sum_cons, Int.natCast_add] at hs hk ⊢
    obtain ⟨f, rfl⟩ : ∃ m, f = m + 1 := ⟨f - 1, by omega⟩
    have hw : IntKind.i64.wrap ((pre.length : Int) + 1) = (pre.length : Int) + 1 := wrap64 _ (by omega) (by omega)
    have hB : Kd.bulk (.st (.pair (.int .i64) (.pair (.str) (.sl (.int .i64))))) x = (1 + ((ByteArray.size x.2.1 + 1) + Kd.bulk (.sl (.int .i64)) x.2.2)) := rfl
    have hwk1 : IntKind.i64.wrap (k + 1) = k + 1 := wrap64 _ (by omega) (by omega)
    have hm1 := mtx_eq hn (k + 1) (by omega)
    have hwk2 : IntKind.i64.wrap (k + 1 + 1) = k + 1 + 1 := wrap64 _ (by omega) (by omega)
    obtain ⟨q2, y2, a2, b2, c2, _⟩ := mk_IntS hn x.2.2 (by omega) (k + 1 + 1) (by omega) (by omega)
    obtain ⟨k1, out, i1, i2, i3, i4⟩ := ih (pre ++ [(((k, (mtx n (k + 1), y2))) : Int × ByteArray × List Int)]) f q2 (by omega) (by simp; omega) (by omega) (by omega) (by omega)
    rw [List.length_append, List.length_singleton] at i1
    refine ⟨k1, (((k, (mtx n (k + 1), y2))) : Int × ByteArray × List Int) :: out, ?_, by omega, by omega, by simp [i4]⟩
    · simp only [laws_markLitS.l0, decide_eq_true_eq, mid_lt, mid_in, if_true, Int.toNat_natCast, getD_mid, set_mid, hw, hwk1, hm1, hwk2, Option.bind_some, a2]
      simpa using i1
theorem mk_LitS {n : Nat} (hn : big ≤ n) (a : List (Int × ByteArray × List Int)) (hb : Kd.bulk (.sl (.st (.pair (.int .i64) (.pair (.str) (.sl (.int .i64)))))) a ≤ 2147483648) (k : Int) (h0 : 0 < k) (hk : k + (Kd.bulk (.sl (.st (.pair (.int .i64) (.pair (.str) (.sl (.int .i64)))))) a : Int) ≤ 4294967296) :
    ∃ k1 out, laws_markLitS.F n a k = some (k1, out) ∧ k ≤ k1 ∧ k1 ≤ k + (Kd.bulk (.sl (.st (.pair (.int .i64) (.pair (.str) (.sl (.int .i64)))))) a : Int) := by
  have hl0 := bulk_len (e := .st (.pair (.int .i64) (.pair (.str) (.sl (.int .i64))))) a
  have hl1 := bulk_sl (e := .st (.pair (.int .i64) (.pair (.str) (.sl (.int .i64))))) a
  obtain ⟨k1, out, i1, i2, i3, i4⟩ := mk_LitS_l hn (K0 := fun k a => some (k, a)) a [] n k (by unfold big at hn; omega) (by simp; omega) (by omega) h0 (by omega)
  exact ⟨k1, out, i1, i2, by omega⟩

theorem mk_RuleS_l {n : Nat} (hn : big ≤ n) {K0 : Int → (List ((List (Int × ByteArray × List Int)) × (Int × ByteArray × List Int) × List (Int × ByteArray × List Int))) → Option (Int × (List ((List (Int × ByteArray × List Int)) × (Int × ByteArray × List Int) × List (Int × ByteArray × List Int))))} : ∀ (post pre : List ((List (Int × ByteArray × List Int)) × (Int × ByteArray × List Int) × List (Int × ByteArray × List Int))) (f : Nat) (k : Int), post.length < f → pre.length + post.length ≤ 2147483648 → (List.map (Kd.bulk (.st (.pair (.sl (.st (.pair (.int .i64) (.pair (.str) (.sl (.int .i64)))))) (.pair (.st (.pair (.int .i64) (.pair (.str) (.sl (.int .i64))))) (.sl (.st (.pair (.int .i64) (.pair (.str) (.sl (.int .i64)))))))))) post).sum ≤ 2147483648 → 0 < k → k + ((List.map (Kd.bulk (.st (.pair (.sl (.st (.pair (.int .i64) (.pair (.str) (.sl (.int .i64)))))) (.pair (.st (.pair (.int .i64) (.pair (.str) (.sl (.int .i64))))) (.sl (.st (.pair (.int .i64) (.pair (.str) (.sl (.int .i64)))))))))) post).sum : Int) ≤ 4294967296 →
    ∃ k1 out, laws_markRuleS.l0 n K0 f k (pre.length : Int) (pre ++ post) = K0 k1 (pre ++ out) ∧ k ≤ k1 ∧ k1 ≤ k + ((List.map (Kd.bulk (.st (.pair (.sl (.st (.pair (.int .i64) (.pair (.str) (.sl (.int .i64)))))) (.pair (.st (.pair (.int .i64) (.pair (.str) (.sl (.int .i64))))) (.sl (.st (.pair (.int .i64) (.pair (.str) (.sl (.int .i64)))))))))) post).sum : Int) ∧ out.length = post.length := by
  intro post
  induction post with
  | nil =>
    intro pre f k hf hl hs h0 hk
    obtain ⟨f, rfl⟩ : ∃ m, f = m + 1 := ⟨f - 1, by omega⟩
    refine ⟨k, [], ?_, by omega, by simp, rfl⟩
    · simp only [laws_markRuleS.l0, decide_eq_true_eq, end_lt, if_false]
  | cons x post ih =>
    intro pre f k hf hl hs h0 hk
    simp only [List.length_cons] at hf hl
    simp only [List.map_cons, List.sum_cons, Int.natCast_add] at hs hk ⊢
    obtain ⟨f, rfl⟩ : ∃ m, f = m + 1 := ⟨f - 1, by omega⟩
    have hw : IntKind.i64.wrap ((pre.length : Int) + 1) = (pre.length : Int) + 1 := wrap64 _ (by omega) (by omega)
    have hB : Kd.bulk (.st (.pair (.sl (.st (.pair (.int .i64) (.pair (.str) (.sl (.int .i64)))))) (.pair (.st (.pair (.int .i64) (.pair (.str) (.sl (.int .i64))))) (.sl (.st (.pair (.int .i64) (.pair (.str) (.sl (.int .i64))))))))) x = (Kd.bulk (.sl (.st (.pair (.int .i64) (.pair (.str) (.sl (.int .i64)))))) x.1 + ((1 + ((ByteArray.size x.2.1.2.1 + 1) + Kd.bulk (.sl (.int .i64)) x.2.1.2.2)) + Kd.bulk (.sl (.st (.pair (.int .i64) (.pair (.str) (.sl (.int .i64)))))) x.2.2)) := rfl
    obtain ⟨q1, y1, a1, b1, c1⟩ := mk_ExpS hn x.1 (by omega) k (by omega) (by omega)
    have hwk1 : IntKind.i64.wrap (q1 + 1) = q1 + 1 := wrap64 _ (by omega) (by omega)
    have hm2 := mtx_eq hn (q1 + 1) (by omega)
    have hwk2 : IntKind.i64.wrap (q1 + 1 + 1) = q1 + 1 + 1 := wrap64 _ (by omega) (by omega)
    obtain ⟨q3, y3, a3, b3, c3, _⟩ := mk_IntS hn x.2.1.2.2 (by omega) (q1 + 1 + 1) (by omega) (by omega)
    obtain ⟨q4, y4, a4, b4, c4⟩ := mk_LitS hn x.2.2 (by omega) q3 (by omega) (by omega)
    obtain ⟨k1, out, i1, i2, i3, i4⟩ := ih (pre ++ [(((y1, ((q1, (mtx n (q1 + 1), y3)), y4))) : (List (Int × ByteArray × List Int)) × (Int × ByteArray × List Int) × List (Int × ByteArray × List Int))]) f q4 (by omega) (by simp; omega) (by omega) (by omega) (by omega)
    rw [List.length_append, List.length_singleton] at i1
    refine ⟨k1, (((y1, ((q1, (mtx n (q1 + 1), y3)), y4))) : (List (Int × ByteArray × List Int)) × (Int × ByteArray × List Int) × List (Int × ByteArray × List Int)) :: out, ?_, by omega, by omega, by simp [i4]⟩
    · simp only [laws_markRuleS.l0, decide_eq_true_eq, mid_lt, mid_in, if_true, Int.toNat_natCast, getD_mid, set_mid, hw, hwk1, hm2, hwk2, Option.bind_some, a1, a3, a4]
      simpa using i1
theorem mk_RuleS {n : Nat} (hn : big ≤ n) (a : List ((List (Int × ByteArray × List Int)) × (Int × ByteArray × List Int) × List (Int × ByteArray × List Int))) (hb : Kd.bulk (.sl (.st (.pair (.sl (.st (.pair (.int .i64) (.pair (.str) (.sl (.int .i64)))))) (.pair (.st (.pair (.int .i64) (.pair (.str) (.sl (.int .i64))))) (.sl (.st (.pair (.int .i64) (.pair (.str) (.sl (.int .i64)))))))))) a ≤ 2147483648) (k : Int) (h0 : 0 < k) (hk : k + (Kd.bulk (.sl (.st (.pair (.sl (.st (.pair (.int .i64) (.pair (.str) (.sl (.int .i64)))))) (.pair (.st (.pair (.int .i64) (.pair (.str) (.sl (.int .i64))))) (.sl (.st (.pair (.int .i64) (.pair (.str) (.sl (.int .i64)))))))))) a : Int) ≤ 4294967296) :
    ∃ k1 out, laws_markRuleS.F n a k = some (k1, out) ∧ k ≤ k1 ∧ k1 ≤ k + (Kd.bulk (.sl (.st (.pair (.sl (.st (.pair (.int .i64) (.pair (.str) (.sl (.int .i64)))))) (.pair (.st (.pair (.int .i64) (.pair (.str) (.sl (.int .i64))))) (.sl (.st (.pair (.int .i64) (.pair (.str) (.sl (.int .i64)))))))))) a : Int) := by
  have hl0 := bulk_len (e := .st (.pair (.sl (.st (.pair (.int .i64) (.pair (.str) (.sl (.int .i64)))))) (.pair (.st (.pair (.int .i64) (.pair (.str) (.sl (.int .i64))))) (.sl (.st (.pair (.int .i64) (.pair (.str) (.sl (.int .i64))))))))) a
  have hl1 := bulk_sl (e := .st (.pair (.sl (.st (.pair (.int .i64) (.pair (.str) (.sl (.int .i64)))))) (.pair (.st (.pair (.int .i64) (.pair (.str) (.sl (.int .i64))))) (.sl (.st (.pair (.int .i64) (.pair (.str) (.sl (.int .i64))))))))) a
  obtain ⟨k1, out, i1, i2, i3, i4⟩ := mk_RuleS_l hn (K0 := fun k a => some (k, a)) a [] n k (by unfold big at hn; omega) (by simp; omega) (by omega) h0 (by omega)
  exact ⟨k1, out, i1, i2, by omega⟩

theorem mk_Prog {n : Nat} (hn : big ≤ n) (a : (List (ByteArray × List (ByteArray × List ByteArray))) × (List (ByteArray × (List ByteArray) × Int)) × List ((List (Int × ByteArray × List Int)) × (Int × ByteArray × List Int) × List (Int × ByteArray × List Int))) (hb : Kd.bulk (.st (.pair (.sl (.st (.pair (.str) (.sl (.st (.pair (.str) (.sl (.str)))))))) (.pair (.sl (.st (.pair (.str) (.pair (.sl (.str)) (.int .i64))))) (.sl (.st (.pair (.sl (.st (.pair (.int .i64) (.pair (.str) (.sl (.int .i64)))))) (.pair (.st (.pair (.int .i64) (.pair (.str) (.sl (.int .i64))))) (.sl (.st (.pair (.int .i64) (.pair (.str) (.sl (.int .i64))))))))))))) a ≤ 2147483648) (k : Int) (h0 : 0 < k) (hk : k + (Kd.bulk (.st (.pair (.sl (.st (.pair (.str) (.sl (.st (.pair (.str) (.sl (.str)))))))) (.pair (.sl (.st (.pair (.str) (.pair (.sl (.str)) (.int .i64))))) (.sl (.st (.pair (.sl (.st (.pair (.int .i64) (.pair (.str) (.sl (.int .i64)))))) (.pair (.st (.pair (.int .i64) (.pair (.str) (.sl (.int .i64))))) (.sl (.st (.pair (.int .i64) (.pair (.str) (.sl (.int .i64))))))))))))) a : Int) ≤ 4294967296) :
    ∃ k1 out, laws_markProg.F n a k = some (k1, out) ∧ k ≤ k1 ∧ k1 ≤ k + (Kd.bulk (.st (.pair (.sl (.st (.pair (.str) (.sl (.st (.pair (.str) (.sl (.str)))))))) (.pair (.sl (.st (.pair (.str) (.pair (.sl (.str)) (.int .i64))))) (.sl (.st (.pair (.sl (.st (.pair (.int .i64) (.pair (.str) (.sl (.int .i64)))))) (.pair (.st (.pair (.int .i64) (.pair (.str) (.sl (.int .i64))))) (.sl (.st (.pair (.int .i64) (.pair (.str) (.sl (.int .i64))))))))))))) a : Int) := by
  have hB : Kd.bulk (.st (.pair (.sl (.st (.pair (.str) (.sl (.st (.pair (.str) (.sl (.str)))))))) (.pair (.sl (.st (.pair (.str) (.pair (.sl (.str)) (.int .i64))))) (.sl (.st (.pair (.sl (.st (.pair (.int .i64) (.pair (.str) (.sl (.int .i64)))))) (.pair (.st (.pair (.int .i64) (.pair (.str) (.sl (.int .i64))))) (.sl (.st (.pair (.int .i64) (.pair (.str) (.sl (.int .i64))))))))))))) a = (Kd.bulk (.sl (.st (.pair (.str) (.sl (.st (.pair (.str) (.sl (.str)))))))) a.1 + (Kd.bulk (.sl (.st (.pair (.str) (.pair (.sl (.str)) (.int .i64))))) a.2.1 + Kd.bulk (.sl (.st (.pair (.sl (.st (.pair (.int .i64) (.pair (.str) (.sl (.int .i64)))))) (.pair (.st (.pair (.int .i64) (.pair (.str) (.sl (.int .i64))))) (.sl (.st (.pair (.int .i64) (.pair (.str) (.sl (.int .i64)))))))))) a.2.2)) := rfl
  obtain ⟨q1, y1, a1, b1, c1⟩ := mk_TypeDeclS hn a.1 (by omega) k (by omega) (by omega)
  obtain ⟨q2, y2, a2, b2, c2⟩ := mk_RelDeclS hn a.2.1 (by omega) q1 (by omega) (by omega)
  obtain ⟨q3, y3, a3, b3, c3⟩ := mk_RuleS hn a.2.2 (by omega) q2 (by omega) (by omega)
  refine ⟨((q3, (y1, (y2, y3)))).1, ((q3, (y1, (y2, y3)))).2, ?_, ?_, ?_⟩
  · unfold laws_markProg.F
    exact bind_eq a1 (bind_eq a2 (bind_eq a3 (rfl)))
  · show k ≤ q3
    omega
  · show q3 ≤ _
    omega

end Go.Abs
